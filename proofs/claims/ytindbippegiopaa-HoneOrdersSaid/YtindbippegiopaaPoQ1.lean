/- Hones, plainly: rows by what edges need; with which stones fewest strokes end; boxes without a stone. -/
import Derived.Test.YtindbippegiopaaPoMJ
import Derived.Test.YtindbippegiopaaPoMC
namespace Go.AH
open Go
section
variable {P : Program} {rd : Option Nat} {ty : TypeId} {e : Env} {σ : Heap} {x y : Operand}
def IntsAt (f : Nat → Int) (n : Nat) (xs : Array Value) : Prop := ∀ i < n, xs.toList[i]? = some (.int .i64 (f i))
theorem run_part1 {el : TypeId} {bytes : Nat} {z : Value} {w : World} (ht : Ty P el 1 false z bytes) {xs : Array Value} {a : Value} {o : Nat} (h1 : xs.toList[o]? = some a) : (part el xs o).run P w = .ok a w := by
  have e1 := ht.isAgg (w := w)
  have h2 : xs[o]? = some a := by simpa using h1
  simp [part, e1, h2]
theorem run_eqItems1 {el : TypeId} {bytes : Nat} {z : Value} {w : World} (ht : Ty P el 1 false z bytes) (hk : Ik P el .i64) (d : Nat) {n : Nat} {f g : Nat → Int} {xs ys : Array Value} (hx : IntsAt f n xs) (hy : IntsAt g n ys) :
    ∀ is : List Nat, (∀ i ∈ is, i < n) → (Op.eqItems (d + 2) el 1 xs ys is).run P w = .ok (decide (∀ i ∈ is, f i = g i)) w
  | [], _ => by simp [Op.eqItems]
  | i :: is, h => by
    have hi := h i (by simp)
    have ih := run_eqItems1 (w := w) ht hk d hx hy is fun j hj => h j (List.mem_cons_of_mem _ hj)
    have q : (Op.equalIn (d + 2) el (.int .i64 (f i)) (.int .i64 (g i))).run P w = .ok (decide (f i = g i)) w := by
      have := hk.und
      simp [Op.equalIn, underlying, this]
      rfl
    have a1 : (part el xs (i * 1)).run P w = .ok (.int .i64 (f i)) w := run_part1 ht (by rw [Nat.mul_one]; exact hx i hi)
    have a2 : (part el ys (i * 1)).run P w = .ok (.int .i64 (g i)) w := run_part1 ht (by rw [Nat.mul_one]; exact hy i hi)
    simp only [Op.eqItems, Sem.run_bind, a1, a2, q, Result.andThen_ok]
    by_cases hfg : f i = g i
    · simp [ih, hfg]
    · simp [hfg]
theorem ok_eqArrI {t t' el n bytes : Nat} {z : Value} {f g : Nat → Int} {xs ys : List Value} [ha : Ar P t n el] [ht : Ty P el 1 false z bytes] [hk : Ik P el .i64] (hg : P.eqGuardType P.depth t = false)
    (hx : evalO e x = some (.agg xs.toArray)) (hy : evalO e y = some (.agg ys.toArray)) (hpx : plainL xs = true) (hpy : plainL ys = true) (hf : IntsAt f n xs.toArray) (hgg : IntsAt g n ys.toArray) :
    OpOk P rd (.binOp .eql t x y t') ty e σ (.bool (decide (∀ i ∈ List.range n, f i = g i))) σ :=
  ok_plain (by simp) rfl fun o ho _ A hA w => by
    have h1 := hA x (by simp [Op.operands]) _ hx hpx
    have h2 := hA y (by simp [Op.operands]) _ hy hpy
    obtain ⟨ie, i1, i2, i3, i4⟩ := ht.info
    have hc : P.cellsOf el = 1 := by simp [Program.cellsOf, i1, i2]
    have g1 := run_equalIn_array (P := P) (w := w) 9999 xs.toArray ys.toArray ha.und i1
    rw [hc] at g1
    have g2 := run_eqItems1 (w := w) ht hk 9997 hf hgg (List.range n) (fun i hi => List.mem_range.1 hi)
    rw [g2] at g1
    simp only [execOp, ho, h1, h2]
    simp only [run_eqGuard_agg _ _ _ _ _ _ _ hg, run_eql_struct, g1, Sem.run_bind, Result.andThen_ok, Sem.run_pure]
theorem ok_copy0 {t el size bytes i o c : Nat} {agg : Bool} {z : Value} {t2 : TypeId} {ad : Option Addr} {c2 : Nat} [ha : Sl P t el] [ht : Ty P el size agg z bytes] (hx : evalO e x = some (.slice (some ⟨i, o, none⟩) 0 c)) (hy : evalO e y = some (.slice ad 0 c2)) (hs : slOk (.slice ad 0 c2) = true) :
    OpOk P rd (.call { callee := .builtin .copy, args := #[x, y], argTypes := #[t, t2] }) ty e σ (.int .i64 ((0 : Nat) : Int)) σ :=
  opok_run (by simp) fun op ho _ G w0 ρ A w hs' hop => by
    have hxr := hop x (by simp [Op.operands, Call.operands]) _ hx
    have hyr := hop y (by simp [Op.operands, Call.operands]) _ hy
    have hx' : ∃ a c', A.eval x = .slice a 0 c' := by
      generalize hr : A.eval x = r at hxr
      cases hxr with
      | emptySlice _ _ a c => exact ⟨a, c, rfl⟩
      | slice _ _ _ _ c' _ _ => exact ⟨_, c', rfl⟩
      | sliceG _ _ _ _ _ _ _ _ hq => simp at hq
    have hy' : ∃ a c', A.eval y = .slice a 0 c' := by
      generalize hr : A.eval y = r at hyr
      cases hyr with
      | nilSlice => exact ⟨_, _, rfl⟩
      | zslice => exact ⟨_, _, rfl⟩
      | zsliceZ hq => simp at hq
      | emptySlice _ _ a c => exact ⟨a, c, rfl⟩
      | slice _ _ _ _ c' _ _ => exact ⟨_, c', rfl⟩
      | gslice _ _ _ _ c' => exact ⟨_, c', rfl⟩
      | sliceG _ _ _ _ _ _ _ _ hq => simp at hq
      | gsliceG _ _ _ _ _ _ _ _ hq => simp at hq
    obtain ⟨a, cx, hx'⟩ := hx'
    obtain ⟨b, cy, hy'⟩ := hy'
    have hf : (Builtin.firstCells size 0 (.slice b 0 cy)).run P w = .ok #[] w := by
      cases b with
      | none => rfl
      | some b => exact run_firstCells_some (P := P) w size 0 b 0 cy [] (by simp) (by simp)
    refine ⟨ρ, .int .i64 ((0 : Nat) : Int), w, .inl ?_, .int _ _, by omega, fun _ _ => rfl, hs'⟩
    cases a with
    | none => simp [execOp, ho, resolve, invoke, builtin, hx', hy', Builtin.copy_, run_und ha.und, ht.sizeOf, Builtin.lenOf, hf, goInt]
    | some a => simp [execOp, ho, resolve, invoke, builtin, hx', hy', Builtin.copy_, run_und ha.und, ht.sizeOf, Builtin.lenOf, hf, goInt, storeCells]
theorem ok_copyV {t el size bytes i o j n c : Nat} {agg : Bool} {z : Value} {t2 : TypeId} {news : List Value} {σ' : Heap} [ha : Sl P t el] [ht : Ty P el size agg z bytes] (hx : evalO e x = some (.slice (some ⟨i, o, none⟩) n c))
    (hy : evalO e y = some (slvV j size n)) (hn : 0 < n) (hc : cellsAt σ j 0 (n * size) = some news) (h1 : news.all (·.oneCell') = true) (hp : putCells σ i o news = some σ') :
    OpOk P rd (.call { callee := .builtin .copy, args := #[x, y], argTypes := #[t, t2] }) ty e σ (.int .i64 (n : Int)) σ' :=
  opok_run (by simp) fun op ho _ G w0 ρ A w hs hop => by
    have hxr := hop x (by simp [Op.operands, Call.operands]) _ hx
    have hyr := hop y (by simp [Op.operands, Call.operands]) _ hy
    have hx' : ∃ c', A.eval x = .slice (some ⟨(ρ i).b, (ρ i).o + o, none⟩) n c' := by
      generalize hr : A.eval x = r at hxr
      cases hxr with
      | emptySlice => omega
      | slice _ _ _ _ c' _ _ => exact ⟨c', rfl⟩
      | sliceG _ _ _ _ _ _ _ _ hq => simp at hq
    have hy' : ∃ c', A.eval y = .slice (some ⟨(ρ j).b, (ρ j).o + 0, none⟩) n c' := by
      obtain ⟨m, rfl⟩ : ∃ m, n = m + 1 := ⟨n - 1, by omega⟩
      simp only [slvV] at hyr
      generalize hr : A.eval y = r at hyr
      cases hyr with
      | gslice _ _ _ _ c' => exact ⟨c', rfl⟩
      | gsliceG _ _ _ _ _ _ _ _ hq => simp at hq
    obtain ⟨cx, hx'⟩ := hx'
    obtain ⟨cy, hy'⟩ := hy'
    obtain ⟨rs, hrs, hrl, hrel⟩ := read_cells hs hc
    obtain ⟨w', g1, g2, g3⟩ := run_put (P := P) hs hp hrel (by have := arel_oneCell hrel h1; simpa using this)
    have hf := run_firstCells_some (P := P) w size n ⟨(ρ j).b, (ρ j).o + 0, none⟩ n cy rs hrl hrs
    rw [Nat.add_zero] at hf
    refine ⟨ρ, .int .i64 n, w', .inl ?_, .int _ _, by omega, fun _ _ => rfl, g2⟩
    simp [execOp, ho, resolve, invoke, builtin, hx', hy', Builtin.copy_, run_und ha.und, ht.sizeOf, Builtin.lenOf, hf, g1, goInt]
theorem ok_eqNil {t t' el i o n c : Nat} [ha : Sl P t el] (hx : evalO e x = some (.slice (some ⟨i, o, none⟩) n c)) (hn : 0 < n) (hy : evalO e y = some (.slice none 0 0)) :
    OpOk P rd (.binOp .eql t x y t') ty e σ (.bool false) σ :=
  opok_run (by simp) fun op ho _ G w0 ρ A w hs hop => by
    have hxr := hop x (by simp [Op.operands]) _ hx
    have hyr := hop y (by simp [Op.operands]) _ hy
    have hx' : ∃ a c', A.eval x = .slice (some a) n c' := by
      generalize hr : A.eval x = r at hxr
      cases hxr with
      | emptySlice => omega
      | slice _ _ _ _ c' _ _ => exact ⟨_, c', rfl⟩
      | sliceG _ _ _ _ _ _ _ _ hq => simp at hq
    have hy' : A.eval y = .slice none 0 0 := vrel_plain_eq hyr rfl
    obtain ⟨a, cx, hx'⟩ := hx'
    refine ⟨ρ, .bool false, w, .inl ?_, .bool _, by omega, fun _ _ => rfl, hs⟩
    have hu := ha.und
    have h3 : (eqGuard .eql t x y (.slice (some a) n cx) (.slice none 0 0)).run P w = .ok () w := by unfold eqGuard; split <;> rfl
    have h5 : ∀ d, (Op.equalIn (d + 1) t (.slice (some a) n cx) (.slice none 0 0)).run P w = .ok false w := fun d => by simp [Op.equalIn, underlying, hu]
    have h4 : (Op.equal t (.slice (some a) n cx) (.slice none 0 0)).run P w = .ok false w := h5 9999
    simp [execOp, ho, hx', hy', h3, binOp, h4]
theorem ok_sliceLH {t el size bytes i o n c l h : Nat} {agg : Bool} {z : Value} {k k' : IntKind} {a : Operand} [ha : Sl P t el] [ht : Ty P el size agg z bytes] (hx : evalO e x = some (.slice (some ⟨i, o, none⟩) n c)) (hy : evalO e y = some (.int k (l : Nat))) (hz : evalO e a = some (.int k' (h : Nat))) (hc : l ≤ h) (hn : h ≤ c) :
    OpOk P rd (.slice t x (some y) (some a) none) ty e σ (.slice (some ⟨i, o + l * size, none⟩) (h - l) (c - l)) σ :=
  opok_run (by simp) fun op ho _ G w0 ρ A w hs hop => by
    have hv := hop x (by simp [Op.operands]) _ hx
    have hi := vrel_plain_eq (hop y (by simp [Op.operands]) _ hy) rfl
    have hj := vrel_plain_eq (hop a (by simp [Op.operands]) _ hz) rfl
    obtain ⟨e1, e2⟩ := sl_elem ha
    generalize hr : A.eval x = r at hv
    cases hv with
    | emptySlice _ _ a' c' =>
      have h0 : l = 0 := by omega
      have h1 : h = 0 := by omega
      subst h0 h1
      have := run_slice_lh (P := P) w t a' 0 c' e1 k k' 0 0 (by omega) (by omega) (by omega)
      refine ⟨ρ, sliced a' 0 0 c' size, w, .inl ?_, ?_, Nat.le_refl _, fun _ _ => rfl, hs⟩
      · simp only [Int.toNat_zero] at this
        simp [execOp, ho, hr, hi, hj, run_sliceAt_slice _ _ _ _ _ _ e1, this, e2, ht.sizeOf]
      · simp only [sliced]; exact .emptySlice _ _ _ _
    | slice _ _ _ _ c' hcc hil =>
      have := run_slice_lh (P := P) w t (some ⟨(ρ i).b, (ρ i).o + o, none⟩) n c' e1 k k' l h (by omega) (by omega) (by omega)
      simp only [Int.toNat_natCast] at this
      refine ⟨ρ, sliced (some ⟨(ρ i).b, (ρ i).o + o, none⟩) l h c' size, w, .inl ?_, ?_, Nat.le_refl _, fun _ _ => rfl, hs⟩
      · simp [execOp, ho, hr, hi, hj, run_sliceAt_slice _ _ _ _ _ _ e1, this, e2, ht.sizeOf]
      · simp only [sliced]
        by_cases hcl : c' = l
        · have h1 : h - l = 0 := by omega
          have h2 : c - l = 0 := by omega
          rw [h1, h2]; exact .emptySlice _ _ _ _
        · rw [if_neg hcl]
          simp only [Option.map_some, addr_add]
          rw [Nat.add_assoc]
          exact .slice _ _ _ _ _ (by omega) hil
    | sliceG _ _ _ _ _ _ _ _ hq => simp at hq
theorem ok_slice3 {t el size bytes i o n c l h m : Nat} {agg : Bool} {z : Value} {k k' k2 : IntKind} {a b : Operand} [ha : Sl P t el] [ht : Ty P el size agg z bytes] (hx : evalO e x = some (.slice (some ⟨i, o, none⟩) n c)) (hy : evalO e y = some (.int k (l : Nat))) (hz : evalO e a = some (.int k' (h : Nat))) (hb : evalO e b = some (.int k2 (m : Nat))) (hc : l ≤ h) (hn : h ≤ m) (hm : m ≤ c) :
    OpOk P rd (.slice t x (some y) (some a) (some b)) ty e σ (.slice (some ⟨i, o + l * size, none⟩) (h - l) (m - l)) σ :=
  opok_run (by simp) fun op ho _ G w0 ρ A w hs hop => by
    have hv := hop x (by simp [Op.operands]) _ hx
    have hi := vrel_plain_eq (hop y (by simp [Op.operands]) _ hy) rfl
    have hj := vrel_plain_eq (hop a (by simp [Op.operands]) _ hz) rfl
    have hk := vrel_plain_eq (hop b (by simp [Op.operands]) _ hb) rfl
    obtain ⟨e1, e2⟩ := sl_elem ha
    generalize hr : A.eval x = r at hv
    cases hv with
    | emptySlice _ _ a' c' =>
      have h0 : l = 0 := by omega
      have h1 : h = 0 := by omega
      have h2 : m = 0 := by omega
      subst h0 h1 h2
      have := run_slice_lhm (P := P) w t a' 0 c' e1 k k' k2 0 0 0 (by omega) (by omega) (by omega) (by omega)
      refine ⟨ρ, sliced a' 0 0 0 size, w, .inl ?_, ?_, Nat.le_refl _, fun _ _ => rfl, hs⟩
      · simp only [Int.toNat_zero] at this
        simp [execOp, ho, hr, hi, hj, hk, run_sliceAt_slice _ _ _ _ _ _ e1, this, e2, ht.sizeOf]
      · simp only [sliced]; exact .emptySlice _ _ _ _
    | slice _ _ _ _ c' hcc hil =>
      have := run_slice_lhm (P := P) w t (some ⟨(ρ i).b, (ρ i).o + o, none⟩) n c' e1 k k' k2 l h m (by omega) (by omega) (by omega) (by omega)
      simp only [Int.toNat_natCast] at this
      refine ⟨ρ, sliced (some ⟨(ρ i).b, (ρ i).o + o, none⟩) l h m size, w, .inl ?_, ?_, Nat.le_refl _, fun _ _ => rfl, hs⟩
      · simp [execOp, ho, hr, hi, hj, hk, run_sliceAt_slice _ _ _ _ _ _ e1, this, e2, ht.sizeOf]
      · simp only [sliced]
        by_cases hcl : m = l
        · have h1 : h - l = 0 := by omega
          have h2 : m - l = 0 := by omega
          rw [h1, h2]; exact .emptySlice _ _ _ _
        · rw [if_neg hcl]
          simp only [Option.map_some, addr_add]
          rw [Nat.add_assoc]
          exact .slice _ _ _ _ _ (by omega) hil
    | sliceG _ _ _ _ _ _ _ _ hq => simp at hq
end
section
variable {P : Program} {n0 N : Nat} {K : Env → List Nat → Heap → Prop} {e : Env} {mk : List Nat} {σ : Heap} {all : List Oper} {listed : List Bool} {fuel : Nat}
def twoAt (all : List Oper) (listed : List Bool) (i j : Nat) : Bool := match Region.ready .any all.toArray listed.toArray with | [a, b] => Nat.beq a i && Nat.beq b j | _ => false
theorem wa_two (i j : Nat) {o o2 : Oper} (hi : all[i]? = some o) (hj : all[j]? = some o2) (h : WOps P n0 N none all [o] (fun e' mk' σ' => WAny P n0 N all fuel (listed.set i true) K e' mk' σ') e mk σ)
    (h2 : WOps P n0 N none all [o2] (fun e' mk' σ' => WAny P n0 N all fuel (listed.set j true) K e' mk' σ') e mk σ) (hr : twoAt all listed i j = true := by decide +kernel) : WAny P n0 N all (fuel + 1) listed K e mk σ := by
  intro G w0 ρ0 A w hinv
  have hrd : Region.ready .any all.toArray listed.toArray = [i, j] := by
    unfold twoAt at hr
    split at hr
    · rename_i a b hk
      rw [Bool.and_eq_true] at hr
      rw [hk, Nat.eq_of_beq_eq_true hr.1, Nat.eq_of_beq_eq_true hr.2]
    · cases hr
  have go : ∀ (q : Nat) (o : Oper), all[q]? = some o → WOps P n0 N none all [o] (fun e' mk' σ' => WAny P n0 N all fuel (listed.set q true) K e' mk' σ') e mk σ →
      wpOpIn Fence.wide 0 P all.toArray (fun ex A' w' => ex = .normal ∧ ∃ e' mk' σ', K e' mk' σ' ∧ Inv n0 N G w0 ρ0 e' mk' σ' A' w') q (wpAnyIn Fence.wide 0 P .any all.toArray (fun ex A' w' => ex = .normal ∧ ∃ e' mk' σ', K e' mk' σ' ∧ Inv n0 N G w0 ρ0 e' mk' σ' A' w') fuel (listed.toArray.setIfInBounds q true)) A w := by
    intro q o hq h
    have := h G w0 ρ0 A w hinv (fun ex A' w' => match ex with | .normal => wpAnyIn Fence.wide 0 P .any all.toArray (fun ex A' w' => ex = .normal ∧ ∃ e' mk' σ', K e' mk' σ' ∧ Inv n0 N G w0 ρ0 e' mk' σ' A' w') fuel (listed.toArray.setIfInBounds q true) A' w' | _ => False) (fun e' mk' σ' A' w' hk hinv' => by
      have := hk G w0 ρ0 A' w' hinv'
      simpa using this)
    unfold wpOpIn
    simp only [List.getElem?_toArray, hq]
    simp only [wpL] at this
    split
    · rename_i hw
      rw [if_pos hw] at this
      exact Oper_wpIn_post (fun c a w hq => hq.elim) (fun a w hq => hq.elim) this
    · rename_i hw
      rw [if_neg hw] at this
      exact ⟨fun f _ => fen_fn ρ0 none _, this⟩
  refine wpAnyIn_all hrd (by simp) fun q hq => ?_
  rcases List.mem_cons.1 hq with rfl | hq
  · exact go q o hi h
  · rw [List.mem_singleton.1 hq] at *
    exact go j o2 hj h2
end
end Go.AH
namespace Go.AH
open Go
def prtAt (σ : Heap) (p : Nat × Nat) (cs : List Value) : Prop := ∃ all, arrAt σ p.1 all ∧ (all.drop p.2).take cs.length = cs ∧ p.2 + cs.length ≤ all.length
theorem prtAt_arr {σ : Heap} {b : Nat} {cs : List Value} (h : arrAt σ b cs) : prtAt σ (b, 0) cs := ⟨cs, h, by simp, by simp⟩
theorem cellsAt_prt {σ : Heap} {p : Nat × Nat} {cs : List Value} (h : prtAt σ p cs) : cellsAt σ p.1 p.2 cs.length = some cs := by
  obtain ⟨all, h, h1, h2⟩ := h
  have e : (p.2 + cs.length).ble all.length = true := Nat.ble_eq_true_of_le h2
  rcases h with h | h | ⟨t, h⟩ <;> simp [cellsAt, h, e, h1]
def PartsAt (σ : Heap) : List (List Value) → List (Nat × Nat) → Prop
  | [], [] => True
  | c :: cs, b :: bs => prtAt σ b c ∧ PartsAt σ cs bs
  | _, _ => False
def psR (bs : List (Nat × Nat)) : Rho := fun k => match bs[k]? with | some b => ⟨b.1, b.2, 0⟩ | none => ⟨k, 0, 0⟩
theorem partsAt_get {σ : Heap} : ∀ {cs : List (List Value)} {bs : List (Nat × Nat)}, PartsAt σ cs bs → ∀ (k : Nat) (c : List Value), cs[k]? = some c → ∃ b, bs[k]? = some b ∧ prtAt σ b c
  | [], [], _, k, c, hk => by simp at hk
  | c0 :: cs, b0 :: bs, h, k, c, hk => by
    cases k with
    | zero => simp at hk; subst hk; exact ⟨b0, rfl, h.1⟩
    | succ k => exact partsAt_get h.2 k c (by simpa using hk)
  | [], _ :: _, h, _, _, _ => h.elim
  | _ :: _, [], h, _, _, _ => h.elim
section
variable {P : Program} {σ : Heap} {f : FuncId}
theorem Ev.partsN {args1 args : List Value} {v1 v : Value} {news news' : Heap} (css : List (List Value)) (bs : List (Nat × Nat)) (h : Ev P f args1 (css.map .ro) v1 (css.map .ro ++ news)) (hb : PartsAt σ css bs) (ha : AS css.length (psR bs) args1 args)
    (hpl : css.all plainL = true) (hm : news.all isMem = true) (hv : ren (shf css.length σ.length (psR bs)) v1 = v) (hn : news.map (renO (shf css.length σ.length (psR bs))) = news') (hni : σ.all (fun o => !isIter o) = true) : Ev P f args σ v (σ ++ news') := by
  obtain ⟨h1, h2⟩ := as_get ha
  subst hv hn
  refine ACall.frame (π := psR bs) h (fun k o hk => ?_) (fun k hk => ?_) hni h1 (by simpa using h2) ?_
  · rw [List.getElem?_map] at hk
    obtain ⟨c, hc, rfl⟩ := Option.map_eq_some_iff.1 hk
    obtain ⟨b, g1, g2⟩ := partsAt_get hb k c hc
    refine .inl ⟨c, rfl, .inr ⟨c, ?_, fun j hj _ => vrel_plainL c (List.all_eq_true.1 hpl c (List.mem_of_getElem? hc)) j hj⟩⟩
    simp only [psR, g1]
    exact cellsAt_prt g2
  · simp only [List.length_map] at hk
    obtain ⟨b, g1, g2⟩ := partsAt_get hb k css[k] (by simp [hk])
    simp only [psR, g1]
    obtain ⟨all, g2, _⟩ := g2
    rcases g2 with g2 | g2 | ⟨t, g2⟩ <;> exact idx_lt g2
  · rintro v2 s1 ⟨rfl, rfl⟩
    exact ⟨news, rfl, hm, by simp⟩
theorem Ev.parts {args1 args : List Value} {v : Value} (css : List (List Value)) (bs : List (Nat × Nat)) (h : Ev P f args1 (css.map .ro) v (css.map .ro)) (hb : PartsAt σ css bs) (ha : AS css.length (psR bs) args1 args)
    (hpl : css.all plainL = true) (hv : plain v = true) (hni : σ.all (fun o => !isIter o) = true) : Ev P f args σ v σ := by
  have := Ev.partsN (news := []) (news' := []) css bs (by simpa using h) hb ha hpl rfl (ren_plain v hv) rfl hni
  simpa using this
end
end Go.AH
namespace Go.AH
open Go
section
variable {P : Program} {n0 N : Nat} {K : Env → List Nat → Heap → Prop} {mk : List Nat} {all : List Oper}
def readyOf (all : List Oper) (L : List Bool) : List Nat := Region.ready .any all.toArray L.toArray
def cntF : List Bool → Nat
  | [] => 0
  | b :: L => (if b then 0 else 1) + cntF L
def WStep (P : Program) (n0 N : Nat) (all : List Oper) (mk : List Nat) (E : List Bool → Env) (S : List Bool → Heap) (L : List Bool) (i : Nat) : Prop :=
  ∃ o, all[i]? = some o ∧ WOps P n0 N none all [o] (fun e' mk' σ' => mk' = mk ∧ StRef n0 σ' (S (L.set i true)) e' (E (L.set i true))) (E L) mk (S L)
def tabOk (all : List Oper) (tab : List (List Bool × List Nat)) : Bool :=
  tab.all fun p => (readyOf all p.1 == p.2) && p.2.all fun i => (tab.any fun q => q.1 == p.1.set i true) && Nat.blt (cntF (p.1.set i true)) (cntF p.1)
theorem wa_walk {E : List Bool → Env} {S : List Bool → Heap} {tab : List (List Bool × List Nat)} (hm : ∀ i ∈ mk, i < n0) (ht : tabOk all tab = true) (hs : ∀ p ∈ tab, ∀ i ∈ p.2, WStep P n0 N all mk E S p.1 i)
    (hk : ∀ p ∈ tab, p.2 = [] → K (E p.1) mk (S p.1)) : ∀ (fuel : Nat) (p : List Bool × List Nat), p ∈ tab → cntF p.1 ≤ fuel → WAny P n0 N all fuel p.1 K (E p.1) mk (S p.1) := by
  have hp : ∀ p ∈ tab, readyOf all p.1 = p.2 ∧ ∀ i ∈ p.2, (∃ q ∈ tab, q.1 = p.1.set i true) ∧ cntF (p.1.set i true) < cntF p.1 := by
    intro p hpt
    have := List.all_eq_true.1 ht p hpt
    rw [Bool.and_eq_true] at this
    refine ⟨by simpa using this.1, fun i hi => ?_⟩
    have h2 := List.all_eq_true.1 this.2 i hi
    rw [Bool.and_eq_true] at h2
    obtain ⟨q, hq, he⟩ := List.any_eq_true.1 h2.1
    exact ⟨⟨q, hq, by simpa using he⟩, by simpa [Nat.blt_eq] using h2.2⟩
  have hend : ∀ fuel (p : List Bool × List Nat), p ∈ tab → p.2 = [] → WAny P n0 N all fuel p.1 K (E p.1) mk (S p.1) := fun fuel p hpt h0 => by
    refine wa_done ?_ (hk p hpt h0)
    have := (hp p hpt).1
    unfold readyOf at this
    unfold noneAt
    rw [this, h0]; rfl
  intro fuel
  induction fuel with
  | zero =>
    intro p hpt hc
    refine hend 0 p hpt ?_
    cases h : p.2 with
    | nil => rfl
    | cons i is =>
      have := ((hp p hpt).2 i (by rw [h]; simp)).2
      omega
  | succ fuel ih =>
    intro p hpt hc
    by_cases h0 : p.2 = []
    · exact hend _ p hpt h0
    · intro G w0 ρ0 A w hinv
      refine wpAnyIn_all (hp p hpt).1 h0 fun q hq => ?_
      obtain ⟨⟨q', hq', he'⟩, hlt⟩ := (hp p hpt).2 q hq
      obtain ⟨o, ho, h⟩ := hs p hpt q hq
      have := h G w0 ρ0 A w hinv (fun ex A' w' => match ex with | .normal => wpAnyIn Fence.wide 0 P .any all.toArray (fun ex A' w' => ex = .normal ∧ ∃ e' mk' σ', K e' mk' σ' ∧ Inv n0 N G w0 ρ0 e' mk' σ' A' w') fuel (p.1.toArray.setIfInBounds q true) A' w' | _ => False) (fun e' mk' σ' A' w' hk hinv' => by
        obtain ⟨rfl, hst⟩ := hk
        have h2 := ih q' hq' (by rw [he']; omega)
        rw [he'] at h2
        have h3 := h2 G w0 ρ0 A' w' (inv_ref hst hm hinv')
        simpa using h3)
      unfold wpOpIn
      simp only [List.getElem?_toArray, ho]
      simp only [wpL] at this
      split
      · rename_i hw
        rw [if_pos hw] at this
        exact Oper_wpIn_post (fun c a w hq => hq.elim) (fun a w hq => hq.elim) this
      · rename_i hw
        rw [if_neg hw] at this
        exact ⟨fun f _ => fen_fn ρ0 none _, this⟩
def StepL (P : Program) (n0 N : Nat) (all : List Oper) (mk : List Nat) (E : List Bool → Env) (S : List Bool → Heap) (L : List Bool) : List Nat → Prop
  | [] => True
  | i :: is => WStep P n0 N all mk E S L i ∧ StepL P n0 N all mk E S L is
def StepsT (P : Program) (n0 N : Nat) (all : List Oper) (mk : List Nat) (E : List Bool → Env) (S : List Bool → Heap) : List (List Bool × List Nat) → Prop
  | [] => True
  | p :: r => StepL P n0 N all mk E S p.1 p.2 ∧ StepsT P n0 N all mk E S r
theorem stepL_get {E : List Bool → Env} {S : List Bool → Heap} {L : List Bool} : ∀ {is : List Nat}, StepL P n0 N all mk E S L is → ∀ i ∈ is, WStep P n0 N all mk E S L i
  | [], _, i, hi => by simp at hi
  | j :: is, h, i, hi => by
    rcases List.mem_cons.1 hi with rfl | hi
    · exact h.1
    · exact stepL_get h.2 i hi
theorem stepsT_get {E : List Bool → Env} {S : List Bool → Heap} : ∀ {tab : List (List Bool × List Nat)}, StepsT P n0 N all mk E S tab → ∀ p ∈ tab, ∀ i ∈ p.2, WStep P n0 N all mk E S p.1 i
  | [], _, p, hp => by simp at hp
  | q :: tab, h, p, hp => by
    rcases List.mem_cons.1 hp with rfl | hp
    · exact stepL_get h.1
    · exact stepsT_get h.2 p hp
def tabEnd (tab : List (List Bool × List Nat)) (L1 : List Bool) : Bool := tab.all fun p => !p.2.isEmpty || p.1 == L1
theorem W_regionT {Q : Post} {e : Env} {σ : Heap} {id : Nat} (E : List Bool → Env) (S : List Bool → Heap) (tab : List (List Bool × List Nat)) (L1 : List Bool) (hmx : P.follows .mixedOrders = true) (hm : ∀ i ∈ mk, i < n0) (ht : tabOk all tab = true) (he : tabEnd tab L1 = true)
    (h00 : (tab.any fun p => p.1 == List.replicate all.length false) = true) (hc : Nat.ble (cntF (List.replicate all.length false)) all.length = true) (h0 : StRef n0 σ (S (List.replicate all.length false)) e (E (List.replicate all.length false)))
    (hs : StepsT P n0 N all mk E S tab) (hk : Q .normal (E L1) mk (S L1)) : WCode P n0 N none (.region id all.toArray true) Q e mk σ := by
  refine W_regionA hmx ?_
  intro G w0 ρ0 A w hi
  obtain ⟨p, hp, hpe⟩ := List.any_eq_true.1 h00
  have hpe : p.1 = List.replicate all.length false := by simpa using hpe
  have := wa_walk (K := Q .normal) hm ht (stepsT_get hs) (fun p hp h0 => by
    have h := List.all_eq_true.1 he p hp
    rw [h0] at h
    have h : p.1 = L1 := by simpa using h
    rw [h]; exact hk) all.length p hp (by rw [hpe]; exact Nat.le_of_ble_eq_true hc)
  rw [hpe] at this
  exact this G w0 ρ0 A w (inv_ref h0 hm hi)
def selE : List Bool → List (Nat × Value) → Env
  | true :: L, p :: r => p :: selE L r
  | false :: L, _ :: r => selE L r
  | _, _ => []
end
section
variable {P : Program} {rd : Option Nat} {ty : TypeId} {e : Env} {σ : Heap} {x y z : Operand} {v : Value}
theorem ok_insert {t kt et i : Nat} {l : KMap} {k : Int × Int} [hm : Mp P t kt et] [hk : Eq2 P kt] (hx : evalO e x = some (.map (some i))) (hi : σ[i]? = some (mapO l)) (hy : evalO e y = some (kv k)) (hz : evalO e z = some v)
    (hni : σ.all (fun o => !isIter o) = true) : OpOk P rd (.insert t x y z) ty e σ undef (σ.set i (mapO (mapUp l k v))) := by
  intro o ho hty G w0 ρ A w hrd hs hop next Q' hn
  have h := ok_mapUpdate (P := P) (rd := rd) (ty := ty) (t := t) hx hi hy hz hni { o with op := .mapUpdate t x y z } rfl hty G w0 ρ A w hrd hs hop next Q' hn
  refine ⟨fun f _ => fen_fn _ _ _, ?_⟩
  have h2 := h.2
  rw [Oper.semAt_eq _ _ _ (by simp)] at h2
  rw [Oper.semAt_eq _ _ _ (by rw [ho]; simp)]
  have e1 : (execOp A.eval o).run P w = (execOp A.eval { o with op := .mapUpdate t x y z }).run P w := by simp [execOp, ho]
  rw [e1]
  exact h2
def mapGet (l : KMap) (k : Int × Int) : Option Value :=
  match (l.map (·.1)).findIdx? (fun q => decide (k = q)) with
  | some j => (l[j]?).map (·.2)
  | none => none
theorem ok_lookup {t kt et i : Nat} {l : KMap} {k : Int × Int} [hm : Mp P t kt et] [hk : Eq2 P kt] (hx : evalO e x = some (.map (some i))) (hi : σ[i]? = some (mapO l)) (hy : evalO e y = some (kv k)) (hv : mapGet l k = some v) :
    OpOk P rd (.lookup t x y false) ty e σ v σ :=
  opok_run (by simp) fun o ho _ G w0 ρ A w hs hop => by
    obtain ⟨hxr, hil⟩ := vrel_map (hop x (by simp [Op.operands]) _ hx)
    have hyr := vrel_plain_eq (hop y (by simp [Op.operands]) _ hy) (kv_plain k)
    obtain ⟨hG, ents, clock, hh, hM⟩ := sim_map hs hi
    obtain ⟨hl, hkeys⟩ := mrel_keys hM
    have hfind := run_findKey2 (w := w) hk k ents.toList (l.map (·.1)) hl hkeys
    obtain ⟨m1, m2, m3⟩ := hM
    simp only [List.length_map] at m1
    unfold mapGet at hv
    cases hf : (l.map (·.1)).findIdx? (fun q => decide (k = q)) with
    | none => rw [hf] at hv; cases hv
    | some j =>
      rw [hf] at hfind hv
      have hjl : j < l.length := by have := (List.findIdx?_eq_some_iff_findIdx_eq.1 hf).1; simpa using this
      have hje : j < ents.size := by omega
      simp only [List.getElem?_eq_getElem hjl, Option.map_some, Option.some.injEq] at hv
      have hlook : ents.toList[j]? = some ents[j] := by simp [hje]
      simp only [hlook, Option.map_some] at hfind
      have hrel := (m2 j (by simpa using hjl) hje).2.2.1
      simp only [List.getElem_map, hv] at hrel
      refine ⟨ρ, ents[j].val, w, .inl ?_, hrel, Nat.le_refl _, fun _ _ => rfl, hs⟩
      simp [execOp, ho, Instr.lookup, run_underlying hm.und, hxr, hyr, MapKept.run_getObj_map hh, run_checkKey2 hk, hfind, Result.andThen]
theorem ok_lenMap {t kt et i : Nat} {l : KMap} [hm : Mp P t kt et] (hx : evalO e x = some (.map (some i))) (hi : σ[i]? = some (mapO l)) :
    OpOk P rd (.call { callee := .builtin .len, args := #[x], argTypes := #[t] }) ty e σ (.int .i64 (l.length : Int)) σ :=
  opok_run (by simp) fun o ho _ G w0 ρ A w hs hop => by
    obtain ⟨hxr, hil⟩ := vrel_map (hop x (by simp [Op.operands, Call.operands]) _ hx)
    obtain ⟨hG, ents, clock, hh, hM⟩ := sim_map hs hi
    have m1 := hM.1
    simp only [List.length_map] at m1
    refine ⟨ρ, .int .i64 (l.length : Int), w, .inl ?_, .int _ _, Nat.le_refl _, fun _ _ => rfl, hs⟩
    simp [execOp, ho, resolve, invoke, builtin, hxr, Builtin.len_, run_und hm.und, MapKept.run_getObj_map hh, goInt, m1]
end
end Go.AH
namespace Go.AH
open Go
def keys (l : KMap) : List (Int × Int) := l.map (·.1)
theorem keys_up (l : KMap) (k : Int × Int) (v : Value) : keys (mapUp l k v) = if k ∈ keys l then keys l else keys l ++ [k] := by
  unfold mapUp
  cases hf : (l.map (·.1)).findIdx? (fun q => decide (k = q)) with
  | none =>
    have : k ∉ keys l := fun hk => by
      rw [List.findIdx?_eq_none_iff] at hf
      have := hf k hk
      simp at this
    rw [if_neg this]; simp [keys]
  | some j =>
    obtain ⟨h1, h2, h3⟩ := List.findIdx?_eq_some_iff_getElem.1 hf
    have hk : k = (keys l)[j] := of_decide_eq_true h2
    have : k ∈ keys l := by rw [hk]; exact List.getElem_mem h1
    rw [if_pos this]
    simp only [keys, List.map_set]
    refine List.ext_getElem (by simp) fun i h4 h5 => ?_
    rw [List.getElem_set]
    split
    · rename_i hji; subst hji; exact hk
    · rfl
theorem keys_del_mem {l : KMap} {k p : Int × Int} (hn : (keys l).Nodup) : p ∈ keys (mapDel l k) ↔ p ∈ keys l ∧ p ≠ k := by
  unfold mapDel
  cases hf : (l.map (·.1)).findIdx? (fun q => decide (k = q)) with
  | none =>
    have : k ∉ keys l := fun hk => by
      rw [List.findIdx?_eq_none_iff] at hf
      have := hf k hk
      simp at this
    exact ⟨fun h => ⟨h, fun hpk => this (hpk ▸ h)⟩, fun h => h.1⟩
  | some j =>
    obtain ⟨h1, h2, h3⟩ := List.findIdx?_eq_some_iff_getElem.1 hf
    have hk : k = (keys l)[j] := of_decide_eq_true h2
    have hke : keys (l.eraseIdx j) = (keys l).eraseIdx j := by simp [keys, List.eraseIdx_eq_take_drop_succ, List.map_take, List.map_drop]
    simp only [hke]
    have h1' : j < (keys l).length := h1
    have hp := List.pairwise_iff_getElem.1 hn
    rw [List.mem_eraseIdx_iff_getElem]
    constructor
    · rintro ⟨i, hi, hne, rfl⟩
      refine ⟨List.getElem_mem _, fun he => ?_⟩
      rw [hk] at he
      rcases Nat.lt_or_gt_of_ne hne with h | h
      · exact hp _ _ _ _ h he
      · exact hp _ _ _ _ h he.symm
    · rintro ⟨h4, h5⟩
      obtain ⟨i, hi, rfl⟩ := List.getElem_of_mem h4
      exact ⟨i, hi, fun hij => h5 (by subst hij; exact hk.symm), rfl⟩
theorem mapDel_sub (l : KMap) (k : Int × Int) : (mapDel l k).Sublist l := by
  unfold mapDel
  split
  · exact List.eraseIdx_sublist ..
  · exact List.Sublist.refl _
theorem keys_del_nodup {l : KMap} {k : Int × Int} (hn : (keys l).Nodup) : (keys (mapDel l k)).Nodup := List.Nodup.sublist ((mapDel_sub l k).map _) hn
def left (l : KMap) (seen : List (Int × Int)) : Nat := ((keys l).filter fun p => decide (p ∉ seen)).length
theorem filter_lt' {α : Type} (p q : α → Bool) (hpq : ∀ x, q x = true → p x = true) (e : α) (hp : p e = true) (hq : q e = false) : ∀ (l l' : List α), l'.Sublist l → e ∈ l → (l'.filter q).length < (l.filter p).length
  | l, l', hs, he => by
    have h1 : (l'.filter q).length ≤ (l.filter q).length := (hs.filter q).length_le
    have h2 : (l.filter q).length < (l.filter p).length := Go.filter_lt p q hpq e hp hq l he
    omega
theorem left_lt {l l' : KMap} {seen : List (Int × Int)} {k : Int × Int} (hs : l'.Sublist l) (hk : k ∈ keys l) (hn : k ∉ seen) : left l' (seen ++ [k]) < left l seen :=
  filter_lt' _ _ (fun x hx => by simp at hx ⊢; exact hx.1) k (by simpa using hn) (by simp) _ _ (hs.map _) hk
theorem plainL_closed' {m : Nat} {v : Value} (h : plain v = true) : closed m v = true ∧ okV v = true := by
  have := plainL_closed (n := m) (l := [v]) (by simp [plainL, h])
  simpa [closedL, okL] using this
theorem map_oclosed {m : Nat} {lm : KMap} (h : ∀ q ∈ lm, plain q.2 = true) : oclosed m (mapO lm) := by
  intro p hp
  obtain ⟨q, hq, rfl⟩ := List.mem_map.1 hp
  exact plainL_closed' (h q hq)
theorem keys_up_nodup {l : KMap} {k : Int × Int} {v : Value} (hn : (keys l).Nodup) : (keys (mapUp l k v)).Nodup := by
  rw [keys_up]
  split
  · exact hn
  · rename_i h
    exact List.nodup_append.2 ⟨hn, by simp, fun a ha b hb => by
      rw [List.mem_singleton] at hb
      subst hb
      intro hab; exact h (hab ▸ ha)⟩
theorem mem_key {l : KMap} {q : (Int × Int) × Value} (h : q ∈ l) : q.1 ∈ keys l := List.mem_map.2 ⟨q, h, rfl⟩
theorem key_uniq {l : KMap} (hn : (keys l).Nodup) {q r : (Int × Int) × Value} (hq : q ∈ l) (hr : r ∈ l) (h : q.1 = r.1) : q = r := by
  obtain ⟨i, hi, rfl⟩ := List.getElem_of_mem hq
  obtain ⟨j, hj, rfl⟩ := List.getElem_of_mem hr
  have := nodup_idx hn hi hj h
  subst this; rfl
theorem mem_del {l : KMap} {k : Int × Int} {q : (Int × Int) × Value} (hn : (keys l).Nodup) : q ∈ mapDel l k ↔ q.1 ≠ k ∧ q ∈ l := by
  constructor
  · intro h
    exact ⟨((keys_del_mem hn).1 (mem_key h)).2, (mapDel_sub l k).subset h⟩
  · rintro ⟨h1, h2⟩
    obtain ⟨r, hr, he⟩ := List.mem_map.1 ((keys_del_mem hn).2 ⟨mem_key h2, h1⟩)
    rw [← key_uniq hn ((mapDel_sub l k).subset hr) h2 he]; exact hr
theorem mem_up {l : KMap} {k : Int × Int} {v : Value} {q : (Int × Int) × Value} (hn : (keys l).Nodup) : q ∈ mapUp l k v ↔ q = (k, v) ∨ (q.1 ≠ k ∧ q ∈ l) := by
  unfold mapUp
  cases hf : (l.map (·.1)).findIdx? (fun q => decide (k = q)) with
  | none =>
    have hk : k ∉ keys l := fun hk => by
      rw [List.findIdx?_eq_none_iff] at hf
      have := hf k hk
      simp at this
    simp only [List.mem_append, List.mem_singleton]
    constructor
    · rintro (h | h)
      · exact .inr ⟨fun he => hk (he ▸ mem_key h), h⟩
      · exact .inl h
    · rintro (h | h)
      · exact .inr h
      · exact .inl h.2
  | some j =>
    obtain ⟨h1, h2, h3⟩ := List.findIdx?_eq_some_iff_getElem.1 hf
    have hjl : j < l.length := by simpa using h1
    have hk : k = l[j].1 := by have := of_decide_eq_true h2; rwa [List.getElem_map] at this
    simp only
    constructor
    · intro h
      obtain ⟨i, hi, rfl⟩ := List.getElem_of_mem h
      rw [List.length_set] at hi
      rw [List.getElem_set]
      split
      · exact .inl rfl
      · rename_i hji
        refine .inr ⟨fun he => hji ?_, List.getElem_mem _⟩
        exact nodup_idx hn hjl hi (by rw [← hk, he])
    · rintro (h | ⟨h, h'⟩)
      · rw [h]; exact List.mem_iff_getElem.2 ⟨j, by simpa using hjl, by simp⟩
      · obtain ⟨i, hi, rfl⟩ := List.getElem_of_mem h'
        have hji : j ≠ i := fun he => by subst he; exact h hk.symm
        exact List.mem_iff_getElem.2 ⟨i, by simpa using hi, by simp [hji]⟩
theorem get_mem {l : KMap} {k : Int × Int} {v : Value} (hn : (keys l).Nodup) (h : (k, v) ∈ l) : mapGet l k = some v := by
  unfold mapGet
  cases hf : (l.map (·.1)).findIdx? (fun q => decide (k = q)) with
  | none =>
    rw [List.findIdx?_eq_none_iff] at hf
    have := hf k (mem_key h)
    simp at this
  | some j =>
    obtain ⟨h1, h2, h3⟩ := List.findIdx?_eq_some_iff_getElem.1 hf
    have hjl : j < l.length := by simpa using h1
    have hk : k = l[j].1 := by have := of_decide_eq_true h2; rwa [List.getElem_map] at this
    have := key_uniq hn (List.getElem_mem hjl) h hk.symm
    simp only [List.getElem?_eq_getElem hjl, Option.map_some, this]
theorem osub_map {σ : Heap} {n : Nat} {π : Rho} {l : KMap} {j k : Nat} (hk : π k = ⟨j, 0, 0⟩) (h : σ[j]? = some (mapO l)) (hp : ∀ q ∈ l, plain q.2 = true) : OSub σ n π (π k) (mapO l) := by
  refine ⟨_, by rw [hk]; exact h, rfl, fun i h1 h2 => ⟨rfl, ?_⟩⟩
  simp only [List.getElem_map]
  exact vrel_plain _ (hp _ (List.getElem_mem _))
theorem er_map {n : Nat} {π : Rho} {e : Env} {t i j : Nat} (h : Env.get e t = some (.map (some j))) (hi : i < n) (hj : π i = ⟨j, 0, 0⟩) : ∃ u, Env.get e t = some u ∧ VSub n π (.map (some i)) u :=
  ⟨_, h, by simpa [hj] using VQ.map (q := true) (n := n) (ρ := π) i hi⟩
end Go.AH
namespace Go.AH
open Go
def ints (l : List Int) : List Value := l.map (.int .i64)
def gi (l : List Int) (i : Nat) : Int := l.getD i 0
theorem ints_get {l : List Int} {i : Nat} (h : i < l.length) : (ints l)[i]? = some (.int .i64 (gi l i)) := by
  simp [ints, gi, h]
theorem ints_length (l : List Int) : (ints l).length = l.length := by simp [ints]
theorem ints_plain (l : List Int) : plainL (ints l) = true := plainL_map _ (fun _ => rfl) l
def badIx (lo hi : Int) (l : List Int) : Int := match (List.range l.length).find? (fun i => decide (gi l i < lo ∨ gi l i > hi)) with | some i => i | none => -1
def allIn (lo hi : Int) (l : List Int) : Bool := decide (badIx lo hi l < 0)
theorem badIx_some {lo hi : Int} {l : List Int} {i : Nat} (hi' : i < l.length) (h : gi l i < lo ∨ gi l i > hi) (hall : ∀ j < i, ¬ (gi l j < lo ∨ gi l j > hi)) : badIx lo hi l = i := by
  have : (List.range l.length).find? (fun i => decide (gi l i < lo ∨ gi l i > hi)) = some i := by
    rw [List.find?_range_eq_some]
    exact ⟨by simpa using h, by simpa using hi', fun j hj => by simpa using hall j hj⟩
  simp only [badIx, this]
theorem badIx_none {lo hi : Int} {l : List Int} (hall : ∀ j < l.length, ¬ (gi l j < lo ∨ gi l j > hi)) : badIx lo hi l = -1 := by
  have : (List.range l.length).find? (fun i => decide (gi l i < lo ∨ gi l i > hi)) = none := by
    rw [List.find?_eq_none]
    intro j hj
    simpa using hall j (by simpa using hj)
  simp only [badIx, this]
theorem vsub_fn2 {n : Nat} {π : Rho} {f : FuncId} {a b a' b' : Value} (h1 : VSub n π a a') (h2 : VSub n π b b') : VSub n π (.func (.func f) #[] #[a, b]) (.func (.func f) #[] #[a', b']) := by
  refine .func f _ _ _ _ rfl rfl (fun i h _ => by simp at h) (fun i h _ => ?_)
  match i, h with
  | 0, _ => exact h1
  | 1, _ => exact h2
theorem badIx_iff {lo hi : Int} {l : List Int} : badIx lo hi l ≥ 0 ↔ ∃ i < l.length, gi l i < lo ∨ gi l i > hi := by
  constructor
  · intro h
    refine Classical.byContradiction fun hn => ?_
    rw [badIx_none fun j hj hb => hn ⟨j, hj, hb⟩] at h
    omega
  · rintro ⟨i, hi', hb⟩
    unfold badIx
    split
    · omega
    · rename_i h
      rw [List.find?_eq_none] at h
      have := h i (by simpa using hi')
      simp at this; omega
theorem slice_closed {n i l c : Nat} (h : i < n) : closed n (.slice (some ⟨i, 0, none⟩) l c) = true ∧ okV (.slice (some ⟨i, 0, none⟩) l c) = true := by
  have := VQ.slice (q := false) (n := n) (ρ := fun k => ⟨k, 0, 0⟩) i 0 l c c (Nat.le_refl _) h
  exact ⟨vq_closed this, vq_ok this⟩
theorem putRw {σ : Heap} {b o : Nat} {cs vs cs' : List Value} (h : σ[b]? = some (.rw cs)) (hl : o + vs.length ≤ cs.length) (h0 : 0 < cs.length) (he : splice cs o vs = cs') : putCells σ b o vs = some (σ.set b (.rw cs')) := by
  have e1 : Nat.ble (o + vs.length) cs.length = true := Nat.ble_eq_true_of_le hl
  have e2 : Nat.blt 0 cs.length = true := Nat.blt_eq.mpr h0
  simp only [putCells, h, e1, e2, Bool.and_self, cond_true, he]
def setF {α : Type} (f : Nat → α) (i : Nat) (a : α) : Nat → α := fun k => if k = i then a else f k
def gn (l : List Nat) (i : Nat) : Nat := l.getD i 0
def nats (l : List Nat) : List Value := l.map fun (i : Nat) => Value.int .i64 (Int.ofNat i)
structure Hide (p : Prop) : Prop where
  h : p
def someB (n : Nat) (p : Nat → Prop) [DecidablePred p] : Bool := (List.range n).any fun i => decide (p i)
theorem someB_true {n : Nat} {p : Nat → Prop} [DecidablePred p] {i : Nat} (hi : i < n) (h : p i) : someB n p = true := by
  simp only [someB, List.any_eq_true, List.mem_range, decide_eq_true_eq]
  exact ⟨i, hi, h⟩
theorem someB_false {n : Nat} {p : Nat → Prop} [DecidablePred p] (h : ∀ i < n, ¬ p i) : someB n p = false := by
  simp only [someB, List.any_eq_false, List.mem_range, decide_eq_true_eq]
  exact h
theorem someB_some {n : Nat} {p : Nat → Prop} [DecidablePred p] (h : someB n p = true) : ∃ i < n, p i := by
  simpa [someB] using h
theorem someB_none {n : Nat} {p : Nat → Prop} [DecidablePred p] (h : ¬ someB n p = true) : ∀ i < n, ¬ p i := by
  simpa [someB] using h
section
variable {n0 : Nat} {σ : Heap} {e e2 : Env}
theorem StRef.all (σ2 : Heap) (m : Nat) (l : List Nat) (hm : n0 ≤ m) (hl : σ2.length = m + l.length) (hd : distinctFrom m l = true) (ho : OSubs σ σ2.length (srcR m l) 0 σ2) (he : EnvRen σ2.length (srcR m l) e e2) : StRef n0 σ σ2 e e2 := by
  refine .inr fun _ => ⟨srcR m l, ⟨by omega, fun i hi => srcR_lt (by omega), fun i o2 hi => ?_, fun i j oi oj hi hj _ _ hij => ?_⟩, envRen_ref he⟩
  · have := osubs_get ho i o2 hi
    rwa [Nat.zero_add] at this
  · simp only [distinctFrom, Bool.and_eq_true, List.all_eq_true, decide_eq_true_eq] at hd
    have h1 := idx_lt hi
    have h2 := idx_lt hj
    have ge : ∀ q, ¬ q < m → q < σ2.length → ∃ h : q - m < l.length, (srcR m l q).b = l[q - m] ∧ m ≤ l[q - m] := by
      intro q hq hq2
      have h : q - m < l.length := by omega
      refine ⟨h, ?_, Nat.le_of_ble_eq_true (hd.1 _ (List.getElem_mem h))⟩
      simp only [srcR]
      rw [if_neg hq, List.getElem?_eq_getElem h]
    by_cases hli : i < m <;> by_cases hlj : j < m
    · rw [srcR_lt hli, srcR_lt hlj] at hij; exact hij
    · obtain ⟨h, e1, e2⟩ := ge j hlj h2
      rw [srcR_lt hli, e1] at hij; simp only at hij; omega
    · obtain ⟨h, e1, e2⟩ := ge i hli h1
      rw [srcR_lt hlj, e1] at hij; simp only at hij; omega
    · obtain ⟨h, e1, e2⟩ := ge i hli h1
      obtain ⟨h', e1', e2'⟩ := ge j hlj h2
      rw [e1, e1'] at hij
      have := (List.getElem_inj hd.2).1 hij
      omega
theorem osub_slvC {n i j k sz q : Nat} {π : Rho} (hk : π i = ⟨i, 0, 0⟩) (h : σ[i]? = some (.rw [slvV j sz k])) (hq : q < n) (hj : π q = ⟨j, 0, 0⟩) : OSub σ n π (π i) (.rw [slvV q sz k]) := by
  refine .inr ⟨by rw [hk], [slvV j sz k], .inl (by rw [hk]; exact h), Nat.le_refl _, fun a ha ha' => ?_⟩
  have : a = 0 := by simpa using ha
  subst this
  exact vsub_slvV hq hj
theorem W_rangeFuncL {P : Program} {N : Nat} {Q : Post} {mk : List Nat} {g : Operand} {ps : Array Tmp} {assign body : Code} {f : FuncId} {p q : List Value} [hc : GoFn P f] (hg : evalO e g = some (.func (.func f) p.toArray q.toArray))
    (hcall : ∀ L, L = AObj.loop .ready none N e ps assign body → ACall P f (p ++ [.func (.yield (σ.length + 1)) #[] #[]] ++ q) (σ ++ [.dfr, L]) (fun _ σ2 => afterRange P n0 N Q e (σ.length :: mk) (σ.length + 1) σ2)) :
    WCode P n0 N none (.rangeFunc g ps assign body) Q e mk σ := W_rangeFunc hg (hcall _ rfl)
theorem roundA_n {P : Program} {n1 N' l : Nat} {body : Code} {QB : Post} {e1 : Env} {mk1 : List Nat} {σ1 : Heap} {N2 : Nat} {e2 : Env} {ps2 : Array Tmp} {as2 bd2 : Code} {pend : Option Code} (h1 : σ1[l]? = some (.loop .ready pend N2 e2 ps2 as2 bd2))
    (h2 : WCode P n1 N' (some l) body QB e1 mk1 (σ1.set l (.loop .busy pend N2 e2 ps2 as2 bd2))) : roundA P n1 N' l body QB .normal e1 mk1 σ1 := ⟨_, _, _, _, _, _, h1, h2⟩
theorem roundB_n {P : Program} {n0 N : Nat} {all rest : List Oper} {K : Env → List Nat → Heap → Prop} {d l : Nat} {e e1 : Env} {mk mk1 : List Nat} {σ2 : Heap} {o : AObj} (h1 : σ2[l]? = some o) (h2 : isLoop o = true) (h3 : WOps P n0 N none all rest K ((d, .bool true) :: e) mk (σ2.set l (loopSt .ready none o))) :
    roundB P n0 N all rest K d l e mk .normal e1 mk1 σ2 := ⟨o, h1, h2, h3⟩
theorem roundB_e {P : Program} {n0 N : Nat} {all rest : List Oper} {K : Env → List Nat → Heap → Prop} {d l id : Nat} {e e1 : Env} {mk mk1 : List Nat} {σ2 : Heap} {o : AObj} (h1 : σ2[l]? = some o) (h2 : isLoop o = true) (h3 : WOps P n0 N none all rest K ((d, .bool false) :: e) mk (σ2.set l (loopSt .done (some (.exit id)) o))) :
    roundB P n0 N all rest K d l e mk (.exit id) e1 mk1 σ2 := ⟨o, h1, h2, h3⟩
theorem ret1 {P : Program} {σin : Heap} {rv : List ResultVar} {R : Value → Heap → Prop} {vs : List Value} {v2 : Value} {σ2 : Heap} {m : Nat} (hd : σ[m]? = some .dfr) (hr : ResOk P e (σ.set m .dead) rv vs) (href : RetRef σin (σ.set m .dead) (retV vs) v2 σ2) (hR : R v2 σ2) :
    retQ P σin rv R .ret e [m] σ := ⟨by simp, fun i hi => by rw [List.mem_singleton.1 hi]; exact hd, vs, v2, σ2, hr, href, hR⟩
theorem env_closed {m : Nat} : ∀ {e : Env}, (∀ p ∈ e, closed m p.2 = true ∧ okV p.2 = true) → ∀ t v, Env.get e t = some v → closed m v = true ∧ okV v = true := fun h _t _v hv => h _ (env_mem hv)
end
theorem osub_rwp {σ : Heap} {n j k : Nat} {π : Rho} {cs : List Value} (hk : π k = ⟨j, 0, 0⟩) (h : σ[j]? = some (.rw cs) ∨ ∃ t, σ[j]? = some (.gr cs t)) (hp : plainL cs = true) : OSub σ n π (π k) (.rw cs) :=
  .inr ⟨by rw [hk], cs, by rw [hk]; exact h, Nat.le_refl _, fun i hi _ => vrel_plainL cs hp i hi⟩
theorem srcR_at {n j : Nat} : srcR n [j] n = ⟨j, 0, 0⟩ := by simp [srcR]
theorem retSl {σin σ : Heap} {cs : List Value} {n j sz : Nat} {v : Value} (hσ : σ.take σin.length = σin) (hp : plainL cs = true) (hg : σ[j]? = some (.rw cs) ∨ ∃ t, σ[j]? = some (.gr cs t)) (hj : Nat.ble σin.length j = true) (hv : plain v = true) :
    RetRef σin σ (.tuple #[slvV j sz n, v]) (.tuple #[.slice (some ⟨σin.length, 0, none⟩) n n, v]) (σin ++ [.rw cs]) := by
  refine RetRef.src [.rw cs] [j] hσ rfl (by simp [distinctFrom, hj]) ⟨osub_rwp srcR_at hg hp, trivial⟩ ?_
  refine .tuple _ _ rfl fun i hi _ => ?_
  match i, hi with
  | 0, _ => exact vsub_slvR (by simp) srcR_at
  | 1, _ => exact vrel_plain _ hv
theorem retSl' {σin σ : Heap} {cs : List Value} {n j c : Nat} {v : Value} (hσ : σ.take σin.length = σin) (hp : plainL cs = true) (hg : σ[j]? = some (.rw cs) ∨ ∃ t, σ[j]? = some (.gr cs t)) (hj : Nat.ble σin.length j = true) (hv : plain v = true) (hc : n ≤ c) :
    RetRef σin σ (.tuple #[.slice (some ⟨j, 0, none⟩) n c, v]) (.tuple #[.slice (some ⟨σin.length, 0, none⟩) n n, v]) (σin ++ [.rw cs]) := by
  refine RetRef.src [.rw cs] [j] hσ rfl (by simp [distinctFrom, hj]) ⟨osub_rwp srcR_at hg hp, trivial⟩ ?_
  refine .tuple _ _ rfl fun i hi _ => ?_
  match i, hi with
  | 0, _ => exact vsub_sl (by simp) srcR_at hc
  | 1, _ => exact vrel_plain _ hv
theorem retNil {σin σ : Heap} {v : Value} (hσ : σ.take σin.length = σin) (hv : plain v = true) :
    RetRef σin σ (.tuple #[.slice none 0 0, v]) (.tuple #[.slice (some ⟨σin.length, 0, none⟩) 0 0, v]) (σin ++ [.rw []]) := by
  refine RetRef.src [.rw []] [σin.length] hσ rfl (by simp [distinctFrom]) ⟨.inl rfl, trivial⟩ ?_
  refine .tuple _ _ rfl fun i hi _ => ?_
  match i, hi with
  | 0, _ => exact .emptySlice _ _ _ _
  | 1, _ => exact vrel_plain _ hv
theorem ok_convK {P : Program} {rd : Option Nat} {ty : TypeId} {e : Env} {σ : Heap} {x : Operand} {m : Int} {s d : TypeId} {k : IntKind} [Ik P s k] [Ik P d .i64] (hx : evalO e x = some (.int k m)) (h1 : -9223372036854775808 ≤ m) (h2 : m ≤ 9223372036854775807) :
    OpOk P rd (.convert s d x) ty e σ (.int .i64 m) σ := by
  have := ok_convI (P := P) (rd := rd) (ty := ty) (σ := σ) (s := s) (d := d) hx
  rwa [wrap64 h1 h2] at this
theorem zc_ints : ∀ n : Nat, zcells (vcells (Value.int .i64 0)) n = ints (List.replicate n 0)
  | 0 => rfl
  | n + 1 => by
    have := zc_ints n
    simp only [zcells, this, List.replicate_succ, ints, List.map_cons]
    rfl
theorem retOne {σin σ : Heap} {cs : List Value} {n j sz : Nat} (hσ : σ.take σin.length = σin) (hp : plainL cs = true) (hg : σ[j]? = some (.rw cs) ∨ ∃ t, σ[j]? = some (.gr cs t)) (hj : Nat.ble σin.length j = true) :
    RetRef σin σ (slvV j sz n) (.slice (some ⟨σin.length, 0, none⟩) n n) (σin ++ [.rw cs]) :=
  RetRef.src [.rw cs] [j] hσ rfl (by simp [distinctFrom, hj]) ⟨osub_rwp srcR_at hg hp, trivial⟩ (vsub_slvR (by simp) srcR_at)
theorem ints_cell1 (l : List Int) : (ints l).all (·.oneCell') = true := by
  simp only [List.all_eq_true, ints, List.mem_map]
  rintro x ⟨y, _, rfl⟩
  rfl
theorem ints_app (a : List Int) (x : Int) : ints (a ++ [x]) = ints a ++ [.int .i64 x] := by simp [ints]
theorem okV_slv {i sz k : Nat} : okV (slvV i sz k) = true := by cases k <;> rfl
end Go.AH
namespace Go.AH.Tail
open Go Go.AH
def Cl (σ : Heap) : Prop := ∀ (i : Nat) (o : AObj), σ[i]? = some o → oclosed σ.length o
def ECl (n : Nat) (e : Env) : Prop := ∀ t v, Env.get e t = some v → closed n v = true ∧ okV v = true
theorem orel_low {G G' : Nat → Prop} {n m : Nat} {ρ : Rho} {w : World} {p : Pl} {o : AObj} (h : ORel G m ρ w p o) (hc : oclosed n o) (hg : ∀ b, G b → G' b) (hg' : o.owned → ¬ G' p.b) : ORel G' n ρ w p o := by
  cases o with
  | dead => trivial
  | ro cs =>
    intro hne
    obtain ⟨g, h2⟩ := h hne
    refine ⟨hg _ g, fun k hk => ?_⟩
    obtain ⟨v', h3, h4⟩ := h2 k hk
    exact ⟨v', h3, vq_lower h4 ((closedL_iff n cs).1 hc.1 _ (List.getElem_mem hk))⟩
  | rw cs =>
    intro hne
    obtain ⟨_, ho, rc, t, h3, h4, h5⟩ := h hne
    exact ⟨hg' hne, ho, rc, t, h3, h4, fun k hk hk' => vq_lower (h5 k hk hk') ((closedL_iff n cs).1 hc.1 _ (List.getElem_mem hk))⟩
  | gr cs e =>
    intro hne
    obtain ⟨_, ho, rc, h3, hs, h4, h5⟩ := h hne
    exact ⟨hg' hne, ho, rc, h3, hs, h4, fun k hk hk' => vq_lower (h5 k hk hk') ((closedL_iff n cs).1 hc.1 _ (List.getElem_mem hk))⟩
  | dfr => exact ⟨hg' trivial, h.2⟩
  | loop st pend N e params assign body =>
    obtain ⟨_, r, h1, h2, h3, h4, h5, h6, h8⟩ := h
    refine ⟨hg' trivial, r, h1, h2, h3, h4, h5, h6, h8.1, fun t v hv => ?_⟩
    obtain ⟨v', a, b⟩ := h8.2 t v hv
    exact ⟨v', a, vq_lower b (hc t v hv).1⟩
  | map es =>
    obtain ⟨_, ents, clock, h3, h4, h5, h6⟩ := h
    refine ⟨hg' trivial, ents, clock, h3, h4, fun i hi hi' => ?_, h6⟩
    obtain ⟨a, b, c, d⟩ := h5 i hi hi'
    exact ⟨a, b, vq_lower c (hc _ (List.getElem_mem hi)).1, d⟩
  | iter m seen => exact ⟨hg' trivial, hc, h.2.2⟩
  | deep qs sp =>
    refine ⟨fun hq => ?_, fun x hx => ?_⟩
    · obtain ⟨h1, h2⟩ := h.1 hq
      refine ⟨hg _ h1, fun k hk => ?_⟩
      obtain ⟨v', h3, h4⟩ := h2 k hk
      exact ⟨v', h3, frow_mono h4 hg (fun _ _ _ hy => hy)⟩
    · obtain ⟨h1, v', h3, h4⟩ := h.2 x hx
      exact ⟨hg _ h1, v', h3, vq_lower h4 (hc x hx).1⟩
def dfs (k : Nat) : Heap := List.replicate k .dfr
theorem dfs_len (σ : Heap) (k : Nat) : (σ ++ dfs k).length = σ.length + k := by simp [dfs]
theorem dfs_get {σ : Heap} {k i : Nat} {o : AObj} (h : (σ ++ dfs k)[i]? = some o) : (i < σ.length ∧ σ[i]? = some o) ∨ (σ.length ≤ i ∧ i < σ.length + k ∧ o = .dfr) := by
  by_cases hi : i < σ.length
  · rw [List.getElem?_append_left hi] at h; exact .inl ⟨hi, h⟩
  · rw [List.getElem?_append_right (by omega)] at h
    simp only [dfs, List.getElem?_replicate] at h
    split at h
    · cases h; exact .inr ⟨by omega, by omega, rfl⟩
    · cases h
theorem dfs_at {σ : Heap} {k i : Nat} (h1 : σ.length ≤ i) (h2 : i < σ.length + k) : (σ ++ dfs k)[i]? = some .dfr := by
  rw [List.getElem?_append_right h1]
  simp only [dfs, List.getElem?_replicate]
  rw [if_pos (by omega)]
theorem dfs_lt {σ : Heap} {k i : Nat} {o : AObj} (h : σ[i]? = some o) : (σ ++ dfs k)[i]? = some o := by
  rw [List.getElem?_append_left (idx_lt h)]; exact h
theorem dfs_dfs (σ : Heap) (k j : Nat) : σ ++ dfs k ++ dfs j = σ ++ dfs (k + j) := by
  rw [List.append_assoc]; simp [dfs, List.replicate_append_replicate]
def TOk (n k : Nat) (T : List Nat) : Prop := T.Nodup ∧ ∀ t ∈ T, n ≤ t ∧ t < n + k
def shiftT (n m : Nat) (T : List Nat) : List Nat := T.map fun t => t - n + m
theorem nodup_map' {f : Nat → Nat} : ∀ {T : List Nat}, T.Nodup → (∀ x ∈ T, ∀ y ∈ T, f x = f y → x = y) → (T.map f).Nodup
  | [], _, _ => List.nodup_nil
  | a :: T, h, hi => by
    have h' := List.nodup_cons.1 h
    rw [List.map_cons, List.nodup_cons]
    refine ⟨fun hm => ?_, nodup_map' h'.2 fun x hx y hy => hi x (by simp [hx]) y (by simp [hy])⟩
    obtain ⟨b, hb, he⟩ := List.mem_map.1 hm
    exact h'.1 (by rw [← hi b (by simp [hb]) a (by simp) he]; exact hb)
def joinR (n : Nat) (ρ' : Rho) (m : Nat) (ρ : Rho) : Rho := fun i => if i < n then ρ' i else ρ (i - n + m)
theorem joinR_lt {n m i : Nat} {ρ ρ' : Rho} (h : i < n) : joinR n ρ' m ρ i = ρ' i := if_pos h
theorem joinR_ge {n m i : Nat} {ρ ρ' : Rho} (h : n ≤ i) : joinR n ρ' m ρ i = ρ (m + (i - n)) := by
  unfold joinR; rw [if_neg (by omega), Nat.add_comm]
theorem TOk.shift {n k m : Nat} {T : List Nat} (h : TOk n k T) : TOk m k (shiftT n m T) := by
  refine ⟨?_, fun t ht => ?_⟩
  · exact nodup_map' h.1 fun x hx y hy he => by have := h.2 x hx; have := h.2 y hy; omega
  · obtain ⟨u, hu, rfl⟩ := List.mem_map.1 ht
    have := h.2 u hu; omega
theorem TOk.app {n k j : Nat} {T U : List Nat} (h : TOk n k T) (h' : TOk (n + k) j U) : TOk n (k + j) (T ++ U) := by
  refine ⟨List.nodup_append.2 ⟨h.1, h'.1, fun a ha b hb => ?_⟩, fun t ht => ?_⟩
  · have := h.2 a ha; have := h'.2 b hb; omega
  · rcases List.mem_append.1 ht with ht | ht
    · have := h.2 t ht; omega
    · have := h'.2 t ht; omega
section
variable {P : Program} {n0 N : Nat} {G : Nat → Prop} {w0 : World} {ρ0 : Rho} {e : Env} {mk T : List Nat} {σ : Heap} {k : Nat} {A : Act} {w : World}
theorem Cl.of {ρ : Rho} (hs : Sim G w0 ρ σ w) : Cl σ := fun i o hi => orel_closed (hs.obj i o hi)
theorem ECl.of {n : Nat} {ρ : Rho} {tmps : Array Value} (h : TRel n ρ N e tmps) : ECl n e := fun t v hv => by
  obtain ⟨v', _, h2⟩ := h.2 t v hv
  exact ⟨vq_closed h2, vq_ok h2⟩
theorem dfr_cell {b o : Nat} {ds : Option (List Deferred)} (h : w.heap[b]? = some (.deferred ds)) : w.cell? ⟨b, o, none⟩ = none := by simp [World.cell?, h]
theorem inv_hide (hi : Inv n0 N G w0 ρ0 e (mk ++ T) (σ ++ dfs k) A w) (h0 : n0 ≤ σ.length) (hT : TOk σ.length k T) (hmk : ∀ i ∈ mk, i < σ.length) (hc : Cl σ) (he : ECl σ.length e) :
    ∃ G' w0' ρ0', Inv n0 N G' w0' ρ0' e mk σ A w ∧ (∀ i < n0, ρ0' i = ρ0 i) ∧
      ∀ e' mk' σ' A' w', Inv n0 N G' w0' ρ0' e' mk' σ' A' w' → Inv n0 N G w0 ρ0 e' (mk' ++ shiftT σ.length σ'.length T) (σ' ++ dfs k) A' w' := by
  obtain ⟨_, ρ, hag, hs, her⟩ := hi
  have hd : ∀ t < k, ORel G (σ ++ dfs k).length ρ w (ρ (σ.length + t)) .dfr := fun t ht => hs.obj _ _ (dfs_at (by omega) (by omega))
  have hG : ∀ b, (G b ∨ ∃ t < k, (ρ (σ.length + t)).b = b) → b < w.heap.size := by
    rintro b (hb | ⟨t, ht, rfl⟩)
    · exact Nat.lt_of_lt_of_le (hs.fgn b hb).1 hs.size
    · exact block_lt (hd t ht).2
  have hown : ∀ i o, σ[i]? = some o → o.owned → ¬ (G (ρ i).b ∨ ∃ t < k, (ρ (σ.length + t)).b = (ρ i).b) := by
    rintro i o hio ho (hb | ⟨t, ht, hb⟩)
    · exact (orel_block (hs.obj i o (dfs_lt hio)) ho).2 hb
    · have := hs.inj _ _ _ _ (dfs_at (by omega) (by omega : σ.length + t < σ.length + k)) (dfs_lt hio) trivial ho hb
      have := idx_lt hio; omega
  refine ⟨fun b => G b ∨ ∃ t < k, (ρ (σ.length + t)).b = b, w, stashR n0 ρ0 (T.map (fun t => (ρ t).b) ++ (List.range (ρ0 n0).b).map fun j => (ρ0 (n0 + 1 + j)).b), ⟨h0, ρ, fun i hi => (hag i hi).trans (stashR_lt hi).symm, ⟨rfl, rfl, rfl, Nat.le_refl _, fun b hb => ⟨hG b hb, rfl⟩, fun i o hio => ?_, fun i j oi oj hi hj => hs.inj i j oi oj (dfs_lt hi) (dfs_lt hj)⟩, ⟨⟨her.tmps.1, fun t v hv => ?_⟩, ?_, hmk⟩⟩, fun i hi => stashR_lt hi, ?_⟩
  · exact orel_low (hs.obj i o (dfs_lt hio)) (hc i o hio) (fun b hb => .inl hb) (hown i o hio)
  · obtain ⟨v', h1, h2⟩ := her.tmps.2 t v hv
    exact ⟨v', h1, vq_lower h2 (he t v hv).1⟩
  · rw [her.mks, tlOf_stash, List.map_append, List.map_append, List.append_assoc, List.map_map, List.map_map]
    rfl
  · rintro e' mk' σ' A' w' ⟨g0, ρ', hag', hs', her'⟩
    have hlen := dfs_len σ' k
    have hw : ∀ t < k, w'.heap[(ρ (σ.length + t)).b]? = some (.deferred (some [])) := fun t ht => by
      rw [(hs'.fgn _ (.inr ⟨t, ht, rfl⟩)).2]; exact (hd t ht).2
    have elo : ∀ i < σ'.length, joinR σ'.length ρ' σ.length ρ i = ρ' i := fun i hi => joinR_lt hi
    have ehi : ∀ i, σ'.length ≤ i → joinR σ'.length ρ' σ.length ρ i = ρ (σ.length + (i - σ'.length)) := fun i hi => joinR_ge hi
    refine ⟨by omega, joinR σ'.length ρ' σ.length ρ, fun i hi => ?_, ⟨hs'.os.trans hs.os, hs'.tape.trans hs.tape, hs'.output.trans hs.output, Nat.le_trans hs.size hs'.size, fun b hb => ?_, fun i o hio => ?_, fun i j oi oj hi hj hoi hoj hij => ?_⟩, ⟨?_, ?_, fun i hi => ?_⟩⟩
    · rw [elo i (by omega)]
      exact (hag' i hi).trans (stashR_lt hi)
    · have h1 := hs'.fgn b (.inl hb)
      have h2 := hs.fgn b hb
      exact ⟨h2.1, h1.2.trans h2.2⟩
    · rcases dfs_get hio with ⟨hi, hio⟩ | ⟨hi1, hi2, rfl⟩
      · rw [elo i hi]
        have h1 := hs'.obj i o hio
        have h2 : ORel G σ'.length ρ' w' (ρ' i) o := by
          cases o with
          | dead => trivial
          | ro cs =>
            intro hne
            obtain ⟨g, h2⟩ := h1 hne
            refine ⟨g.resolve_right ?_, h2⟩
            rintro ⟨t, ht, hb⟩
            obtain ⟨v', h3, _⟩ := h2 0 (by cases cs with | nil => exact absurd rfl hne | cons => simp)
            rw [dfr_cell (by rw [← hb]; exact hw t ht)] at h3; cases h3
          | rw cs => intro hne; obtain ⟨g, h2⟩ := h1 hne; exact ⟨fun hb => g (.inl hb), h2⟩
          | gr cs e => intro hne; obtain ⟨g, h2⟩ := h1 hne; exact ⟨fun hb => g (.inl hb), h2⟩
          | dfr => exact ⟨fun hb => h1.1 (.inl hb), h1.2⟩
          | loop st pend N e params assign body => exact ⟨fun hb => h1.1 (.inl hb), h1.2⟩
          | map es => exact ⟨fun hb => h1.1 (.inl hb), h1.2⟩
          | iter m seen => exact ⟨fun hb => h1.1 (.inl hb), h1.2⟩
          | deep qs sp =>
            have hG' : ∀ {b o : Nat} {v' : Value}, (G b ∨ ∃ t < k, (ρ (σ.length + t)).b = b) → w'.cell? ⟨b, o, none⟩ = some v' → G b := fun {b o v'} g h3 => by
              refine g.resolve_right ?_
              rintro ⟨t, ht, hb⟩
              rw [dfr_cell (by rw [← hb]; exact hw t ht)] at h3; cases h3
            refine ⟨fun hq => ?_, fun x hx => ?_⟩
            · obtain ⟨g1, g2⟩ := h1.1 hq
              obtain ⟨v0, g3, _⟩ := g2 0 (List.length_pos_iff.2 hq)
              refine ⟨hG' g1 g3, fun m hm => ?_⟩
              obtain ⟨v', g4, a, cap, g5, g6, g7⟩ := g2 m hm
              refine ⟨v', g4, a, cap, g5, g6, fun hqm => ?_⟩
              obtain ⟨b, o, g8, g9, g10⟩ := g7 hqm
              exact ⟨b, o, g8, hG' g9 (g10 0 (List.length_pos_iff.2 hqm)), g10⟩
            · obtain ⟨g1, v', g3, g4⟩ := h1.2 x hx
              exact ⟨hG' g1 g3, v', g3, g4⟩
        exact orel_mono h2 (by omega) elo (fun _ h => h) (fun _ _ _ _ h => h) (fun _ _ _ h => h)
      · rw [ehi i hi1]
        exact ⟨(hd _ (by omega)).1, hw _ (by omega)⟩
    · rcases dfs_get hi with ⟨hi1, hi⟩ | ⟨hi1, hi2, rfl⟩ <;> rcases dfs_get hj with ⟨hj1, hj⟩ | ⟨hj1, hj2, rfl⟩
      · rw [elo i hi1, elo j hj1] at hij
        exact hs'.inj i j oi oj hi hj hoi hoj hij
      · exfalso
        rw [elo i hi1, ehi j hj1] at hij
        exact (orel_block (hs'.obj i oi hi) hoi).2 (.inr ⟨_, by omega, hij.symm⟩)
      · exfalso
        rw [elo j hj1, ehi i hi1] at hij
        exact (orel_block (hs'.obj j oj hj) hoj).2 (.inr ⟨_, by omega, hij⟩)
      · rw [ehi i hi1, ehi j hj1] at hij
        have := hs.inj _ _ _ _ (dfs_at (by omega) (by omega)) (dfs_at (σ := σ) (k := k) (by omega) (by omega)) trivial trivial hij
        omega
    · exact trel_mono her'.tmps (by omega) elo
    · rw [her'.mks, tlOf_stash, List.map_append, List.map_append, ← List.append_assoc]
      congr 1
      · congr 1
        · exact List.map_congr_left fun i hi => by rw [elo i (her'.mkb i hi)]
        · simp only [shiftT, List.map_map]
          refine List.map_congr_left fun t ht => ?_
          have := hT.2 t ht
          simp only [Function.comp_apply]
          rw [ehi _ (by omega), show σ.length + (t - σ.length + σ'.length - σ'.length) = t by omega]
      · rw [List.map_map]; rfl
    · rcases List.mem_append.1 hi with hi | hi
      · have := her'.mkb i hi; omega
      · have := hT.shift (m := σ'.length) |>.2 i hi; omega
end
def Tl (n0 : Nat) (K : Env → List Nat → Heap → Prop) : Prop := ∀ e mk σ k T, K e mk σ → n0 ≤ σ.length → Cl σ → ECl σ.length e → (∀ i ∈ mk, i < σ.length) → TOk σ.length k T → K e (mk ++ T) (σ ++ dfs k)
def TailQ (n0 : Nat) (Q : Post) : Prop := ∀ ex, Tl n0 (Q ex)
section
variable {P : Program} {n0 N : Nat} {rd : Option Nat} {Q : Post}
theorem W_tail {c : Code} (hrd : rdok rd n0 = true) (hQ : TailQ n0 Q) : Tl n0 (WCode P n0 N rd c Q) := by
  intro e mk σ k T h h0 hc he hmk hT G w0 ρ0 A w hi
  obtain ⟨G', w0', ρ0', h1, h2, h3⟩ := inv_hide hi h0 hT hmk hc he
  have h4 := h G' w0' ρ0' A w h1
  rw [fen_congr (ρ := ρ0) (ρ' := ρ0') fun l hl => h2 l (rdok_lt hrd l hl)] at h4
  refine wpIn_mono h4 ?_
  rintro ex A' w' ⟨e', mk', σ', q, hi'⟩
  have hi2 := hi'
  obtain ⟨g0, ρ', _, hs', her'⟩ := hi2
  exact ⟨e', _, _, hQ ex e' mk' σ' k _ q g0 (Cl.of hs') (ECl.of her'.tmps) her'.mkb hT.shift, h3 _ _ _ _ _ hi'⟩
theorem tail_then {K : Env → List Nat → Heap → Prop} (hK : Tl n0 K) (hQ : TailQ n0 Q) : TailQ n0 (thenQ K Q) := fun ex => by
  cases ex with
  | normal => exact hK
  | _ => exact hQ _
theorem tail_block {id : Nat} (hQ : TailQ n0 Q) : TailQ n0 (blockQ id Q) := fun ex => by
  cases ex with
  | exit id' =>
    intro e mk σ k T h h0 hc he hmk hT
    change (if id' = id then Q .normal e mk σ else Q (.exit id') e mk σ) at h
    change (if id' = id then Q .normal e (mk ++ T) (σ ++ dfs k) else Q (.exit id') e (mk ++ T) (σ ++ dfs k))
    by_cases hid : id' = id
    · rw [if_pos hid] at h ⊢; exact hQ _ _ _ _ _ _ h h0 hc he hmk hT
    · rw [if_neg hid] at h ⊢; exact hQ _ _ _ _ _ _ h h0 hc he hmk hT
  | _ => exact hQ _
theorem tail_scope (hQ : TailQ n0 Q) : TailQ n0 (scopeQ Q) := fun ex => by
  cases ex with
  | goto l => intro e mk σ k T h; exact h.elim
  | _ => exact hQ _
theorem killAll_app : ∀ (mk : List Nat) (σ X : Heap), (∀ i ∈ mk, i < σ.length) → killAll mk (σ ++ X) = killAll mk σ ++ X
  | [], _, _, _ => rfl
  | i :: mk, σ, X, h => by
    simp only [killAll]
    rw [List.set_append_left _ _ (h i (by simp)), killAll_app mk (σ.set i .dead) X fun j hj => by rw [List.length_set]; exact h j (by simp [hj])]
theorem killAll_two (mk T : List Nat) (σ : Heap) : killAll (mk ++ T) σ = killAll T (killAll mk σ) := by
  induction mk generalizing σ with
  | nil => rfl
  | cons i mk ih => exact ih _
theorem killAll_tail : ∀ (T : List Nat) (σ X : Heap), (∀ t ∈ T, σ.length ≤ t) → ∃ Y, killAll T (σ ++ X) = σ ++ Y
  | [], _, X, _ => ⟨X, rfl⟩
  | t :: T, σ, X, h => by
    simp only [killAll]
    rw [List.set_append_right _ _ (h t (by simp))]
    exact killAll_tail T σ _ fun u hu => h u (by simp [hu])
theorem cellsAt_app {σ : Heap} {b o n : Nat} {cs : List Value} (X : Heap) (h : cellsAt σ b o n = some cs) : cellsAt (σ ++ X) b o n = some cs := by
  have hb : b < σ.length := by
    apply Classical.byContradiction; intro hn
    have : σ[b]? = none := List.getElem?_eq_none (by omega)
    simp only [cellsAt, this] at h
    cases h
  have e1 : (σ ++ X)[b]? = σ[b]? := List.getElem?_append_left hb
  unfold cellsAt at h ⊢
  rw [e1]; exact h
theorem cellGet_app {σ : Heap} {b o : Nat} {v : Value} (X : Heap) (h : cellGet σ b o = some v) : cellGet (σ ++ X) b o = some v := by
  have hb : b < σ.length := by
    apply Classical.byContradiction; intro hn
    have : σ[b]? = none := List.getElem?_eq_none (by omega)
    simp only [cellGet, this] at h
    cases h
  have e1 : (σ ++ X)[b]? = σ[b]? := List.getElem?_append_left hb
  unfold cellGet at h ⊢
  rw [e1]; exact h
theorem resok_app {e : Env} {σ : Heap} (X : Heap) {rv : List ResultVar} {vs : List Value} (h : ResOk P e σ rv vs) : ResOk P e (σ ++ X) rv vs := by
  induction h with
  | nil => exact .nil
  | tmp h _ ih => exact .tmp h ih
  | cellN ht h hc _ ih => exact .cellN ht h (cellsAt_app X hc) ih
  | cell1 ht h hc _ ih => exact .cell1 ht h (cellGet_app X hc) ih
theorem osub_app {σ : Heap} {n : Nat} {π : Rho} {p : Pl} {o : AObj} (X : Heap) (h : OSub σ n π p o) : OSub (σ ++ X) n π p o := by
  have g : ∀ (i : Nat) (x : AObj), σ[i]? = some x → (σ ++ X)[i]? = some x := fun i x hx => by rw [List.getElem?_append_left (idx_lt hx)]; exact hx
  cases o with
  | dead => trivial
  | ro cs => exact h.imp id fun ⟨c, h1, h2⟩ => ⟨c, g _ _ h1, h2⟩
  | rw cs => exact h.imp id fun ⟨h0, c, h1, h2⟩ => ⟨h0, c, h1.imp (g _ _) fun ⟨t, ht⟩ => ⟨t, g _ _ ht⟩, h2⟩
  | gr cs t => exact h.imp id fun ⟨h0, c, h1, h2⟩ => ⟨h0, c, g _ _ h1, h2⟩
  | dfr => exact g _ _ h
  | loop st pend N e params assign body => obtain ⟨e1, h1, h2⟩ := h; exact ⟨e1, g _ _ h1, h2⟩
  | map es => obtain ⟨es', h1, h2⟩ := h; exact ⟨es', g _ _ h1, h2⟩
  | iter m seen => exact ⟨h.1, g _ _ h.2.1, h.2.2⟩
  | deep qs sp => exact ⟨h.1, h.2.1.imp id fun ⟨sp', h1⟩ => ⟨sp', g _ _ h1⟩, fun x hx => let ⟨q1, s1, h1, h2⟩ := h.2.2 x hx; ⟨q1, s1, g _ _ h1, h2⟩⟩
theorem osub_mono {σ : Heap} {n m : Nat} {π π' : Rho} {p : Pl} {o : AObj} (h : OSub σ n π p o) (hn : n ≤ m) (hπ : ∀ i < n, π' i = π i) : OSub σ m π' p o := by
  cases o with
  | dead => trivial
  | ro cs => exact h.imp id fun ⟨c, h1, h2⟩ => ⟨c, h1, fun k hk => let ⟨a, b⟩ := h2 k hk; ⟨a, b.mono hn hπ⟩⟩
  | rw cs => exact h.imp id fun ⟨h0, c, h1, h2, h3⟩ => ⟨h0, c, h1, h2, fun k hk hk' => (h3 k hk hk').mono hn hπ⟩
  | gr cs t => exact h.imp id fun ⟨h0, c, h1, h2, h3⟩ => ⟨h0, c, h1, h2, fun k hk hk' => (h3 k hk hk').mono hn hπ⟩
  | dfr => exact h
  | loop st pend N e params assign body =>
    obtain ⟨e1, h1, h2⟩ := h
    refine ⟨e1, h1, fun t v hv => ?_⟩
    obtain ⟨u, a, b⟩ := h2 t v hv
    exact ⟨u, a, b.mono hn hπ⟩
  | map es =>
    obtain ⟨es', h1, h2, h3⟩ := h
    exact ⟨es', h1, h2, fun i hi hi' => ⟨(h3 i hi hi').1, (h3 i hi hi').2.mono hn hπ⟩⟩
  | iter k seen => exact ⟨Nat.lt_of_lt_of_le h.1 hn, by rw [hπ k h.1]; exact h.2.1, h.2.2⟩
  | deep qs sp => exact ⟨h.1, h.2.1, fun x hx => let ⟨q1, s1, h1, v, h2, h3⟩ := h.2.2 x hx; ⟨q1, s1, h1, v, h2, h3.mono hn hπ⟩⟩
theorem href_app {m : Nat} {π : Rho} {σ σ2 : Heap} (X : Heap) (h : HRef m π σ σ2) : HRef m π (σ ++ X) σ2 := ⟨h.le, h.id, fun i o hi => osub_app X (h.obj i o hi), h.inj⟩
theorem href_self {m : Nat} {σ : Heap} (hm : m ≤ σ.length) (hc : Cl σ) : HRef m (fun i => ⟨i, 0, 0⟩) σ σ :=
  ⟨hm, fun _ _ => rfl, fun i o hi => osub_refl (m := σ.length) (fun _ _ => rfl) (Nat.le_refl _) (idx_lt hi) hi (hc i o hi), fun i j oi oj hi hj _ _ h => h⟩
theorem cl_kill {σ : Heap} (hc : Cl σ) : ∀ mk : List Nat, Cl (killAll mk σ) := fun mk => by
  induction mk generalizing σ with
  | nil => exact hc
  | cons i mk ih =>
    refine ih fun j o hj => ?_
    rw [List.length_set]
    rcases getElem?_set' hj with ⟨_, rfl⟩ | ⟨_, h⟩
    · trivial
    · exact hc j o h
theorem retref_app {σin σ : Heap} {v v2 : Value} {σ2 : Heap} (X : Heap) (h : RetRef σin σ v v2 σ2) (hle : σin.length ≤ σ.length) (hc : Cl σ) (hv : closed σ.length v = true ∧ okV v = true) : RetRef σin (σ ++ X) v v2 σ2 := by
  rcases h with ⟨rfl, rfl⟩ | h
  · exact .inr fun _ => ⟨fun i => ⟨i, 0, 0⟩, href_app X (href_self hle hc), vsub_refl (fun _ _ => rfl) (Nat.le_refl _) _ hv.1 hv.2⟩
  · exact .inr fun hin => by
      obtain ⟨π, h1, h2⟩ := h hin
      exact ⟨π, href_app X h1, h2⟩
theorem resok_closed {e : Env} {σ : Heap} (hc : Cl σ) (he : ECl σ.length e) {rv : List ResultVar} {vs : List Value} (h : ResOk P e σ rv vs) : closedL σ.length vs = true ∧ okL vs = true := by
  have hcells : ∀ {b o n : Nat} {cs : List Value}, cellsAt σ b o n = some cs → closedL σ.length cs = true ∧ okL cs = true := fun {b o n cs} h => by
    have sub : ∀ l : List Value, (closedL σ.length l = true ∧ okL l = true) → closedL σ.length ((l.drop o).take n) = true ∧ okL ((l.drop o).take n) = true := fun l hl =>
      ⟨(closedL_iff _ _).2 fun v hv => (closedL_iff _ _).1 hl.1 v (List.mem_of_mem_drop (List.mem_of_mem_take hv)), (okL_iff _).2 fun v hv => (okL_iff _).1 hl.2 v (List.mem_of_mem_drop (List.mem_of_mem_take hv))⟩
    unfold cellsAt at h
    cases hb : σ[b]? with
    | none => rw [hb] at h; cases h
    | some x =>
      rw [hb] at h
      have hx := hc b x hb
      have fin : ∀ l0 : List Value, (closedL σ.length l0 = true ∧ okL l0 = true) → (bif Nat.ble (o + n) l0.length then some ((l0.drop o).take n) else none) = some cs → closedL σ.length cs = true ∧ okL cs = true := fun l0 hl h => by
        cases hb2 : Nat.ble (o + n) l0.length with
        | true => rw [hb2] at h; cases h; exact sub _ hl
        | false => rw [hb2] at h; cases h
      cases x with
      | ro l0 => exact fin l0 hx h
      | rw l0 => exact fin l0 hx h
      | gr l0 t => exact fin l0 hx h
      | deep qs sp =>
        simp only at h
        cases hn : Nat.beq n 1 with
        | false => rw [hn] at h; cases h
        | true =>
          simp only [hn, cond_true, Option.map_eq_some_iff] at h
          obtain ⟨v, hv, rfl⟩ := h
          have := hx _ (spGet_mem hv)
          exact ⟨by simp [closedL, this.1], by simp [okL, this.2]⟩
      | _ => cases h
  induction h with
  | nil => exact ⟨rfl, rfl⟩
  | tmp h _ ih =>
    have := he _ _ h
    exact ⟨by simp [closedL, this.1, ih.1], by simp [okL, this.2, ih.2]⟩
  | cellN ht h hcs _ ih =>
    have := hcells hcs
    exact ⟨by simp [closedL, closed, closedA, this.1, ih.1], by simp [okL, okV, okA, this.2, ih.2]⟩
  | cell1 ht h hcs _ ih =>
    have := hcells (cellGet_at hcs)
    have h1 := (closedL_iff _ _).1 this.1 _ (List.mem_singleton.2 rfl)
    have h2 := (okL_iff _).1 this.2 _ (List.mem_singleton.2 rfl)
    exact ⟨by simp [closedL, h1, ih.1], by simp [okL, h2, ih.2]⟩
theorem retV_closed {n : Nat} {vs : List Value} (h : closedL n vs = true ∧ okL vs = true) : closed n (retV vs) = true ∧ okV (retV vs) = true := by
  match vs, h with
  | [], _ => exact ⟨rfl, rfl⟩
  | [v], h => exact ⟨(closedL_iff _ _).1 h.1 v (by simp), (okL_iff _).1 h.2 v (by simp)⟩
  | v :: v2 :: vs, h => exact ⟨h.1, h.2⟩
theorem tail_ret {σin : Heap} {rv : List ResultVar} {R : Value → Heap → Prop} (hle : Nat.ble σin.length n0 = true) : TailQ n0 (retQ P σin rv R) := fun ex => by
  have key : Tl n0 (retQ P σin rv R .ret) := by
    rintro e mk σ k T ⟨hnd, hm, vs, v2, σ2, hr, href, hR⟩ h0 hc he hmk hT
    have hl := Nat.le_of_ble_eq_true hle
    obtain ⟨Y, hY⟩ := killAll_tail T (killAll mk σ) (dfs k) fun t ht => by rw [killAll_length]; exact (hT.2 t ht).1
    have e1 : killAll (mk ++ T) (σ ++ dfs k) = killAll mk σ ++ Y := by rw [killAll_two, killAll_app mk σ _ hmk, hY]
    have hck := cl_kill hc mk
    refine ⟨List.nodup_append.2 ⟨hnd, hT.1, fun a ha b hb => ?_⟩, fun i hi => ?_, vs, v2, σ2, ?_, ?_, hR⟩
    · have := hmk a ha; have := hT.2 b hb; omega
    · rcases List.mem_append.1 hi with hi | hi
      · exact dfs_lt (hm i hi)
      · have := hT.2 i hi; exact dfs_at this.1 this.2
    · rw [e1]; exact resok_app Y hr
    · rw [e1]
      exact retref_app Y href (by rw [killAll_length]; omega) hck (retV_closed (resok_closed hck (by rw [killAll_length]; exact he) hr))
  cases ex with
  | normal => exact key
  | ret => exact key
  | _ => intro e mk σ k T h; exact h.elim
end
def StRefD (n0 : Nat) (σ : Heap) (e : Env) (mk : List Nat) (σ2 : Heap) (e2 : Env) : Prop :=
  Cl σ → ECl σ.length e → ∃ π k T, HRef n0 π σ (σ2 ++ dfs k) ∧ ERef σ2.length π e e2 ∧ mk = T.map (fun t => (π t).b) ∧ TOk σ2.length k T
section
variable {P : Program} {n0 N : Nat} {rd : Option Nat} {Q : Post} {e e2 : Env} {σ σ2 : Heap} {mk : List Nat}
theorem StRefD.of (h : StRef n0 σ σ2 e e2) (hn : n0 ≤ σ2.length) : StRefD n0 σ e [] σ2 e2 := fun hc he => by
  rcases h with ⟨rfl, h⟩ | h
  · refine ⟨fun i => ⟨i, 0, 0⟩, 0, [], by simpa [dfs] using href_self hn hc, fun p hp => ?_, rfl, List.nodup_nil, fun t ht => by simp at ht⟩
    have := envSub_mem h p hp
    exact ⟨_, this, vsub_refl (fun _ _ => rfl) (Nat.le_refl _) _ (he _ _ this).1 (he _ _ this).2⟩
  · obtain ⟨π, h1, h2⟩ := h hc
    exact ⟨π, 0, [], by simpa [dfs] using h1, h2, rfl, List.nodup_nil, fun t ht => by simp at ht⟩
theorem osubs_snoc {σ : Heap} {n : Nat} {π : Rho} {o : AObj} : ∀ {news : Heap} {k : Nat}, OSubs σ n π k news → OSub σ n π (π (k + news.length)) o → OSubs σ n π k (news ++ [o])
  | [], k, _, h => ⟨h, trivial⟩
  | x :: r, k, h, ho => ⟨h.1, osubs_snoc h.2 (by rw [show k + 1 + r.length = k + (x :: r).length from by simp; omega]; exact ho)⟩
theorem StRefD.src (σ0 news : Heap) (l : List Nat) (d : Nat) (hn0 : n0 ≤ σ0.length) (hσ : σ.take σ0.length = σ0) (hcl : HClosed σ0.length σ0) (hl : l.length = news.length) (hd : distinctFrom σ0.length (l ++ [d]) = true) (hdf : σ[d]? = some .dfr)
    (ho : OSubs σ (σ0.length + (news.length + 1)) (srcR σ0.length (l ++ [d])) σ0.length news) (he : EnvRen (σ0.length + news.length) (srcR σ0.length (l ++ [d])) e e2) : StRefD n0 σ e [d] (σ0 ++ news) e2 := fun _ _ => by
  have hs : srcR σ0.length (l ++ [d]) (σ0.length + news.length) = ⟨d, 0, 0⟩ := by
    simp only [srcR]
    rw [if_neg (by omega), show σ0.length + news.length - σ0.length = l.length by omega]
    simp
  have h1 := href_src (n0 := n0) (σ := σ) (σ0 := σ0) (news := news ++ [.dfr]) (l ++ [d]) hn0 hσ hcl (by simp [hl]) hd (by
    rw [show (news ++ [AObj.dfr]).length = news.length + 1 by simp]
    exact osubs_snoc ho (by rw [hs]; exact hdf))
  refine ⟨_, 1, [σ0.length + news.length], by simpa [dfs, List.append_assoc] using h1, by rw [List.length_append]; exact envRen_ref he, by simp [hs], by simp, fun t ht => ?_⟩
  rw [List.mem_singleton.1 ht, List.length_append]; omega
theorem inv_refD {G : Nat → Prop} {w0 : World} {ρ0 : Rho} {A : Act} {w : World} (h : StRefD n0 σ e mk σ2 e2) (hi : Inv n0 N G w0 ρ0 e mk σ A w) (hc2 : HClosed σ2.length σ2) : ∃ k T, TOk σ2.length k T ∧ Inv n0 N G w0 ρ0 e2 T (σ2 ++ dfs k) A w ∧ ECl σ2.length e2 := by
  obtain ⟨h0, ρ, ha, hs, ht, hmk, hmb⟩ := hi
  obtain ⟨π, k, T, h1, h2, h3, h4⟩ := h (Cl.of hs) (ECl.of ht)
  have hlen := dfs_len σ2 k
  refine ⟨k, T, h4, ⟨h1.le, comp ρ π, fun i hi => (comp_id (h1.id i hi)).trans (ha i hi), sim_ref h1 hs, trel_mono (trel_ref h2 ht) (by omega) (fun _ _ => rfl), ?_, fun i hi => by have := h4.2 i hi; omega⟩, fun t v hv => ?_⟩
  · rw [hmk, h3, List.map_map]; rfl
  · obtain ⟨u, _, h6⟩ := h2 _ (env_mem hv)
    exact ⟨vq_closed h6, vq_ok h6⟩
theorem tail_st {σ2 : Heap} {e2 : Env} {k : Nat} {T : List Nat} (h : StRefD n0 σ e mk σ2 e2) (hc : Cl σ) (he : ECl σ.length e) (hmk : ∀ i ∈ mk, i < σ.length) (hT : TOk σ.length k T) : StRefD n0 (σ ++ dfs k) e (mk ++ T) σ2 e2 := fun _ _ => by
  obtain ⟨π, k1, T1, h1, h2, h3, h4⟩ := h hc he
  have hl1 := dfs_len σ2 k1
  have hle := h1.le
  have elo : ∀ i < (σ2 ++ dfs k1).length, joinR (σ2.length + k1) π σ.length (fun i => ⟨i, 0, 0⟩) i = π i := fun i hi => joinR_lt (by omega)
  have ehi : ∀ i, σ2.length + k1 ≤ i → joinR (σ2.length + k1) π σ.length (fun i => ⟨i, 0, 0⟩) i = ⟨σ.length + (i - (σ2.length + k1)), 0, 0⟩ := fun i hi => joinR_ge hi
  have vs : ∀ {m : Nat} {v v' : Value}, m ≤ (σ2 ++ dfs k1).length → VSub m π v v' → VSub m (joinR (σ2.length + k1) π σ.length (fun i => ⟨i, 0, 0⟩)) v v' := fun {m v v'} hm h => h.mono (Nat.le_refl _) fun i hi => elo i (by omega)
  have hdk : (σ2 ++ dfs k1).length ≤ (σ2 ++ dfs (k1 + k)).length := by rw [hl1, dfs_len]; omega
  refine ⟨joinR (σ2.length + k1) π σ.length (fun i => ⟨i, 0, 0⟩), k1 + k, T1 ++ shiftT σ.length (σ2.length + k1) T, ⟨by rw [← dfs_dfs, dfs_len]; omega, fun i hi => (elo i (by omega)).trans (h1.id i hi), fun i o hi => ?_, fun i j oi oj hi hj hoi hoj hij => ?_⟩, fun p hp => ?_, ?_, h4.app hT.shift⟩
  · rw [← dfs_dfs] at hi
    rcases dfs_get hi with ⟨g1, g2⟩ | ⟨g1, g2, rfl⟩
    · rw [elo i g1]
      exact osub_app _ (osub_mono (h1.obj i o g2) hdk elo)
    · rw [ehi i (by omega)]
      exact dfs_at (by simp only; omega) (by simp only; omega)
  · rw [← dfs_dfs] at hi hj
    have own : ∀ i oi, (σ2 ++ dfs k1)[i]? = some oi → oi.owned → (π i).b < σ.length := fun i oi hi ho => by
      obtain ⟨o, h, _⟩ := osub_owned (h1.obj i oi hi) ho
      exact idx_lt h
    rcases dfs_get hi with ⟨g1, g2⟩ | ⟨g1, g2, rfl⟩ <;> rcases dfs_get hj with ⟨f1, f2⟩ | ⟨f1, f2, rfl⟩
    · rw [elo i g1, elo j f1] at hij
      exact h1.inj i j oi oj g2 f2 hoi hoj hij
    · have := own i oi g2 hoi
      rw [elo i g1, ehi j (by omega)] at hij
      simp only at hij; omega
    · have := own j oj f2 hoj
      rw [elo j f1, ehi i (by omega)] at hij
      simp only at hij; omega
    · rw [ehi i (by omega), ehi j (by omega)] at hij
      simp only at hij; omega
  · obtain ⟨u, g1, g2⟩ := h2 p hp
    exact ⟨u, g1, vs (by omega) g2⟩
  · rw [List.map_append, h3]
    congr 1
    · exact List.map_congr_left fun t ht => by rw [elo t (by have := h4.2 t ht; omega)]
    · simp only [shiftT, List.map_map]
      refine (List.map_id T).symm.trans (List.map_congr_left fun t ht => ?_)
      have := hT.2 t ht
      simp only [Function.comp_apply, id]
      rw [ehi _ (by omega)]
      simp only; omega
theorem tail_loopD {ι : Type} {E : ι → Env} {S : ι → Heap} {q : ι → Prop} : Tl n0 (fun e' mk' σ' => ∃ i', q i' ∧ StRefD n0 σ' e' mk' (S i') (E i')) := by
  rintro e mk σ k T ⟨i', h1, h2⟩ h0 hc he hmk hT
  exact ⟨i', h1, tail_st h2 hc he hmk hT⟩
theorem W_loopD {ι : Type} (E : ι → Env) (S : ι → Heap) (μ : ι → Nat) (p : ι → Prop) (i0 : ι) {body : Code} (hrd : rdok rd n0 = true) (hQ : TailQ n0 Q) (hn : ∀ i, n0 ≤ (S i).length) (hc : ∀ i, p i → HClosed (S i).length (S i)) (h0 : StRefD n0 σ e mk (S i0) (E i0)) (hp : p i0)
    (round : ∀ i, p i → WCode P n0 N rd body (thenQ (fun e' mk' σ' => ∃ i', (p i' ∧ μ i' < μ i) ∧ StRefD n0 σ' e' mk' (S i') (E i')) Q) (E i) [] (S i)) : WCode P n0 N rd (.loop body) Q e mk σ := by
  have cl : ∀ i, p i → Cl (S i) := fun i hi j o hj => hclosed_get (hc i hi) j o hj
  have main : ∀ i k T, p i → TOk (S i).length k T → ECl (S i).length (E i) → WCode P n0 N rd (.loop body) Q (E i) T (S i ++ dfs k) := by
    intro i k T hpi hT he
    refine W_loop (fun m e1 mk1 σ1 => ∃ i k T, p i ∧ μ i = m ∧ e1 = E i ∧ mk1 = T ∧ σ1 = S i ++ dfs k ∧ TOk (S i).length k T ∧ ECl (S i).length (E i)) (m0 := μ i) ⟨i, k, T, hpi, rfl, rfl, rfl, rfl, hT, he⟩ ?_
    rintro m e1 mk1 σ1 ⟨i, k, T, hpi, rfl, rfl, rfl, rfl, hT, he⟩ G w0 ρ0 A w hi
    obtain ⟨G', w0', ρ0', h1, h2, h3⟩ := inv_hide (mk := []) hi (hn i) hT (fun i hi => by simp at hi) (cl i hpi) he
    have h4 := round i hpi G' w0' ρ0' A w h1
    rw [fen_congr (ρ := ρ0) (ρ' := ρ0') fun l hl => h2 l (rdok_lt hrd l hl)] at h4
    refine wpIn_mono h4 ?_
    rintro ex A' w' ⟨e', mk', σ', q, hi'⟩
    have hi2 := hi'
    obtain ⟨g0, ρ', _, hs', her'⟩ := hi2
    cases ex with
    | normal =>
      obtain ⟨i', ⟨q1, q2⟩, q3⟩ := q
      obtain ⟨k', T', r1, r2, r3⟩ := inv_refD q3 hi' (hc i' q1)
      have r4 := h3 _ _ _ _ _ r2
      rw [dfs_dfs] at r4
      rw [dfs_len] at r4
      exact ⟨E i', _, _, ⟨μ i', q2, i', k' + k, _, q1, rfl, rfl, rfl, rfl, r1.app hT.shift, r3⟩, r4⟩
    | _ => exact ⟨e', _, _, hQ _ e' mk' σ' k _ q g0 (Cl.of hs') (ECl.of her'.tmps) her'.mkb hT.shift, h3 _ _ _ _ _ hi'⟩
  intro G w0 ρ0 A w hi
  obtain ⟨k, T, r1, r2, r3⟩ := inv_refD h0 hi (hc i0 hp)
  exact main i0 k T hp r1 r3 G w0 ρ0 A w r2
end
end Go.AH.Tail
namespace Go.AH.Late
open Go Go.AH
def partOk (ops : List Oper) (m f : Nat) (o : Oper) (j mk : Nat) : Bool :=
  notDefer o && o.after.all (fun e => !Region.binds .any e || Nat.blt e.on j) &&
    (match o.guard with | some (g, _) => waits o g | none => true) &&
    (List.range j).all fun i => mk.testBit i || (Nat.blt i m && (match ops[i]? with | some oi => oi.apart ops.toArray o | none => false)) && (Nat.blt j m || (Nat.beq i f && Nat.beq j m))
def chkD (all : List Oper) (m f : Nat) : List Oper → Nat → List Nat → Bool
  | [], _, _ => true
  | o :: rest, j, acc => forceN (maskOf acc o.after.toList) fun mk => partOk all m f o j mk && chkD all m f rest (j + 1) (acc ++ [mk])
def drawOk (ops : List Oper) (m f : Nat) : Bool := chkD ops m f ops 0 []
theorem chkD_get {all : List Oper} {m f : Nat} : ∀ (rest : List Oper) (j : Nat) (acc : List Nat), rest = all.drop j → acc.length = j → j ≤ all.length → (∀ (k : Nat) (mk : Nat), acc[k]? = some mk → Good all k mk) → chkD all m f rest j acc = true →
    ∀ (t : Nat) (o : Oper), rest[t]? = some o → ∃ mk, partOk all m f o (j + t) mk = true ∧ Good all (j + t) mk
  | [], _, _, _, _, _, _, _, t, o, h => by simp at h
  | x :: rest, j, acc, hr, hl, hj, hacc, hc, t, o, h => by
    have hx : all[j]? = some x := by
      have := congrArg (fun l : List Oper => l[0]?) hr
      simpa using this.symm
    have hr' : rest = all.drop (j + 1) := by
      have := congrArg List.tail hr
      simpa using this
    have hjl := (List.getElem?_eq_some_iff.1 hx).1
    simp only [chkD, forceN_eq, Bool.and_eq_true] at hc
    have hg := good_mask hx hacc (by omega)
    cases t with
    | zero => simp at h; subst h; exact ⟨_, hc.1, hg⟩
    | succ t =>
      have := chkD_get rest (j + 1) (acc ++ [maskOf acc x.after.toList]) hr' (by simp [hl]) (by omega) (fun k mk hk => by
        by_cases hkl : k < acc.length
        · rw [List.getElem?_append_left hkl] at hk; exact hacc k mk hk
        · rw [List.getElem?_append_right (by omega)] at hk
          have hk0 : k - acc.length = 0 := by
            have := (List.getElem?_eq_some_iff.1 hk).1
            simp at this; omega
          rw [hk0] at hk; simp at hk; subst hk
          rw [show k = j by omega]; exact hg) hc.2 t o (by simpa using h)
      rwa [show j + 1 + t = j + (t + 1) by omega] at this
section
variable {all : List Oper} {m f : Nat}
theorem draw_parts (h : drawOk all m f = true) {j : Nat} {o : Oper} (hj : all[j]? = some o) :
    notDefer o = true ∧ (∀ e ∈ o.after, Region.binds .any e = true → e.on < j) ∧ (∀ g b, o.guard = some (g, b) → waits o g = true) ∧
    ∀ i oi, i < j → all[i]? = some oi → (∀ D : Nat → Prop, Closed all D → (∀ k, waits o k = true → D k) → D i) ∨ (i < m ∧ (j < m ∨ (i = f ∧ j = m)) ∧ oi.apart all.toArray o = true) := by
  obtain ⟨mk, this, hgood⟩ := chkD_get all 0 [] rfl rfl (by omega) (fun k mk hk => by simp at hk) h j o hj
  rw [Nat.zero_add] at this hgood
  unfold partOk at this
  simp only [Bool.and_eq_true] at this
  obtain ⟨⟨⟨h1, h2⟩, h3⟩, h4⟩ := this
  refine ⟨h1, fun e he hb => ?_, fun g b hg => ?_, fun i oi hi hoi => ?_⟩
  · have := Array.all_eq_true_iff_forall_mem.1 h2 e he
    simp only [hb, Bool.not_true, Bool.false_or, Nat.blt_eq] at this; exact this
  · rw [hg] at h3; exact h3
  · have := List.all_eq_true.1 h4 i (by simpa using hi)
    simp only [hoi, Bool.or_eq_true, Bool.and_eq_true, Nat.blt_eq, Nat.beq_eq] at this
    rcases this with h | ⟨⟨h5, h6⟩, h7⟩
    · exact .inl fun D hD hw => hgood D hD o hj hw i h
    · exact .inr ⟨h5, h7, h6⟩
theorem waits_lt (h : drawOk all m f = true) {j i : Nat} {o : Oper} (hj : all[j]? = some o) (hw : waitsA o.after i = true) : i < j := by
  unfold waitsA at hw
  obtain ⟨e, he, hb⟩ := Array.any_eq_true'.1 hw
  simp only [Bool.and_eq_true] at hb
  rw [← Nat.eq_of_beq_eq_true hb.2]
  exact (draw_parts h hj).2.1 e he hb.1
end
section
variable {P : Program} {N : Nat} {rd : Option Nat} {e0 : Env} {mk : List Nat} {σ0 : Heap} {all : List Oper} {ts : List Tr} {n0 : Nat}
theorem dinv_sees {G : Nat → Prop} {w0 : World} {ρ0 ρ : Rho} {f : Nat} {L : Nat → Bool} {A : Act} {w : World} (hd : DInv n0 N G w0 ρ0 e0 mk σ0 ts L A w ρ) (hall : ∀ (i : Nat) (hi : i < ts.length), all[i]? = some ts[i].o)
    (hchk : drawOk all ts.length f = true) {i : Nat} (hi : i < ts.length) (hLi : L i = false) (hw : ∀ j, waits ts[i].o j = true → L j = true) (hdc : Closed all fun k => L k = true)
    {t : Nat} (ht : t ∈ ts[i].o.looksAt all.toArray) {v : Value} (hv : Env.get (envAt (ts.take i) e0) t = some v) : ∃ v', A.tmps[t]? = some v' ∧ VRel (σ0.length + (nsOf (ts.take i)).length) ρ v v' := by
  have early : ∀ (j : Nat) (hj : j < i), (ts[j]'(by omega)).o.dst = some t → L j = true := by
    intro j hj hdst
    rcases (draw_parts hchk (hall i hi)).2.2.2 j _ hj (hall j (by omega)) with h | ⟨_, _, h⟩
    · exact h _ hdc hw
    · exact absurd ht ((Oper.apart_spec h).1 t hdst)
  have late : ∀ (j : Nat) (hj : j < ts.length), i < j → ts[j].o.dst = some t → L j = true → False := by
    intro j hj hij hdst hLj
    rcases (draw_parts hchk (hall j hj)).2.2.2 i _ hij (hall i hi) with h | ⟨_, _, h⟩
    · have := h _ hdc (hdc j _ (hall j hj) hLj)
      rw [hLi] at this; cases this
    · exact absurd ht ((Oper.apart_spec h).2.2 t hdst)
  rcases envAt_get _ _ _ _ hv with ⟨j, hj, h1, h2, h3⟩ | ⟨h1, h2⟩
  · have hji : j < i := by simp at hj; omega
    rw [List.getElem_take] at h1 h2
    obtain ⟨v', g1, g2⟩ := hd.new j (by omega) (early j hji h1) t h1 fun k hk hjk hLk hdk => by
      rcases Nat.lt_trichotomy k i with hlt | rfl | hgt
      · have := h3 k (by simp; omega) hjk
        rw [List.getElem_take] at this; exact this hdk
      · rw [hLi] at hLk; cases hLk
      · exact late k hk hgt hdk hLk
    refine ⟨v', g1, ?_⟩
    rw [← h2]
    have := nsOf_lt hji (Nat.le_of_lt hi)
    exact g2.mono (by omega) fun _ _ => rfl
  · obtain ⟨v', g1, g2⟩ := hd.old t v h1 fun k hk hLk hdk => by
      rcases Nat.lt_trichotomy k i with hlt | rfl | hgt
      · have := h2 k (by simp; omega)
        rw [List.getElem_take] at this; exact this hdk
      · rw [hLi] at hLk; cases hLk
      · exact late k hk hgt hdk hLk
    exact ⟨v', g1, g2.mono (by omega) fun _ _ => rfl⟩
theorem dinv_step {G : Nat → Prop} {w0 : World} {ρ0 ρ ρ' : Rho} {f : Nat} {L : Nat → Bool} {A : Act} {w w' : World} (hd : DInv n0 N G w0 ρ0 e0 mk σ0 ts L A w ρ) (hall : ∀ (i : Nat) (hi : i < ts.length), all[i]? = some ts[i].o)
    (hchk : drawOk all ts.length f = true) (hn0 : n0 ≤ σ0.length) (hmk : ∀ i ∈ mk, i < σ0.length)
    (hns : ∀ (j : Nat) (hj : j < ts.length), newOk σ0.length ts[j].ns) (hnok : ∀ (j : Nat) (hj : j < ts.length) (i : Nat) (hi : i < j), (∃ D : Nat → Prop, Closed all D ∧ D j ∧ ¬ D i) → ∀ (m : Nat) (ρ ρ' : Rho) (v' : Value), VRel m ρ ts[j].v v' →
      (∀ q, q < σ0.length + (nsOf (ts.take i)).length ∨ σ0.length + (nsOf (ts.take i)).length + ts[i].ns.length ≤ q → ρ' q = ρ q) → VRel m ρ' ts[j].v v')
    {i : Nat} (hi : i < ts.length) (hLi : L i = false) (hdc : Closed all fun k => L k = true) (hdst : dstOk N ts[i].o = true)
    {v' : Value} (hag : ∀ k < σ0.length + (nsOf (ts.take i)).length, ρ' k = ρ k) (hv : VRel (σ0.length + ((nsOf (ts.take i)).length + ts[i].ns.length)) ρ' ts[i].v v')
    (hs' : Sim (oth G ρ σ0 ts L (waitsA ts[i].o.after)) w ρ' (σ0 ++ maskN (ts.take i) 0 (waitsA ts[i].o.after) ++ ts[i].ns) w') :
    DInv n0 N G w0 ρ0 e0 mk σ0 ts (setL L i) (A.put ts[i].o.dst v') w' (mixR ρ ρ' (σ0.length + (nsOf (ts.take i)).length) ts[i].ns.length) := by
  have mixlow : ∀ k < σ0.length + (nsOf (ts.take i)).length, mixR ρ ρ' (σ0.length + (nsOf (ts.take i)).length) ts[i].ns.length k = ρ k := fun k hk => by simp only [mixR]; rw [if_neg (by omega)]
  have mixown : ∀ k < σ0.length + ((nsOf (ts.take i)).length + ts[i].ns.length), mixR ρ ρ' (σ0.length + (nsOf (ts.take i)).length) ts[i].ns.length k = ρ' k := fun k hk => by
    simp only [mixR]; split
    · rfl
    · rw [hag k (by omega)]
  have mixhi : ∀ k, σ0.length + (nsOf (ts.take i)).length + ts[i].ns.length ≤ k → mixR ρ ρ' (σ0.length + (nsOf (ts.take i)).length) ts[i].ns.length k = ρ k := fun k hk => by simp only [mixR]; rw [if_neg (by omega)]
  have keep : ∀ t u, A.tmps[t]? = some u → ts[i].o.dst ≠ some t → (A.put ts[i].o.dst v').tmps[t]? = some u := by
    intro t u hu hne
    cases hdd : ts[i].o.dst with
    | none => simpa [Act.put] using hu
    | some d =>
      simp only [Act.put]
      rw [Array.getElem?_setIfInBounds_ne (fun hdt => hne (by rw [hdd, hdt]))]; exact hu
  refine ⟨fun k hk => (mixlow k (by omega)).trans (hd.ag k hk), sim_join hi hLi (fun j hj => waits_lt hchk (hall i hi) hj) hd.sim hns hag hs', ?_, ?_, fun t v ht hno => ?_, fun k hk hLk t hdk hno => ?_⟩
  · cases hdd : ts[i].o.dst <;> simp [Act.put, hd.sz]
  · have : (A.put ts[i].o.dst v').defers = A.defers := by cases ts[i].o.dst <;> rfl
    rw [this, hd.mks]
    congr 1
    exact List.map_congr_left fun k hk => by rw [mixlow k (by have := hmk k hk; omega)]
  · obtain ⟨u, g1, g2⟩ := hd.old t v ht fun k hk hLk => hno k hk (by simp only [setL]; split <;> simp [hLk])
    exact ⟨u, keep t u g1 (hno i hi (by simp [setL])), g2.mono (Nat.le_refl _) fun k hk => mixlow k (by omega)⟩
  · by_cases hki : k = i
    · subst hki
      refine ⟨v', ?_, hv.mono (by omega) mixown⟩
      simp only [hdk, dstOk, Nat.blt_eq] at hdst
      simp only [hdk, Act.put]
      rw [Array.getElem?_setIfInBounds_self_of_lt (by rw [hd.sz]; exact hdst)]
    · have hLk' : L k = true := by simpa [setL, hki] using hLk
      have hne : ts[i].o.dst ≠ some t := by
        intro hdi
        rcases Nat.lt_or_gt_of_ne hki with hlt | hgt
        · exact hno i hi hlt (by simp [setL]) hdi
        · rcases (draw_parts hchk (hall k hk)).2.2.2 i _ hgt (hall i hi) with h | ⟨_, _, h⟩
          · have := h _ hdc (hdc k _ (hall k hk) hLk')
            rw [hLi] at this; cases this
          · exact (Oper.apart_spec h).2.1 t hdi hdk
      obtain ⟨u, g1, g2⟩ := hd.new k hk hLk' t hdk fun j hj hkj hLj => hno j hj hkj (by simp only [setL]; split <;> simp [hLj])
      refine ⟨u, keep t u g1 hne, ?_⟩
      rcases Nat.lt_or_gt_of_ne hki with hlt | hgt
      · have := nsOf_lt hlt (Nat.le_of_lt hi)
        exact g2.mono (Nat.le_refl _) fun j hj => mixlow j (by omega)
      · have := nsOf_lt hgt (Nat.le_of_lt hk)
        exact hnok k hk i hgt ⟨fun q => L q = true, hdc, hLk', by simp [hLi]⟩ _ _ _ _ g2 fun j hj => by
          rcases hj with hj | hj
          · exact mixlow j hj
          · exact mixhi j hj
theorem free_any {G : Nat → Prop} {w0 : World} {ρ0 : Rho} {f : Nat} {Q' : Exit → Act → World → Prop} (hrd : rdok rd n0 = true) (hall : ∀ (i : Nat) (hi : i < ts.length), all[i]? = some ts[i].o)
    (hchk : drawOk all ts.length f = true) (hn0 : n0 ≤ σ0.length) (hmk : ∀ i ∈ mk, i < σ0.length) (hcl : ∀ (i : Nat) (o : AObj), σ0[i]? = some o → oclosed σ0.length o) (htr : TrOk P N rd all 0 ts e0 σ0 [])
    (hfin : ∀ A w ρ fuel listed, listed.size = all.length → (∀ i < all.length, listed.getD i false = decide (i < ts.length)) → DInv n0 N G w0 ρ0 e0 mk σ0 ts (fun i => listed.getD i false) A w ρ →
      fuel = all.length - ts.length → wpAnyIn (fen ρ0 rd) 0 P .any all.toArray Q' fuel listed A w)
    (hlate : ∀ A w ρ fuel listed, listed.size = all.length → (∀ i, listed.getD i false = decide (i < ts.length ∧ i ≠ f)) → DInv n0 N G w0 ρ0 e0 mk σ0 ts (fun i => listed.getD i false) A w ρ → Closed all (fun k => listed.getD k false = true) →
      f < ts.length → ts.length < all.length → ts.length ∈ Region.ready .any all.toArray listed → fuel = all.length - ts.length → wpOpIn (fen ρ0 rd) 0 P all.toArray Q' ts.length (wpAnyIn (fen ρ0 rd) 0 P .any all.toArray Q' fuel (listed.setIfInBounds ts.length true)) A w)
    (hlen : ts.length ≤ all.length) : ∀ (fuel : Nat) (listed : Array Bool) (A : Act) (w : World) (ρ : Rho), listed.size = all.length → (∀ i, ts.length ≤ i → listed.getD i false = false) → cnt all.length listed = fuel →
    Closed all (fun k => listed.getD k false = true) →
    DInv n0 N G w0 ρ0 e0 mk σ0 ts (fun i => listed.getD i false) A w ρ → wpAnyIn (fen ρ0 rd) 0 P .any all.toArray Q' fuel listed A w := by
  intro fuel
  induction fuel with
  | zero =>
    intro listed A w ρ hsz hhi hcnt hdc hd
    have hno : ∀ i < all.length, listed.getD i false = true := by
      intro i hi
      unfold cnt at hcnt
      have := (List.countP_eq_zero.1 hcnt) i (by simpa using hi)
      simp only [Bool.not_eq_true', Bool.not_eq_false] at this
      rw [getD_lt (by omega) false true]; exact this
    have hm : ts.length = all.length := by
      rcases Nat.lt_or_ge ts.length all.length with h | h
      · have h1 := hno ts.length h
        rw [hhi ts.length (Nat.le_refl _)] at h1; cases h1
      · omega
    exact hfin A w ρ 0 listed hsz (fun i hi => by rw [hno i hi]; simp; omega) hd (by omega)
  | succ fuel ih =>
    intro listed A w ρ hsz hhi hcnt hdc hd
    by_cases hdone : ∀ i < ts.length, listed.getD i false = true
    · have hpat : ∀ i < all.length, listed.getD i false = decide (i < ts.length) := fun i hi => by
        by_cases him : i < ts.length
        · rw [hdone i him]; simp [him]
        · rw [hhi i (by omega)]; simp [him]
      refine hfin A w ρ (fuel + 1) listed hsz hpat hd ?_
      rw [← hcnt]
      exact cnt_tail hlen fun i hi => by rw [getD_lt (by omega) true false]; exact hpat i hi
    · refine ⟨fun hr => ?_, fun i hr => ?_⟩
      ·
        exfalso
        have hex : ∃ i, i < ts.length ∧ listed.getD i false = false := by
          simp only [Classical.not_forall] at hdone
          obtain ⟨i, hi, hn⟩ := hdone
          exact ⟨i, hi, by simpa using hn⟩
        have least : ∃ i, (i < ts.length ∧ listed.getD i false = false) ∧ ∀ k < i, listed.getD k false = true := by
          obtain ⟨i, hi⟩ := hex
          induction i using Nat.strongRecOn with
          | _ i ih2 =>
            by_cases hlow : ∃ k, k < i ∧ listed.getD k false = false
            · obtain ⟨k, hk, hkf⟩ := hlow; exact ih2 k hk ⟨by omega, hkf⟩
            · refine ⟨i, hi, fun k hk => ?_⟩
              cases hc : listed.getD k false with
              | true => rfl
              | false => exact absurd ⟨k, hk, hc⟩ hlow
        obtain ⟨i, ⟨hi, hif⟩, hlow⟩ := least
        have : i ∈ Region.ready .any all.toArray listed := mem_ready.2 ⟨by rw [getD_lt (by omega) true false]; exact hif, ts[i].o, by rw [List.getElem?_toArray]; exact hall i hi,
          fun e he hb => hlow _ ((draw_parts hchk (hall i hi)).2.1 e he hb)⟩
        rw [hr] at this; cases this
      · obtain ⟨hif, o, ho, _⟩ := mem_ready.1 hr
        rw [List.getElem?_toArray] at ho
        have hia : i < all.length := (List.getElem?_eq_some_iff.1 ho).1
        have hif' : listed.getD i false = false := by rw [getD_lt (by omega) false true]; exact hif
        rcases Nat.lt_or_ge i ts.length with him | him
        rotate_left
        · have hk1 : ∀ k < ts.length, listed.getD k false = true ∨ (k = f ∧ i = ts.length) := by
            intro k hk
            rcases (draw_parts hchk ho).2.2.2 k _ (by omega) (hall k hk) with h' | ⟨_, h', _⟩
            · exact .inl (h' (fun k => listed.getD k false = true) hdc fun k hk => waits_ready hr ho hk)
            · rcases h' with h' | h'
              · omega
              · exact .inr h'
          have hex : f < ts.length ∧ i = ts.length ∧ listed.getD f false = false := by
            apply Classical.byContradiction; intro hno
            apply hdone
            intro k hk
            rcases hk1 k hk with h | ⟨rfl, h⟩
            · exact h
            · cases hc : listed.getD k false with
              | true => rfl
              | false => exact absurd ⟨hk, h, hc⟩ hno
          obtain ⟨hf1, hf3, hf2⟩ := hex
          subst hf3
          refine hlate A w ρ fuel listed hsz (fun k => ?_) hd hdc hf1 hia hr ?_
          · by_cases hk : k < ts.length
            · rcases hk1 k hk with h | ⟨rfl, _⟩
              · rw [h]; symm; simp only [decide_eq_true_eq]; refine ⟨hk, fun hkf => ?_⟩; rw [hkf, hf2] at h; cases h
              · rw [hf2]; simp
            · rw [hhi k (by omega)]; simp; omega
          · have hc1 := cnt_set (n := all.length) (listed := listed) (i := f) (by omega) hsz (by rw [getD_lt (by omega) true false]; exact hf2)
            have hc2 := cnt_tail (listed := listed.setIfInBounds f true) hlen fun k hk => by
              rw [getD_lt (by simpa using by omega) true false, getD_set (by omega)]
              split
              · rename_i hkf; subst hkf; simp [hf1]
              · rename_i hkf
                by_cases hk2 : k < ts.length
                · rcases hk1 k hk2 with h | ⟨h, _⟩
                  · rw [h]; simp [hk2]
                  · exact absurd h hkf
                · rw [hhi k (by omega)]; simp [hk2]
            omega
        have hoi : o = ts[i].o := by have := hall i him; rw [ho] at this; exact Option.some.inj this
        subst hoi
        have hw : ∀ j, waits ts[i].o j = true → listed.getD j false = true := fun j hj => waits_ready hr ho hj
        have hget := fun (j : Nat) (hj : j < ts.length) => trok_get ts e0 htr j hj
        obtain ⟨h1, h2, h3, h4, h5, h6⟩ := hget i him
        have hns : ∀ (j : Nat) (hj : j < ts.length), newOk σ0.length ts[j].ns := fun j hj => (hget j hj).2.2.2.2.1
        have hnok : ∀ (j : Nat) (hj : j < ts.length) (i : Nat) (hi : i < j), (∃ D : Nat → Prop, Closed all D ∧ D j ∧ ¬ D i) → ∀ (m : Nat) (ρ ρ' : Rho) (v' : Value), VRel m ρ ts[j].v v' →
            (∀ q, q < σ0.length + (nsOf (ts.take i)).length ∨ σ0.length + (nsOf (ts.take i)).length + ts[i].ns.length ≤ q → ρ' q = ρ q) → VRel m ρ' ts[j].v v' := fun j hj i hij hD m ρ ρ' v' hv hq => by
          by_cases hne : ts[i].ns = []
          · exact hv.mono (Nat.le_refl _) fun q _ => hq q (by rw [hne]; simp; omega)
          · have hne' : ((ts.take j)[i]'(by simp; omega)).ns ≠ [] := by simpa using hne
            obtain ⟨n1, n2, e1, e2⟩ := newsAt_split (ts.take j) 0 [] i (by simp; omega) hne'
            rw [Nat.zero_add] at e1
            have e3 : flatN n1 = nsOf (ts.take i) := by
              rw [e2, List.take_take, Nat.min_eq_left (by omega)]; simp [flatN]
            refine (hget j hj).2.2.2.2.2 n1 i _ n2 e1 hD m ρ ρ' v' hv fun q hq' => hq q ?_
            rw [e3] at hq'
            simpa using hq'
        have hsees := fun {t : Nat} (ht : t ∈ ts[i].o.looksAt all.toArray) {v : Value} (hv : Env.get (envAt (ts.take i) e0) t = some v) =>
          dinv_sees hd hall hchk him hif' hw hdc ht hv
        have hwant : Region.wanted ts[i].o (yielded all.toArray A.tmps) = ts[i].run := by
          refine wanted_sees h2 fun g want hg t ht v hv => ?_
          obtain ⟨v', g1, g2⟩ := hsees (t := t) (by
            unfold Oper.looksAt
            rw [hg]
            refine List.mem_append_right _ ?_
            simp only [List.getElem?_toArray]
            rw [ht]; simp) hv
          exact ⟨_, _, v', g1, g2⟩
        have hpart := sim_part (i := i) (W := waitsA ts[i].o.after) hd.sim hcl hns hw
        have after : ∀ (ρ' : Rho) (v' : Value) (w' : World), (∀ k < σ0.length + (nsOf (ts.take i)).length, ρ' k = ρ k) → VRel (σ0.length + ((nsOf (ts.take i)).length + ts[i].ns.length)) ρ' ts[i].v v' →
            Sim (oth G ρ σ0 ts (fun i => listed.getD i false) (waitsA ts[i].o.after)) w ρ' (σ0 ++ maskN (ts.take i) 0 (waitsA ts[i].o.after) ++ ts[i].ns) w' →
            wpAnyIn (fen ρ0 rd) 0 P .any all.toArray Q' fuel (listed.setIfInBounds i true) (A.put ts[i].o.dst v') w' := by
          intro ρ' v' w' ha hv hs'
          have hd' := dinv_step hd hall hchk hn0 hmk hns hnok him hif' hdc h1 ha hv hs'
          refine ih _ _ _ _ (by simpa using hsz) (fun k hk => ?_) ?_ (fun j o' hj hLj k hk => ?_) (dinv_congr (fun k hk => ?_) hd')
          · rw [getD_set (by omega), if_neg (by omega)]; exact hhi k hk
          · have := cnt_set hia hsz hif; omega
          · show (listed.setIfInBounds i true).getD k false = true
            have hLj : (listed.setIfInBounds i true).getD j false = true := hLj
            rw [getD_set (by omega)] at hLj ⊢
            split
            · rfl
            · split at hLj
              · rename_i hji; subst hji
                rw [ho] at hj; cases hj
                exact hw k hk
              · exact hdc j o' hj hLj k hk
          · simp only [setL]; rw [getD_set (by omega)]
        unfold wpOpIn
        simp only [List.getElem?_toArray, ho]
        cases hrun : ts[i].run with
        | true =>
          rw [if_pos (by rw [hwant, hrun])]
          have hok := h3 hrun
          rw [← fen_congr (rd := rd) (ρ' := ρ) (ρ := ρ0) fun l hl => hd.ag l (rdok_lt hrd l hl)]
          refine hok ts[i].o rfl rfl (oth G ρ σ0 ts (fun i => listed.getD i false) (waitsA ts[i].o.after)) w ρ A w (fun l hl => by have := rdok_lt hrd l hl; simp; omega) hpart (fun x hx u hu => ?_) _ _ ?_
          · cases x with
            | tmp t =>
              obtain ⟨v', g1, g2⟩ := hsees (t := t) (List.mem_append_left _ (List.mem_filterMap.2 ⟨.tmp t, by simpa using hx, rfl⟩)) hu
              rw [List.length_append, maskN_length]
              simpa [Act.eval, g1] using g2
            | const c =>
              simp only [evalO] at hu
              cases hp : plain c <;> simp [hp] at hu
              subst hu; exact vrel_plain c hp
            | func f => simp only [evalO, Option.some.injEq] at hu; subst hu; exact .func f #[] #[] #[] #[] rfl rfl (fun i h => by simp at h) (fun i h => by simp at h)
            | global g => simp [evalO] at hu
          · intro ρ' v' w' hv hle ha hs'
            rw [fen_congr (rd := rd) (ρ' := ρ) (ρ := ρ0) fun l hl => hd.ag l (rdok_lt hrd l hl)]
            refine after ρ' v' w' (fun k hk => ha k (by rw [List.length_append, maskN_length]; exact hk)) ?_ hs'
            rw [List.length_append, List.length_append, maskN_length, Nat.add_assoc] at hv; exact hv
        | false =>
          rw [if_neg (by rw [hwant, hrun]; simp)]
          obtain ⟨g1, g2⟩ := h4 hrun
          refine ⟨fun f _ => fen_fn _ _ _, ?_⟩
          have := after ρ undef w (fun _ _ => rfl) (by rw [g1]; exact vrel_plain _ rfl) (by rw [g2]; simpa using hpart)
          exact this
theorem tail_any {F : Fence} (hF : ∀ f, F.fn f) {m f : Nat} {Q' : Exit → Act → World → Prop} (hchk : drawOk all m f = true) : ∀ (rest : List Oper) (k fuel : Nat) (listed : Array Bool) (A : Act) (w : World),
    m ≤ k → rest = all.drop k → fuel = all.length - k → listed.size = all.length → (∀ i < all.length, listed.getD i false = decide (i < k)) →
    wpL F 0 P all.toArray Q' rest A w → wpAnyIn F 0 P .any all.toArray Q' fuel listed A w
  | [], k, fuel, listed, A, w, hmk, hr, hf, hsz, hp, h => by
    have hk : all.length ≤ k := by
      have := congrArg List.length hr
      simp at this; omega
    refine wpAnyIn_done (List.eq_nil_iff_forall_not_mem.2 fun j hj => ?_) h fuel
    obtain ⟨h1, o, ho, _⟩ := mem_ready.1 hj
    rw [List.getElem?_toArray] at ho
    have hj' := (List.getElem?_eq_some_iff.1 ho).1
    have := hp j hj'
    rw [getD_lt (d' := true) (by omega), h1] at this
    simp at this; omega
  | o :: rest, k, fuel, listed, A, w, hmk, hr, hf, hsz, hp, h => by
    have hk : k < all.length := by
      rcases Nat.lt_or_ge k all.length with h | h
      · exact h
      · rw [List.drop_eq_nil_of_le h] at hr; cases hr
    have ho : all[k]? = some o := by
      have := congrArg (fun l : List Oper => l[0]?) hr
      simpa using this.symm
    have hr' : rest = all.drop (k + 1) := by
      have := congrArg List.tail hr
      simpa using this
    obtain ⟨fuel, rfl⟩ : ∃ f, fuel = f + 1 := ⟨fuel - 1, by omega⟩
    refine ⟨fun hn => ?_, fun j hj => ?_⟩
    · exfalso
      have : k ∈ Region.ready .any all.toArray listed := mem_ready.2 ⟨by rw [getD_lt (d' := false) (by omega), hp k hk]; simp, o, by rw [List.getElem?_toArray]; exact ho,
        fun e he hb => by have := (draw_parts hchk ho).2.1 e he hb; rw [hp _ (by omega)]; simpa using this⟩
      rw [hn] at this; cases this
    · obtain ⟨h1, oj, hoj, _⟩ := mem_ready.1 hj
      rw [List.getElem?_toArray] at hoj
      have hj' := (List.getElem?_eq_some_iff.1 hoj).1
      have hkj : ¬ j < k := by
        intro hlt
        have := hp j hj'
        rw [getD_lt (d' := true) (by omega), h1] at this
        simp at this; omega
      have hjk : j = k := by
        rcases Nat.lt_or_ge k j with hlt | hge
        · exfalso
          rcases (draw_parts hchk hoj).2.2.2 k _ hlt ho with h' | ⟨h', _, _⟩
          · have := h' (fun q => listed.getD q false = true) (fun q o' hq hLq i hi => by
              have h1 := waits_lt hchk hq hi
              have hq' := (List.getElem?_eq_some_iff.1 hq).1
              have h2 := hp q hq'
              rw [hLq] at h2
              have h3 : q < k := of_decide_eq_true h2.symm
              show listed.getD i false = true
              rw [hp i (by omega)]; simp; omega) fun q hq => waits_ready hj hoj hq
            simp only [hp k hk] at this; simp at this
          · omega
        · omega
      subst hjk
      have hnext : ∀ A w, wpL F 0 P all.toArray Q' rest A w → wpAnyIn F 0 P .any all.toArray Q' fuel (listed.setIfInBounds j true) A w := fun A w h =>
        tail_any hF hchk rest (j + 1) fuel _ A w (by omega) hr' (by omega) (by simpa using hsz) (fun i hi => by
          rw [getD_set (by omega)]
          split
          · rename_i hij; subst hij; simp
          · rename_i hij; rw [hp i hi]; simp only [decide_eq_decide]; omega) h
      unfold wpOpIn
      simp only [List.getElem?_toArray, ho]
      simp only [wpL] at h
      split
      · rename_i hw; rw [if_pos hw] at h
        exact Oper.wpIn_mono hnext h
      · rename_i hw; rw [if_neg hw] at h
        exact ⟨fun f _ => hF f, hnext _ _ h⟩
theorem late_any {F : Fence} (hF : ∀ f, F.fn f) {m f : Nat} {Q' : Exit → Act → World → Prop} (hchk : drawOk all m f = true) {o1 o2 : Oper} {t : List Oper} (h1 : all[m]? = some o1) (h2 : all[f]? = some o2) (ht : t = all.drop (m + 1)) (hf : f < m)
    {listed : Array Bool} (hsz : listed.size = all.length) (hp : ∀ i, listed.getD i false = decide (i < m ∧ i ≠ f)) (hdc : Closed all (fun k => listed.getD k false = true)) (hr : m ∈ Region.ready .any all.toArray listed) {fuel : Nat} (hfuel : fuel = all.length - m) {A : Act} {w : World}
    (h : wpL F 0 P all.toArray Q' (o1 :: o2 :: t) A w) : wpOpIn F 0 P all.toArray Q' m (wpAnyIn F 0 P .any all.toArray Q' fuel (listed.setIfInBounds m true)) A w := by
  have hm : m < all.length := (List.getElem?_eq_some_iff.1 h1).1
  obtain ⟨fuel, rfl⟩ : ∃ f, fuel = f + 1 := ⟨fuel - 1, by omega⟩
  have hget : ∀ i, (listed.setIfInBounds m true).getD i false = if i = m then true else decide (i < m ∧ i ≠ f) := fun i => by
    rw [getD_set (by omega), hp]
  have hnext : ∀ A w, wpL F 0 P all.toArray Q' (o2 :: t) A w → wpAnyIn F 0 P .any all.toArray Q' (fuel + 1) (listed.setIfInBounds m true) A w := by
    intro A w h
    refine ⟨fun hn => ?_, fun j hj => ?_⟩
    · exfalso
      have : f ∈ Region.ready .any all.toArray (listed.setIfInBounds m true) := mem_ready.2 ⟨by rw [getD_lt (d' := false) (by simp; omega), hget, if_neg (by omega)]; simp, o2, by rw [List.getElem?_toArray]; exact h2,
        fun e he hb => by have := (draw_parts hchk h2).2.1 e he hb; rw [hget]; split <;> simp <;> omega⟩
      rw [hn] at this; cases this
    · obtain ⟨g1, oj, hoj, _⟩ := mem_ready.1 hj
      rw [List.getElem?_toArray] at hoj
      have hj' := (List.getElem?_eq_some_iff.1 hoj).1
      have g2 : (listed.setIfInBounds m true).getD j false = false := by rw [getD_lt (by simp; omega) false true]; exact g1
      have hjf : j = f := by
        rw [hget] at g2
        split at g2
        · cases g2
        · rename_i hjm
          have g3 : ¬ (j < m ∧ j ≠ f) := of_decide_eq_false g2
          rcases Nat.lt_or_ge m j with hlt | hge
          · exfalso
            rcases (draw_parts hchk hoj).2.2.2 f _ (by omega) h2 with h' | ⟨_, h', _⟩
            · have := h' (fun q => (listed.setIfInBounds m true).getD q false = true) (fun q o' hq hLq i hi => by
                show (listed.setIfInBounds m true).getD i false = true
                have hLq : (listed.setIfInBounds m true).getD q false = true := hLq
                rw [getD_set (by omega)] at hLq ⊢
                split
                · rfl
                · split at hLq
                  · rename_i hqm; subst hqm
                    rw [h1] at hq; cases hq
                    exact waits_ready hr h1 hi
                  · exact hdc q o' hq hLq i hi) fun q hq => waits_ready hj hoj hq
              rw [hget, if_neg (by omega)] at this
              simp at this
            · omega
          · omega
      subst hjf
      have hnext2 : ∀ A w, wpL F 0 P all.toArray Q' t A w → wpAnyIn F 0 P .any all.toArray Q' fuel ((listed.setIfInBounds m true).setIfInBounds j true) A w := fun A w h =>
        tail_any hF hchk t (m + 1) fuel _ A w (by omega) ht (by omega) (by simpa using hsz) (fun i hi => by
          rw [getD_set (by simp; omega), hget]
          split
          · simp; omega
          · split
            · simp; omega
            · simp only [decide_eq_decide]; omega) h
      unfold wpOpIn
      simp only [List.getElem?_toArray, h2]
      simp only [wpL] at h
      split
      · rename_i hw; rw [if_pos hw] at h
        exact Oper.wpIn_mono hnext2 h
      · rename_i hw; rw [if_neg hw] at h
        exact ⟨fun f _ => hF f, hnext2 _ _ h⟩
  unfold wpOpIn
  simp only [List.getElem?_toArray, h1]
  simp only [wpL] at h
  split
  · rename_i hw; rw [if_pos hw] at h
    exact Oper.wpIn_mono hnext h
  · rename_i hw; rw [if_neg hw] at h
    exact ⟨fun f _ => hF f, hnext _ _ h⟩
theorem maskN_all {L : Nat → Bool} : ∀ (ts : List Tr) (k : Nat), (∀ (j : Nat) (hj : j < ts.length), L (k + j) = true ∨ ts[j].ns = []) → maskN ts k L = nsOf ts
  | [], _, _ => rfl
  | t :: ts, k, h => by
    have h1 := maskN_all (L := L) ts (k + 1) fun j hj => by have := h (j + 1) (by simpa using hj); simpa [Nat.add_assoc, Nat.add_comm 1 j] using this
    have h0 := h 0 (by simp)
    simp only [Nat.add_zero, List.getElem_cons_zero] at h0
    simp only [maskN, h1]
    rcases h0 with h0 | h0
    · simp [h0, nsOf]
    · simp [h0, nsOf, hide]
def dropE (d : Nat) : Env → Env
  | [] => []
  | (k, v) :: e => bif Nat.beq k d then dropE d e else (k, v) :: dropE d e
theorem dropE_get {d t : Nat} {v : Value} : ∀ {e : Env}, Env.get (dropE d e) t = some v → t ≠ d ∧ Env.get e t = some v
  | [], h => by simp [dropE, Env.get] at h
  | (k, u) :: e, h => by
    simp only [dropE] at h
    cases hk : Nat.beq k d with
    | true =>
      rw [hk] at h
      obtain ⟨h1, h2⟩ := dropE_get (e := e) h
      refine ⟨h1, ?_⟩
      have hkd := Nat.eq_of_beq_eq_true hk
      simp only [Env.get]
      rw [beq_ne (by omega)]
      exact h2
    | false =>
      rw [hk] at h
      simp only [cond_false, Env.get] at h ⊢
      cases hkt : Nat.beq k t with
      | true =>
        rw [hkt] at h
        have := Nat.eq_of_beq_eq_true hkt
        have := Nat.ne_of_beq_eq_false hk
        exact ⟨by omega, h⟩
      | false =>
        rw [hkt] at h
        exact dropE_get (e := e) h
end
theorem W_regionE {P : Program} {n0 N : Nat} {rd : Option Nat} {Q : Post} {e : Env} {mk : List Nat} {σ : Heap} {id : Nat} {l : List Oper} (f d : Nat) (hm : P.follows .mixedOrders = true) (hrd : rdok rd n0 = true)
    (h : WFree P N rd l 0 l e σ [] (fun e' news tl => drawOk l (l.length - tl.length) f = true ∧ (WOps P n0 N rd l tl (Q .normal) e' mk (σ ++ visN (fun _ => true) news) ∧
      ∃ o1 o2 t, tl = o1 :: t ∧ l[f]? = some o2 ∧ o2.dst = some d ∧ (news.all fun p => !Nat.beq p.1 f) = true ∧ WOps P n0 N rd l (o1 :: o2 :: t) (Q .normal) (dropE d e') mk (σ ++ visN (fun _ => true) news)))) : WCode P n0 N rd (.region id l.toArray true) Q e mk σ := by
  intro G w0 ρ0 A w hi
  obtain ⟨h0, ρ, ha, hs, he⟩ := hi
  refine wpIn_region_any hm ?_
  obtain ⟨ts, tl, hts, htr, hchk, hK, o1, o2, t, htl, ho2, hd2, hnw, hK2⟩ := wfree_trace l 0 e σ [] _ h
  obtain ⟨fr, hfr⟩ : ∃ fr, ts.map (·.o) = fr := ⟨_, rfl⟩
  rw [hfr] at hts
  have hl : l = fr ++ tl := hts.symm
  have hts := hfr
  have hfl : fr.length = l.length - tl.length := by rw [hl]; simp
  rw [visN_newsAt, maskN_true] at hK hK2
  simp only [visN, List.map_nil, List.flatten_nil, List.nil_append] at hK hK2
  have hlen : fr.length = ts.length := by rw [← hts]; simp
  rw [← hfl] at hchk
  have hall : ∀ (i : Nat) (hi : i < ts.length), l[i]? = some ts[i].o := by
    intro i hi
    rw [hl, List.getElem?_append_left (by omega), ← hts]; simp [hi]
  have hcl : ∀ (i : Nat) (o : AObj), σ[i]? = some o → oclosed σ.length o := fun i o hi => orel_closed (hs.obj i o hi)
  have hrep : ∀ i, (Array.replicate l.toArray.size false).getD i false = false := fun i => by
    simp only [Array.getD_eq_getD_getElem?, Array.getElem?_replicate]; split <;> rfl
  rw [hlen] at hchk
  refine free_any (e0 := e) (mk := mk) (σ0 := σ) (ρ0 := ρ0) (G := G) (w0 := w0) (N := N) (n0 := n0) (ts := ts) hrd hall hchk h0 he.mkb hcl htr ?_ (f := f) ?_ (by rw [hl]; simp; omega) _ _ _ _ ρ (by simp) (fun i _ => hrep i) ?_ ?_ ?_
  · intro A' w' ρ' fuel listed hsz hp hd hf
    refine tail_any (fen_fn ρ0 rd) hchk tl ts.length fuel listed A' w' (Nat.le_refl _) (by rw [hl, ← hlen]; simp) hf hsz hp ?_
    have hd' := dinv_congr (L' := fun _ => true) (fun k hk => by have := hp k (by rw [hl]; simp; omega); rw [this]; simpa using hk) hd
    have hsim := hd'.sim
    rw [maskN_true] at hsim
    refine hK G w0 ρ0 A' w' ⟨by simp; omega, ρ', fun i hi => hd'.ag i hi |>.trans rfl, hsim, ⟨hd'.sz, fun t v hv => ?_⟩, hd'.mks, fun i hi => by have := he.mkb i hi; simp; omega⟩ _ fun e' mk' σ' A' w' hk hi' => ⟨e', mk', σ', hk, hi'⟩
    rcases envAt_get ts e t v hv with ⟨j, hj, h1, h2, h3⟩ | ⟨h1, h2⟩
    · obtain ⟨v', g1, g2⟩ := hd'.new j hj rfl t h1 fun k hk hjk _ => h3 k hk hjk
      refine ⟨v', g1, ?_⟩
      rw [← h2]
      have := nsOf_le hj
      exact g2.mono (by simp; omega) fun _ _ => rfl
    · obtain ⟨v', g1, g2⟩ := hd'.old t v h1 fun k hk _ => h2 k hk
      exact ⟨v', g1, g2.mono (by simp) fun _ _ => rfl⟩
  · intro A' w' ρ' fuel listed hsz hp hd hdc hf1 hmlt hrdy hfuel
    have hnf : ts[f].ns = [] := by
      apply Classical.byContradiction; intro hne
      obtain ⟨n1, n2, e1, _⟩ := newsAt_split ts 0 [] f hf1 hne
      rw [e1] at hnw
      simp at hnw
    have hm1 : l[ts.length]? = some o1 := by rw [hl, htl, List.getElem?_append_right (by omega), hlen]; simp
    refine late_any (fen_fn ρ0 rd) hchk hm1 ho2 (t := t) (by
      have : l.drop fr.length = o1 :: t := by rw [hl, htl]; simp
      have h2 : l.drop (ts.length + 1) = (l.drop fr.length).drop 1 := by rw [List.drop_drop]; congr 1; omega
      rw [h2, this]; rfl) hf1 hsz hp hdc hrdy hfuel ?_
    have hd' := dinv_congr (L' := fun k => decide (k ≠ f)) (fun k hk => by rw [hp]; simp [hk]) hd
    have hsim := hd'.sim
    rw [maskN_all ts 0 fun j hj => by
      by_cases hjf : j = f
      · subst hjf; exact .inr hnf
      · exact .inl (by simp [hjf])] at hsim
    refine hK2 G w0 ρ0 A' w' ⟨by simp; omega, ρ', fun i hi => hd'.ag i hi |>.trans rfl, hsim, ⟨hd'.sz, fun t v hv => ?_⟩, hd'.mks, fun i hi => by have := he.mkb i hi; simp; omega⟩ _ fun e' mk' σ' A' w' hk hi' => ⟨e', mk', σ', hk, hi'⟩
    obtain ⟨htd, hv⟩ := dropE_get hv
    have hfd : ts[f].o.dst = some d := by
      have h1 := hall f hf1
      rw [ho2] at h1
      rw [← Option.some.inj h1]; exact hd2
    rcases envAt_get ts e t v hv with ⟨j, hj, h1, h2, h3⟩ | ⟨h1, h2⟩
    · have hjf : j ≠ f := by
        intro hjf; subst hjf
        rw [hfd] at h1
        exact htd (Option.some.inj h1).symm
      obtain ⟨v', g1, g2⟩ := hd'.new j hj (by simp [hjf]) t h1 fun k hk hjk _ => h3 k hk hjk
      refine ⟨v', g1, ?_⟩
      rw [← h2]
      have := nsOf_le hj
      exact g2.mono (by simp; omega) fun _ _ => rfl
    · obtain ⟨v', g1, g2⟩ := hd'.old t v h1 fun k hk _ => h2 k hk
      exact ⟨v', g1, g2.mono (by simp) fun _ _ => rfl⟩
  · unfold cnt
    rw [List.countP_eq_length.2]
    · simp
    · intro i hi
      rw [getD_lt (d' := false) (by simpa using hi), hrep]; rfl
  · intro j o _ hL
    rw [hrep] at hL; cases hL
  · refine dinv_congr (L := fun _ => false) (fun k _ => (hrep k).symm) ⟨ha, ?_, he.tmps.1, he.mks, fun t v hv _ => ?_, fun k hk hL => by cases hL⟩
    · rw [maskN_false]
      exact sim_drawn (sim_hide hs _) rfl rfl rfl rfl
    · exact he.tmps.2 t v hv
theorem split {P : Program} {n0 N : Nat} {rd : Option Nat} {l tl : List Oper} {K : Env → List Nat → Heap → Prop} {e' : Env} {mk : List Nat} {σ : Heap} {f d : Nat} {o1 o2 : Oper} {t : List Oper} {news : List (Nat × Heap)} (h1 : WOps P n0 N rd l tl K e' mk σ)
    (ht : tl = o1 :: t) (h2 : l[f]? = some o2) (hd : o2.dst = some d) (hn : (news.all fun p => !Nat.beq p.1 f) = true) (h3 : WOps P n0 N rd l (o1 :: o2 :: t) K (dropE d e') mk σ) :
    WOps P n0 N rd l tl K e' mk σ ∧ ∃ o1 o2 t, tl = o1 :: t ∧ l[f]? = some o2 ∧ o2.dst = some d ∧ (news.all fun p => !Nat.beq p.1 f) = true ∧ WOps P n0 N rd l (o1 :: o2 :: t) K (dropE d e') mk σ :=
  ⟨h1, o1, o2, t, ht, h2, hd, hn, h3⟩
end Go.AH.Late
namespace Go.AH.Chain
open Go Go.AH
def partC (ops : List Oper) (m : Nat) (o : Oper) (j mk : Nat) : Bool :=
  notDefer o && o.after.all (fun e => !Region.binds .any e || Nat.blt e.on j) &&
    (match o.guard with | some (g, _) => waits o g | none => true) &&
    ((List.range j).all fun i => mk.testBit i || (Nat.blt i m && (match ops[i]? with | some oi => oi.apart ops.toArray o | none => false))) &&
    (Nat.blt j m || (o.dst.isNone && o.guard.isNone))
def chkC (all : List Oper) (m : Nat) : List Oper → Nat → List Nat → Bool
  | [], _, _ => true
  | o :: rest, j, acc => forceN (maskOf acc o.after.toList) fun mk => partC all m o j mk && chkC all m rest (j + 1) (acc ++ [mk])
def drawC (ops : List Oper) (m : Nat) : Bool := chkC ops m ops 0 []
theorem chkC_get {all : List Oper} {m : Nat} : ∀ (rest : List Oper) (j : Nat) (acc : List Nat), rest = all.drop j → acc.length = j → j ≤ all.length → (∀ (k : Nat) (mk : Nat), acc[k]? = some mk → Good all k mk) → chkC all m rest j acc = true →
    ∀ (t : Nat) (o : Oper), rest[t]? = some o → ∃ mk, partC all m o (j + t) mk = true ∧ Good all (j + t) mk
  | [], _, _, _, _, _, _, _, t, o, h => by simp at h
  | x :: rest, j, acc, hr, hl, hj, hacc, hc, t, o, h => by
    have hx : all[j]? = some x := by
      have := congrArg (fun l : List Oper => l[0]?) hr
      simpa using this.symm
    have hr' : rest = all.drop (j + 1) := by
      have := congrArg List.tail hr
      simpa using this
    have hjl := (List.getElem?_eq_some_iff.1 hx).1
    simp only [chkC, forceN_eq, Bool.and_eq_true] at hc
    have hg := good_mask hx hacc (by omega)
    cases t with
    | zero => simp at h; subst h; exact ⟨_, hc.1, hg⟩
    | succ t =>
      have := chkC_get rest (j + 1) (acc ++ [maskOf acc x.after.toList]) hr' (by simp [hl]) (by omega) (fun k mk hk => by
        by_cases hkl : k < acc.length
        · rw [List.getElem?_append_left hkl] at hk; exact hacc k mk hk
        · rw [List.getElem?_append_right (by omega)] at hk
          have hk0 : k - acc.length = 0 := by
            have := (List.getElem?_eq_some_iff.1 hk).1
            simp at this; omega
          rw [hk0] at hk; simp at hk; subst hk
          rw [show k = j by omega]; exact hg) hc.2 t o (by simpa using h)
      rwa [show j + 1 + t = j + (t + 1) by omega] at this
section
variable {all : List Oper} {m : Nat}
theorem draw_all (h : drawC all m = true) {j : Nat} {o : Oper} (hj : all[j]? = some o) :
    (notDefer o = true ∧ (∀ e ∈ o.after, Region.binds .any e = true → e.on < j) ∧ (∀ g b, o.guard = some (g, b) → waits o g = true) ∧
    ∀ i oi, i < j → all[i]? = some oi → (∀ D : Nat → Prop, Closed all D → (∀ k, waits o k = true → D k) → D i) ∨ (i < m ∧ True ∧ oi.apart all.toArray o = true)) ∧ (m ≤ j → o.dst = none ∧ o.guard = none) := by
  obtain ⟨mk, this, hgood⟩ := chkC_get all 0 [] rfl rfl (by omega) (fun k mk hk => by simp at hk) h j o hj
  rw [Nat.zero_add] at this hgood
  unfold partC at this
  simp only [Bool.and_eq_true] at this
  obtain ⟨⟨⟨⟨h1, h2⟩, h3⟩, h4⟩, h5⟩ := this
  refine ⟨⟨h1, fun e he hb => ?_, fun g b hg => ?_, fun i oi hi hoi => ?_⟩, fun hm => ?_⟩
  · have := Array.all_eq_true_iff_forall_mem.1 h2 e he
    simp only [hb, Bool.not_true, Bool.false_or, Nat.blt_eq] at this; exact this
  · rw [hg] at h3; exact h3
  · have := List.all_eq_true.1 h4 i (by simpa using hi)
    simp only [hoi, Bool.or_eq_true, Bool.and_eq_true, Nat.blt_eq] at this
    rcases this with h | ⟨h5, h7⟩
    · exact .inl fun D hD hw => hgood D hD o hj hw i h
    · exact .inr ⟨h5, trivial, h7⟩
  · simp only [Bool.or_eq_true, Nat.blt_eq, Bool.and_eq_true, Option.isNone_iff_eq_none] at h5
    rcases h5 with h5 | h5
    · omega
    · exact h5
theorem draw_parts (h : drawC all m = true) {j : Nat} {o : Oper} (hj : all[j]? = some o) :
    notDefer o = true ∧ (∀ e ∈ o.after, Region.binds .any e = true → e.on < j) ∧ (∀ g b, o.guard = some (g, b) → waits o g = true) ∧
    ∀ i oi, i < j → all[i]? = some oi → (∀ D : Nat → Prop, Closed all D → (∀ k, waits o k = true → D k) → D i) ∨ (i < m ∧ True ∧ oi.apart all.toArray o = true) := (draw_all h hj).1
theorem waits_lt (h : drawC all m = true) {j i : Nat} {o : Oper} (hj : all[j]? = some o) (hw : waitsA o.after i = true) : i < j := by
  unfold waitsA at hw
  obtain ⟨e, he, hb⟩ := Array.any_eq_true'.1 hw
  simp only [Bool.and_eq_true] at hb
  rw [← Nat.eq_of_beq_eq_true hb.2]
  exact (draw_parts h hj).2.1 e he hb.1
end
section
variable {P : Program} {N : Nat} {rd : Option Nat} {e0 : Env} {mk : List Nat} {σ0 : Heap} {all : List Oper} {ts : List Tr} {n0 : Nat}
theorem dinv_sees {G : Nat → Prop} {w0 : World} {ρ0 ρ : Rho} {L : Nat → Bool} {A : Act} {w : World} (hd : DInv n0 N G w0 ρ0 e0 mk σ0 ts L A w ρ) (hall : ∀ (i : Nat) (hi : i < ts.length), all[i]? = some ts[i].o)
    (hchk : drawC all ts.length = true) {i : Nat} (hi : i < ts.length) (hLi : L i = false) (hw : ∀ j, waits ts[i].o j = true → L j = true) (hdc : Closed all fun k => L k = true)
    {t : Nat} (ht : t ∈ ts[i].o.looksAt all.toArray) {v : Value} (hv : Env.get (envAt (ts.take i) e0) t = some v) : ∃ v', A.tmps[t]? = some v' ∧ VRel (σ0.length + (nsOf (ts.take i)).length) ρ v v' := by
  have early : ∀ (j : Nat) (hj : j < i), (ts[j]'(by omega)).o.dst = some t → L j = true := by
    intro j hj hdst
    rcases (draw_parts hchk (hall i hi)).2.2.2 j _ hj (hall j (by omega)) with h | ⟨_, _, h⟩
    · exact h _ hdc hw
    · exact absurd ht ((Oper.apart_spec h).1 t hdst)
  have late : ∀ (j : Nat) (hj : j < ts.length), i < j → ts[j].o.dst = some t → L j = true → False := by
    intro j hj hij hdst hLj
    rcases (draw_parts hchk (hall j hj)).2.2.2 i _ hij (hall i hi) with h | ⟨_, _, h⟩
    · have := h _ hdc (hdc j _ (hall j hj) hLj)
      rw [hLi] at this; cases this
    · exact absurd ht ((Oper.apart_spec h).2.2 t hdst)
  rcases envAt_get _ _ _ _ hv with ⟨j, hj, h1, h2, h3⟩ | ⟨h1, h2⟩
  · have hji : j < i := by simp at hj; omega
    rw [List.getElem_take] at h1 h2
    obtain ⟨v', g1, g2⟩ := hd.new j (by omega) (early j hji h1) t h1 fun k hk hjk hLk hdk => by
      rcases Nat.lt_trichotomy k i with hlt | rfl | hgt
      · have := h3 k (by simp; omega) hjk
        rw [List.getElem_take] at this; exact this hdk
      · rw [hLi] at hLk; cases hLk
      · exact late k hk hgt hdk hLk
    refine ⟨v', g1, ?_⟩
    rw [← h2]
    have := nsOf_lt hji (Nat.le_of_lt hi)
    exact g2.mono (by omega) fun _ _ => rfl
  · obtain ⟨v', g1, g2⟩ := hd.old t v h1 fun k hk hLk hdk => by
      rcases Nat.lt_trichotomy k i with hlt | rfl | hgt
      · have := h2 k (by simp; omega)
        rw [List.getElem_take] at this; exact this hdk
      · rw [hLi] at hLk; cases hLk
      · exact late k hk hgt hdk hLk
    exact ⟨v', g1, g2.mono (by omega) fun _ _ => rfl⟩
theorem dinv_step {G : Nat → Prop} {w0 : World} {ρ0 ρ ρ' : Rho} {L : Nat → Bool} {A : Act} {w w' : World} (hd : DInv n0 N G w0 ρ0 e0 mk σ0 ts L A w ρ) (hall : ∀ (i : Nat) (hi : i < ts.length), all[i]? = some ts[i].o)
    (hchk : drawC all ts.length = true) (hn0 : n0 ≤ σ0.length) (hmk : ∀ i ∈ mk, i < σ0.length)
    (hns : ∀ (j : Nat) (hj : j < ts.length), newOk σ0.length ts[j].ns) (hnok : ∀ (j : Nat) (hj : j < ts.length) (i : Nat) (hi : i < j), (∃ D : Nat → Prop, Closed all D ∧ D j ∧ ¬ D i) → ∀ (m : Nat) (ρ ρ' : Rho) (v' : Value), VRel m ρ ts[j].v v' →
      (∀ q, q < σ0.length + (nsOf (ts.take i)).length ∨ σ0.length + (nsOf (ts.take i)).length + ts[i].ns.length ≤ q → ρ' q = ρ q) → VRel m ρ' ts[j].v v')
    {i : Nat} (hi : i < ts.length) (hLi : L i = false) (hdc : Closed all fun k => L k = true) (hdst : dstOk N ts[i].o = true)
    {v' : Value} (hag : ∀ k < σ0.length + (nsOf (ts.take i)).length, ρ' k = ρ k) (hv : VRel (σ0.length + ((nsOf (ts.take i)).length + ts[i].ns.length)) ρ' ts[i].v v')
    (hs' : Sim (oth G ρ σ0 ts L (waitsA ts[i].o.after)) w ρ' (σ0 ++ maskN (ts.take i) 0 (waitsA ts[i].o.after) ++ ts[i].ns) w') :
    DInv n0 N G w0 ρ0 e0 mk σ0 ts (setL L i) (A.put ts[i].o.dst v') w' (mixR ρ ρ' (σ0.length + (nsOf (ts.take i)).length) ts[i].ns.length) := by
  have mixlow : ∀ k < σ0.length + (nsOf (ts.take i)).length, mixR ρ ρ' (σ0.length + (nsOf (ts.take i)).length) ts[i].ns.length k = ρ k := fun k hk => by simp only [mixR]; rw [if_neg (by omega)]
  have mixown : ∀ k < σ0.length + ((nsOf (ts.take i)).length + ts[i].ns.length), mixR ρ ρ' (σ0.length + (nsOf (ts.take i)).length) ts[i].ns.length k = ρ' k := fun k hk => by
    simp only [mixR]; split
    · rfl
    · rw [hag k (by omega)]
  have mixhi : ∀ k, σ0.length + (nsOf (ts.take i)).length + ts[i].ns.length ≤ k → mixR ρ ρ' (σ0.length + (nsOf (ts.take i)).length) ts[i].ns.length k = ρ k := fun k hk => by simp only [mixR]; rw [if_neg (by omega)]
  have keep : ∀ t u, A.tmps[t]? = some u → ts[i].o.dst ≠ some t → (A.put ts[i].o.dst v').tmps[t]? = some u := by
    intro t u hu hne
    cases hdd : ts[i].o.dst with
    | none => simpa [Act.put] using hu
    | some d =>
      simp only [Act.put]
      rw [Array.getElem?_setIfInBounds_ne (fun hdt => hne (by rw [hdd, hdt]))]; exact hu
  refine ⟨fun k hk => (mixlow k (by omega)).trans (hd.ag k hk), sim_join hi hLi (fun j hj => waits_lt hchk (hall i hi) hj) hd.sim hns hag hs', ?_, ?_, fun t v ht hno => ?_, fun k hk hLk t hdk hno => ?_⟩
  · cases hdd : ts[i].o.dst <;> simp [Act.put, hd.sz]
  · have : (A.put ts[i].o.dst v').defers = A.defers := by cases ts[i].o.dst <;> rfl
    rw [this, hd.mks]
    congr 1
    exact List.map_congr_left fun k hk => by rw [mixlow k (by have := hmk k hk; omega)]
  · obtain ⟨u, g1, g2⟩ := hd.old t v ht fun k hk hLk => hno k hk (by simp only [setL]; split <;> simp [hLk])
    exact ⟨u, keep t u g1 (hno i hi (by simp [setL])), g2.mono (Nat.le_refl _) fun k hk => mixlow k (by omega)⟩
  · by_cases hki : k = i
    · subst hki
      refine ⟨v', ?_, hv.mono (by omega) mixown⟩
      simp only [hdk, dstOk, Nat.blt_eq] at hdst
      simp only [hdk, Act.put]
      rw [Array.getElem?_setIfInBounds_self_of_lt (by rw [hd.sz]; exact hdst)]
    · have hLk' : L k = true := by simpa [setL, hki] using hLk
      have hne : ts[i].o.dst ≠ some t := by
        intro hdi
        rcases Nat.lt_or_gt_of_ne hki with hlt | hgt
        · exact hno i hi hlt (by simp [setL]) hdi
        · rcases (draw_parts hchk (hall k hk)).2.2.2 i _ hgt (hall i hi) with h | ⟨_, _, h⟩
          · have := h _ hdc (hdc k _ (hall k hk) hLk')
            rw [hLi] at this; cases this
          · exact (Oper.apart_spec h).2.1 t hdi hdk
      obtain ⟨u, g1, g2⟩ := hd.new k hk hLk' t hdk fun j hj hkj hLj => hno j hj hkj (by simp only [setL]; split <;> simp [hLj])
      refine ⟨u, keep t u g1 hne, ?_⟩
      rcases Nat.lt_or_gt_of_ne hki with hlt | hgt
      · have := nsOf_lt hlt (Nat.le_of_lt hi)
        exact g2.mono (Nat.le_refl _) fun j hj => mixlow j (by omega)
      · have := nsOf_lt hgt (Nat.le_of_lt hk)
        exact hnok k hk i hgt ⟨fun q => L q = true, hdc, hLk', by simp [hLi]⟩ _ _ _ _ g2 fun j hj => by
          rcases hj with hj | hj
          · exact mixlow j hj
          · exact mixhi j hj
theorem nsOf_len : ∀ {ts ts' : List Tr}, ts.map (·.ns.length) = ts'.map (·.ns.length) → (nsOf ts).length = (nsOf ts').length := by
  intro ts ts' h
  have e : ∀ l : List Tr, (nsOf l).length = (l.map (·.ns.length)).sum := by
    intro l
    induction l with
    | nil => rfl
    | cons t l ih =>
      simp only [nsOf, List.map_cons, List.flatten_cons, List.length_append, List.sum_cons] at ih ⊢
      omega
  rw [e, e, h]
theorem nsOf_take {ts ts' : List Tr} (h : ts.map (·.ns.length) = ts'.map (·.ns.length)) (j : Nat) : (nsOf (ts.take j)).length = (nsOf (ts'.take j)).length :=
  nsOf_len (by rw [List.map_take, List.map_take, h])
theorem envAt_eq : ∀ {ts ts' : List Tr} {e : Env}, ts.map (fun t => (t.o.dst, t.v)) = ts'.map (fun t => (t.o.dst, t.v)) → envAt ts e = envAt ts' e
  | [], [], _, _ => rfl
  | [], _ :: _, _, h => by simp at h
  | _ :: _, [], _, h => by simp at h
  | t :: ts, t' :: ts', e, h => by
    simp only [List.map_cons, List.cons.injEq, Prod.mk.injEq] at h
    simp only [envAt, h.1.1, h.1.2]
    exact envAt_eq h.2
theorem maskN_eq : ∀ {ts ts' : List Tr} {k : Nat} {L : Nat → Bool}, ts.length = ts'.length → (∀ (j : Nat) (h : j < ts.length) (h' : j < ts'.length), (L (k + j) = true → ts[j].ns = ts'[j].ns) ∧ ts[j].ns.length = ts'[j].ns.length) → maskN ts k L = maskN ts' k L
  | [], [], _, _, _, _ => rfl
  | [], _ :: _, _, _, h, _ => by simp at h
  | _ :: _, [], _, _, h, _ => by simp at h
  | t :: ts, t' :: ts', k, L, h, hp => by
    have h0 := hp 0 (by simp) (by simp)
    simp only [Nat.add_zero, List.getElem_cons_zero] at h0
    have h1 := maskN_eq (ts := ts) (ts' := ts') (k := k + 1) (L := L) (by simpa using h) fun j hj hj' => by
      have := hp (j + 1) (by simpa using hj) (by simpa using hj')
      simpa [Nat.add_assoc, Nat.add_comm 1 j] using this
    simp only [maskN, h1]
    cases hL : L k with
    | true => rw [if_pos rfl, if_pos rfl, h0.1 hL]
    | false =>
      have e : hide t.ns = hide t'.ns := by
        apply List.ext_getElem
        · simp [hide_length, h0.2]
        · intro i g1 g2; simp [hide]
      simp [e]
def setNs (ts : List Tr) (j : Nat) (h : Heap) : List Tr := ts.modify j fun t => { t with ns := h }
theorem setNs_length (ts : List Tr) (j : Nat) (h : Heap) : (setNs ts j h).length = ts.length := by simp [setNs]
theorem setNs_get {ts : List Tr} {j : Nat} {h : Heap} {i : Nat} (hi : i < (setNs ts j h).length) (hi' : i < ts.length) : (setNs ts j h)[i] = if j = i then { ts[i] with ns := h } else ts[i] := by
  simp only [setNs, List.getElem_modify]
theorem setNs_map {α : Type} (f : Tr → α) {ts : List Tr} {j : Nat} {h : Heap} (hf : ∀ (hj : j < ts.length), f { ts[j] with ns := h } = f ts[j]) : (setNs ts j h).map f = ts.map f := by
  apply List.ext_getElem
  · simp [setNs_length]
  · intro i h1 h2
    have hi : i < ts.length := by simpa using h2
    rw [List.getElem_map, List.getElem_map, setNs_get (by simpa using h1) hi]
    split
    · rename_i e; subst e; exact hf hi
    · rfl
def ChainOk (P : Program) (rd : Option Nat) (all : List Oper) (e : Env) (σ0 : Heap) (m : Nat) (K : List Tr → Prop) : List Oper → List Tr → Prop
  | [], ts => K ts
  | o :: rest, ts => ∃ (j : Nat) (h : Heap) (v : Value), waitsA o.after j = true ∧ (∀ (i : Nat) (oi : Oper), i < m → all[i]? = some oi → waits oi j = true → waitsA o.after i = true) ∧ (∀ hj : j < ts.length, h.length = ts[j].ns.length) ∧ newOk σ0.length h ∧
      OpOk P rd o.op o.type e (σ0 ++ maskN ts 0 (waitsA o.after)) v (σ0 ++ maskN (setNs ts j h) 0 (waitsA o.after)) ∧ ChainOk P rd all e σ0 m K rest (setNs ts j h)
structure FOk (P : Program) (N : Nat) (rd : Option Nat) (all : List Oper) (e0 : Env) (σ0 : Heap) (ts : List Tr) (L : Nat → Bool) : Prop where
  all' : ∀ (i : Nat) (hi : i < ts.length), all[i]? = some ts[i].o
  dst : ∀ (i : Nat) (hi : i < ts.length), dstOk N ts[i].o = true
  want : ∀ (i : Nat) (hi : i < ts.length), wantedA all (envAt (ts.take i) e0) ts[i].o = some ts[i].run
  off : ∀ (i : Nat) (hi : i < ts.length), ts[i].run = false → ts[i].v = undef ∧ (L i = false → ts[i].ns = [])
  new : ∀ (i : Nat) (hi : i < ts.length), newOk σ0.length ts[i].ns
  nok : ∀ (j : Nat) (hj : j < ts.length) (i : Nat) (hi : i < j), (∃ D : Nat → Prop, Closed all D ∧ D j ∧ ¬ D i) → ∀ (m : Nat) (ρ ρ' : Rho) (v' : Value), VRel m ρ ts[j].v v' →
      (∀ q, q < σ0.length + (nsOf (ts.take i)).length ∨ σ0.length + (nsOf (ts.take i)).length + ts[i].ns.length ≤ q → ρ' q = ρ q) → VRel m ρ' ts[j].v v'
  run : ∀ (i : Nat) (hi : i < ts.length), L i = false → ts[i].run = true → OpOk P rd ts[i].o.op ts[i].o.type (envAt (ts.take i) e0) (σ0 ++ maskN (ts.take i) 0 (waitsA ts[i].o.after)) ts[i].v (σ0 ++ maskN (ts.take i) 0 (waitsA ts[i].o.after) ++ ts[i].ns)
theorem FOk.start (htr : TrOk P N rd all 0 ts e0 σ0 []) (hall : ∀ (i : Nat) (hi : i < ts.length), all[i]? = some ts[i].o) (L : Nat → Bool) : FOk P N rd all e0 σ0 ts L := by
  have hget := fun (j : Nat) (hj : j < ts.length) => trok_get ts e0 htr j hj
  refine ⟨hall, fun i hi => (hget i hi).1, fun i hi => (hget i hi).2.1, fun i hi h => ⟨((hget i hi).2.2.2.1 h).1, fun _ => ((hget i hi).2.2.2.1 h).2⟩, fun i hi => (hget i hi).2.2.2.2.1, fun j hj i hij hD m ρ ρ' v' hv hq => ?_, fun i hi _ h => (hget i hi).2.2.1 h⟩
  by_cases hne : ts[i].ns = []
  · exact hv.mono (Nat.le_refl _) fun q _ => hq q (by rw [hne]; simp; omega)
  · have hne' : ((ts.take j)[i]'(by simp; omega)).ns ≠ [] := by simpa using hne
    obtain ⟨n1, n2, e1, e2⟩ := newsAt_split (ts.take j) 0 [] i (by simp; omega) hne'
    rw [Nat.zero_add] at e1
    have e3 : flatN n1 = nsOf (ts.take i) := by
      rw [e2, List.take_take, Nat.min_eq_left (by omega)]; simp [flatN]
    refine (hget j hj).2.2.2.2.2 n1 i _ n2 e1 hD m ρ ρ' v' hv fun q hq' => hq q ?_
    rw [e3] at hq'
    simpa using hq'
theorem FOk.mono {L L' : Nat → Bool} (h : FOk P N rd all e0 σ0 ts L) (hL : ∀ i < ts.length, L i = true → L' i = true) : FOk P N rd all e0 σ0 ts L' := by
  have hf : ∀ i < ts.length, L' i = false → L i = false := fun i hi hh => by
    cases hc : L i with
    | false => rfl
    | true => rw [hL i hi hc] at hh; cases hh
  exact ⟨h.all', h.dst, h.want, fun i hi hr => ⟨(h.off i hi hr).1, fun hl => (h.off i hi hr).2 (hf i hi hl)⟩, h.new, h.nok, fun i hi hl hr => h.run i hi (hf i hi hl) hr⟩
theorem setNs_lens {j : Nat} {h : Heap} (hl : ∀ hj : j < ts.length, h.length = ts[j].ns.length) : ts.map (·.ns.length) = (setNs ts j h).map (·.ns.length) := (setNs_map _ (fun hj => by simpa using hl hj)).symm
theorem setNs_take (j i : Nat) (h : Heap) : (setNs ts j h).take i = setNs (ts.take i) j h := by
  apply List.ext_getElem
  · simp [setNs_length]
  · intro q h1 h2
    have hq : q < ts.length := by simp [setNs_length] at h1; omega
    have hqi : q < (ts.take i).length := by simpa [setNs_length] using h2
    rw [List.getElem_take, setNs_get (by rw [setNs_length]; exact hq) hq, setNs_get h2 hqi]
    simp only [List.getElem_take]
theorem FOk.set {L : Nat → Bool} {j : Nat} {h : Heap} (hf : FOk P N rd all e0 σ0 ts L) (hj : j < ts.length → L j = true) (hw : ∀ (i : Nat) (hi : i < ts.length), waits ts[i].o j = true → L i = true) (hl : ∀ hj : j < ts.length, h.length = ts[j].ns.length) (hn : newOk σ0.length h) : FOk P N rd all e0 σ0 (setNs ts j h) L := by
  have hlen := setNs_length ts j h
  have get : ∀ (i : Nat) (hi : i < (setNs ts j h).length) (hi' : i < ts.length), (setNs ts j h)[i].o = ts[i].o ∧ (setNs ts j h)[i].v = ts[i].v ∧ (setNs ts j h)[i].run = ts[i].run ∧ (i ≠ j → (setNs ts j h)[i].ns = ts[i].ns) := by
    intro i hi hi'
    rw [setNs_get hi hi']
    split
    · rename_i e; exact ⟨rfl, rfl, rfl, fun hne => absurd e.symm hne⟩
    · exact ⟨rfl, rfl, rfl, fun _ => rfl⟩
  have henv : ∀ i, envAt ((setNs ts j h).take i) e0 = envAt (ts.take i) e0 := fun i => by
    rw [setNs_take]; exact envAt_eq (setNs_map _ (fun _ => rfl))
  have hlens := setNs_lens (ts := ts) hl
  refine ⟨fun i hi => ?_, fun i hi => ?_, fun i hi => ?_, fun i hi hr => ?_, fun i hi => ?_, fun q hq i hi hD m ρ ρ' v' hv hr => ?_, fun i hi hL hr => ?_⟩
  · rw [(get i hi (by omega)).1]; exact hf.all' i (by omega)
  · rw [(get i hi (by omega)).1]; exact hf.dst i (by omega)
  · rw [(get i hi (by omega)).1, (get i hi (by omega)).2.2.1, henv]; exact hf.want i (by omega)
  · rw [(get i hi (by omega)).2.2.1] at hr
    rw [(get i hi (by omega)).2.1]
    refine ⟨(hf.off i (by omega) hr).1, fun hL => ?_⟩
    by_cases hij : i = j
    · subst hij; rw [hj (by omega)] at hL; cases hL
    · rw [(get i hi (by omega)).2.2.2 hij]; exact (hf.off i (by omega) hr).2 hL
  · by_cases hij : i = j
    · subst hij
      rw [setNs_get hi (by omega), if_pos rfl]; exact hn
    · rw [(get i hi (by omega)).2.2.2 hij]; exact hf.new i (by omega)
  · rw [(get q hq (by omega)).2.1] at hv ⊢
    refine hf.nok q (by omega) i hi hD m ρ ρ' v' hv fun k hk => hr k ?_
    rw [← nsOf_take hlens i]
    have e : (setNs ts j h)[i].ns.length = ts[i].ns.length := by
      have := congrArg (fun l : List Nat => l[i]?) hlens
      simp only [List.getElem?_map] at this
      rw [List.getElem?_eq_getElem (show i < ts.length by omega), List.getElem?_eq_getElem (show i < (setNs ts j h).length by omega)] at this
      simpa using this.symm
    rw [e]; exact hk
  · have hij : i ≠ j := fun e => by subst e; rw [hj (by omega)] at hL; cases hL
    obtain ⟨g1, g2, g3, g4⟩ := get i hi (by omega)
    rw [g3] at hr
    have hwi : waits ts[i].o j = false := by
      cases hc : waits ts[i].o j with
      | false => rfl
      | true => rw [hw i (by omega) hc] at hL; cases hL
    have em : maskN ((setNs ts j h).take i) 0 (waitsA ts[i].o.after) = maskN (ts.take i) 0 (waitsA ts[i].o.after) := by
      refine maskN_eq (by simp [hlen]) fun q h1 h2 => ?_
      have hq : q < ts.length := by simp at h2; omega
      have hq' : q < (setNs ts j h).length := by omega
      simp only [List.getElem_take, Nat.zero_add]
      by_cases hqj : q = j
      · subst hqj
        refine ⟨fun hc => ?_, ?_⟩
        · unfold waits at hwi; rw [hwi] at hc; cases hc
        · rw [setNs_get hq' hq, if_pos rfl]; exact hl hq
      · rw [(get q hq' hq).2.2.2 hqj]; exact ⟨fun _ => rfl, rfl⟩
    rw [g1, g2, g4 hij, henv, em]
    exact hf.run i (by omega) hL hr
def setNw (news : List (Nat × Heap)) (j : Nat) (h : Heap) : List (Nat × Heap) := news.map fun p => bif Nat.beq p.1 j then (p.1, h) else p
def WChain (P : Program) (rd : Option Nat) (all : List Oper) (e : Env) (σ0 : Heap) (m : Nat) (K : List (Nat × Heap) → Prop) : List Oper → List (Nat × Heap) → Prop
  | [], news => K news
  | o :: rest, news => ∃ (j : Nat) (h : Heap) (v : Value), waitsA o.after j = true ∧ ((List.range m).all fun i => match all[i]? with | some oi => !waits oi j || waitsA o.after i | none => true) = true ∧ (∃ old, (j, old) ∈ news ∧ old.length = h.length) ∧ h ≠ [] ∧ newOk σ0.length h ∧
      OpOk P rd o.op o.type e (σ0 ++ visN (waitsA o.after) news) v (σ0 ++ visN (waitsA o.after) (setNw news j h)) ∧ WChain P rd all e σ0 m K rest (setNw news j h)
end
def visM : List Bool → List (Nat × Heap) → Heap
  | b :: bs, p :: news => (bif b then p.2 else hide p.2) ++ visM bs news
  | _, _ => []
end Go.AH.Chain
namespace Go.AH
open Go
section
variable {P : Program} {n0 N : Nat} {rd : Option Nat} {Q : Post} {e : Env} {mk : List Nat} {σ : Heap}
structure StopC (p : Prop) : Prop where
  out : p
end
end Go.AH
namespace Go.AH
open Go
theorem closed_slvV {n i sz k : Nat} (h : Nat.blt i n = true) : closed n (slvV i sz k) = true := by
  cases k <;> simp [slvV, closed, h]
section
variable {P : Program} {n0 N : Nat} {rd : Option Nat} {Q : Post} {e : Env} {mk : List Nat} {σ : Heap} {K : Env → List Nat → Heap → Prop} {all rest : List Oper}
theorem stGA {d : Nat} {op : Op} {ty : TypeId} {pos : String} {after : Array Edge} {v : Value} {σ' : Heap} {j : Nat} {b want : Bool} (hg : guardV all e j = some (.bool b))
    (h : OpOk P rd op ty e σ v σ') (hrd : rdok rd n0 = true) (hd : Nat.blt d N = true)
    (k : WOps P n0 N rd all rest K ((d, v) :: e) mk σ') (hb : b = want := by first | rfl | exact dtrue (by assumption) | exact dfalse (by assumption) | assumption | exact dtrue (by omega) | exact dfalse (by omega)) : WOps P n0 N rd all (⟨some d, op, ty, pos, after, some (j, want)⟩ :: rest) K e mk σ := stG hg hb h hrd hd k
theorem stSA {d : Nat} {op : Op} {ty : TypeId} {pos : String} {after : Array Edge} {j : Nat} {b want : Bool} (hg : guardV all e j = some (.bool b)) (hd : Nat.blt d N = true)
    (k : WOps P n0 N rd all rest K ((d, undef) :: e) mk σ) (hb : b = !want := by first | rfl | exact dtrue (by assumption) | exact dfalse (by assumption) | assumption | exact dtrue (by omega) | exact dfalse (by omega)) : WOps P n0 N rd all (⟨some d, op, ty, pos, after, some (j, want)⟩ :: rest) K e mk σ := stS hg hb hd k
theorem stGkA {d : Option Nat} {op : Op} {ty : TypeId} {pos : String} {after : Array Edge} {j : Nat} {b want : Bool} (hg : guardV all e j = some (.bool b)) (k : WOps P n0 N rd all (⟨d, op, ty, pos, after, some (j, want)⟩ :: rest) K e mk σ) (hb : b = want := by first | rfl | exact dtrue (by assumption) | exact dfalse (by assumption) | assumption | exact dtrue (by omega) | exact dfalse (by omega)) :
    WOps P n0 N rd all (⟨d, op, ty, pos, after, some (j, want)⟩ :: rest) K e mk σ := stGk hg hb k
theorem W_condTA {c : Operand} {x y : Code} {b : Bool} (hc : evalO e c = some (.bool b)) (h : WCode P n0 N rd x Q e mk σ) (hb : b = true := by first | rfl | exact dtrue (by assumption) | exact dfalse (by assumption) | assumption | exact dtrue (by omega) | exact dfalse (by omega)) : WCode P n0 N rd (.cond c x y) Q e mk σ := W_condT hc hb h
theorem W_condFA {c : Operand} {x y : Code} {b : Bool} (hc : evalO e c = some (.bool b)) (h : WCode P n0 N rd y Q e mk σ) (hb : b = false := by first | rfl | exact dtrue (by assumption) | exact dfalse (by assumption) | assumption | exact dtrue (by omega) | exact dfalse (by omega)) : WCode P n0 N rd (.cond c x y) Q e mk σ := W_condF hc hb h
end
section
variable {P : Program} {rd : Option Nat} {ty : TypeId} {e : Env} {σ : Heap} {a b c : Operand} {v : Value}
theorem ok_pickTA {t : Bool} (hc : evalO e c = some (.bool t)) (ha : evalO e a = some v) (ht : t = true := by first | rfl | exact dtrue (by assumption) | exact dfalse (by assumption) | assumption | exact dtrue (by omega) | exact dfalse (by omega)) : OpOk P rd (.pick c a b) ty e σ v σ := ok_pickT hc ht ha
theorem ok_pickFA {t : Bool} (hc : evalO e c = some (.bool t)) (hb : evalO e b = some v) (ht : t = false := by first | rfl | exact dtrue (by assumption) | exact dfalse (by assumption) | assumption | exact dtrue (by omega) | exact dfalse (by omega)) : OpOk P rd (.pick c a b) ty e σ v σ := ok_pickF hc ht hb
end
section
variable {P : Program} {N : Nat} {rd : Option Nat} {e : Env} {σ0 : Heap} {news : List (Nat × Heap)} {K : Env → List (Nat × Heap) → List Oper → Prop} {k : Nat} {all rest : List Oper} {d : Nat} {op : Op} {ty : TypeId} {pos : String} {after : Array Edge} {v : Value} {j : Nat} {b want : Bool}
theorem frA (h : OpOk P rd op ty e (σ0 ++ visN (waitsA after) news) v (σ0 ++ visN (waitsA after) news)) (hd : Nat.blt d N = true) (hk : WFree P N rd all (k + 1) rest ((d, v) :: e) σ0 news K) (hc : closed σ0.length v = true := by first | rfl | exact closed_slice rfl | exact closed_slvV rfl) :
    WFree P N rd all k (⟨some d, op, ty, pos, after, none⟩ :: rest) e σ0 news K := fr h hc hd hk
theorem frGA (hg : guardV all e j = some (.bool b)) (h : OpOk P rd op ty e (σ0 ++ visN (waitsA after) news) v (σ0 ++ visN (waitsA after) news)) (hd : Nat.blt d N = true) (hk : WFree P N rd all (k + 1) rest ((d, v) :: e) σ0 news K)
    (hb : b = want := by first | rfl | exact dtrue (by assumption) | exact dfalse (by assumption) | assumption | exact dtrue (by omega) | exact dfalse (by omega)) (hc : closed σ0.length v = true := by first | rfl | exact closed_slice rfl | exact closed_slvV rfl) : WFree P N rd all k (⟨some d, op, ty, pos, after, some (j, want)⟩ :: rest) e σ0 news K := frG hg hb h hc hd hk
theorem frSA (hg : guardV all e j = some (.bool b)) (hd : Nat.blt d N = true) (hk : WFree P N rd all (k + 1) rest ((d, undef) :: e) σ0 news K) (hb : b = !want := by first | rfl | exact dtrue (by assumption) | exact dfalse (by assumption) | assumption | exact dtrue (by omega) | exact dfalse (by omega)) :
    WFree P N rd all k (⟨some d, op, ty, pos, after, some (j, want)⟩ :: rest) e σ0 news K := frS hg hb hd hk
end
end Go.AH
namespace Go.AH.Hone
structure Sn where
  g : Int
  c : Int
  b : Int
structure Ed where
  d : Int
  b : Int
instance : Inhabited Sn := ⟨⟨0, 0, 0⟩⟩
def gs (l : List Sn) (i : Nat) : Sn := l.getD i ⟨0, 0, 0⟩
def badSn (s : Sn) : Prop := s.g < 0 ∨ s.g > 100 ∨ s.c < 0 ∨ s.c > 100 ∨ s.b < -6 ∨ s.b > 6
instance (s : Sn) : Decidable (badSn s) := by unfold badSn; infer_instance
def badEd (e : Ed) : Prop := e.d < 0 ∨ e.d > 100 ∨ e.b < 0 ∨ e.b > 6
instance (e : Ed) : Decidable (badEd e) := by unfold badEd; infer_instance
def can (s : Sn) (e : Ed) : Prop := e.b + s.b ≤ 6
instance (s : Sn) (e : Ed) : Decidable (can s e) := by unfold can; infer_instance
def aft (s : Sn) (e : Ed) : Ed := ⟨max s.g (e.d - s.c), max 0 (e.b + s.b)⟩
theorem aft_ok {s : Sn} {e : Ed} (hs : ¬ badSn s) (he : ¬ badEd e) (hc : can s e) : ¬ badEd (aft s e) := by
  unfold badSn badEd can aft at *; simp only; omega
def moreK (l : List Sn) (f : Nat → Int) (b : Nat) : Nat → Int
  | 0 => f b
  | k + 1 => if (b : Int) + (gs l k).b ≤ 6 ∧ (gs l k).g ≤ f (max 0 ((b : Int) + (gs l k).b)).toNat then max (moreK l f b k) (min 100 (f (max 0 ((b : Int) + (gs l k).b)).toNat + (gs l k).c)) else moreK l f b k
def moreF (l : List Sn) (f : Nat → Int) (b : Nat) : Int := moreK l f b l.length
def first (goal : Ed) (b : Nat) : Int := if (b : Int) ≤ goal.b then goal.d else -1
def rowN (l : List Sn) (goal : Ed) : Nat → Nat → Int
  | 0 => first goal
  | n + 1 => moreF l (rowN l goal n)
def inR (f : Nat → Int) (e : Ed) : Prop := e.d ≤ f e.b.toNat
instance (f : Nat → Int) (e : Ed) : Decidable (inR f e) := by unfold inR; infer_instance
theorem moreK_ge (l : List Sn) (f : Nat → Int) (b : Nat) : ∀ k, f b ≤ moreK l f b k
  | 0 => Int.le_refl _
  | k + 1 => by have := moreK_ge l f b k; simp only [moreK]; split <;> omega
theorem moreF_ge (l : List Sn) (f : Nat → Int) (b : Nat) : f b ≤ moreF l f b := moreK_ge l f b _
theorem moreK_le {l : List Sn} {f : Nat → Int} {b : Nat} (hf : f b ≤ 100) : ∀ k, moreK l f b k ≤ 100
  | 0 => hf
  | k + 1 => by have := moreK_le (l := l) hf k; simp only [moreK]; split <;> omega
theorem moreK_in {l : List Sn} {f : Nat → Int} {e : Ed} (he : ¬ badEd e) : ∀ k, e.d ≤ moreK l f e.b.toNat k ↔ inR f e ∨ ∃ i < k, can (gs l i) e ∧ inR f (aft (gs l i) e)
  | 0 => by simp [moreK, inR]
  | k + 1 => by
    have ih := moreK_in (l := l) (f := f) he k
    have hb : ((e.b.toNat : Nat) : Int) = e.b := by unfold badEd at he; omega
    have h100 : e.d ≤ 100 := by unfold badEd at he; omega
    have key : (can (gs l k) e ∧ inR f (aft (gs l k) e)) ↔ (e.b + (gs l k).b ≤ 6 ∧ (gs l k).g ≤ f (max 0 (e.b + (gs l k).b)).toNat) ∧ e.d ≤ min 100 (f (max 0 (e.b + (gs l k).b)).toNat + (gs l k).c) := by
      unfold can inR aft; simp only; omega
    have ex : (∃ i < k + 1, can (gs l i) e ∧ inR f (aft (gs l i) e)) ↔ (∃ i < k, can (gs l i) e ∧ inR f (aft (gs l i) e)) ∨ (can (gs l k) e ∧ inR f (aft (gs l k) e)) := by
      constructor
      · rintro ⟨i, hi, h⟩
        by_cases hik : i = k
        · subst hik; exact .inr h
        · exact .inl ⟨i, by omega, h⟩
      · rintro (⟨i, hi, h⟩ | h)
        · exact ⟨i, by omega, h⟩
        · exact ⟨k, by omega, h⟩
    rw [ex, key]
    simp only [moreK, hb]
    by_cases hc : e.b + (gs l k).b ≤ 6 ∧ (gs l k).g ≤ f (max 0 (e.b + (gs l k).b)).toNat
    · rw [if_pos hc]
      constructor
      · intro h
        by_cases h2 : e.d ≤ moreK l f e.b.toNat k
        · rcases ih.1 h2 with h3 | h3
          · exact .inl h3
          · exact .inr (.inl h3)
        · exact .inr (.inr ⟨hc, by omega⟩)
      · rintro (h | h | ⟨_, h⟩)
        · have := ih.2 (.inl h); omega
        · have := ih.2 (.inr h); omega
        · omega
    · rw [if_neg hc, ih]
      constructor
      · rintro (h | h)
        · exact .inl h
        · exact .inr (.inl h)
      · rintro (h | h | ⟨h, _⟩)
        · exact .inl h
        · exact .inr h
        · exact absurd h hc
theorem rowN_step {l : List Sn} {goal e : Ed} (he : ¬ badEd e) (n : Nat) : inR (rowN l goal (n + 1)) e ↔ inR (rowN l goal n) e ∨ ∃ i < l.length, can (gs l i) e ∧ inR (rowN l goal n) (aft (gs l i) e) := moreK_in he l.length
theorem rowN_mono {l : List Sn} {goal : Ed} {n m : Nat} (h : n ≤ m) (b : Nat) : rowN l goal n b ≤ rowN l goal m b := by
  induction m with
  | zero => rw [show n = 0 by omega]; exact Int.le_refl _
  | succ m ih =>
    by_cases hn : n = m + 1
    · subst hn; exact Int.le_refl _
    · exact Int.le_trans (ih (by omega)) (moreF_ge _ _ _)
theorem rowN_bounds {l : List Sn} {goal : Ed} (hg : ¬ badEd goal) : ∀ (n b : Nat), -1 ≤ rowN l goal n b ∧ rowN l goal n b ≤ 100
  | 0, b => by unfold badEd at hg; simp only [rowN, first]; split <;> omega
  | n + 1, b => by
    have := rowN_bounds (l := l) hg n b
    have h1 := moreF_ge l (rowN l goal n) b
    have h2 := moreK_le (l := l) (f := rowN l goal n) (b := b) this.2 l.length
    exact ⟨by simp only [rowN]; omega, h2⟩
theorem moreK_congr {l : List Sn} (hl : ∀ i < l.length, ¬ badSn (gs l i)) {f f' : Nat → Int} (hf : ∀ b < 7, f b = f' b) {b : Nat} (hb : b < 7) : ∀ k ≤ l.length, moreK l f b k = moreK l f' b k
  | 0, _ => hf b hb
  | k + 1, hk => by
    have ih := moreK_congr hl hf hb k (by omega)
    simp only [moreK, ih]
    by_cases h6 : (b : Int) + (gs l k).b ≤ 6
    · rw [hf _ (by omega)]
    · rw [if_neg (fun h => h6 h.1), if_neg (fun h => h6 h.1)]
def sameR (f f' : Nat → Int) : Prop := ∀ b < 7, f b = f' b
instance (f f' : Nat → Int) : Decidable (sameR f f') := by unfold sameR; infer_instance
def sumR (f : Nat → Int) : Int := f 0 + f 1 + f 2 + f 3 + f 4 + f 5 + f 6
theorem sum_lt {f f' : Nat → Int} (h : ∀ b < 7, f b ≤ f' b) (hn : ¬ sameR f f') : sumR f < sumR f' := by
  have h0 := h 0 (by omega); have h1 := h 1 (by omega); have h2 := h 2 (by omega); have h3 := h 3 (by omega); have h4 := h 4 (by omega); have h5 := h 5 (by omega); have h6 := h 6 (by omega)
  unfold sumR
  apply Classical.byContradiction
  intro hc
  apply hn
  intro b hb
  obtain rfl | rfl | rfl | rfl | rfl | rfl | rfl : b = 0 ∨ b = 1 ∨ b = 2 ∨ b = 3 ∨ b = 4 ∨ b = 5 ∨ b = 6 := by omega
  all_goals omega
theorem rowN_stay {l : List Sn} {goal : Ed} (hl : ∀ i < l.length, ¬ badSn (gs l i)) {n : Nat} (h : sameR (rowN l goal n) (rowN l goal (n + 1))) : ∀ k, sameR (rowN l goal n) (rowN l goal (n + k))
  | 0 => fun _ _ => rfl
  | k + 1 => fun b hb => by
    have ih := rowN_stay hl h k
    rw [h b hb]
    exact moreK_congr hl ih hb l.length (Nat.le_refl _)
def lastK (l : List Sn) (goal : Ed) : Nat → Nat → Nat
  | 0, n => n
  | k + 1, n => if sameR (rowN l goal n) (rowN l goal (n + 1)) then n else lastK l goal k (n + 1)
def lastN (l : List Sn) (goal : Ed) : Nat := lastK l goal 707 0
theorem lastK_is {l : List Sn} {goal : Ed} (hg : ¬ badEd goal) : ∀ (k n : Nat), sumR (rowN l goal n) + k ≥ 700 → sameR (rowN l goal (lastK l goal k n)) (rowN l goal (lastK l goal k n + 1)) ∧ n ≤ lastK l goal k n ∧ lastK l goal k n ≤ n + k ∧ ∀ m, n ≤ m → m < lastK l goal k n → ¬ sameR (rowN l goal m) (rowN l goal (m + 1))
  | 0, n, h => by
    have hb := fun b => rowN_bounds (l := l) hg (n + 1) b
    have hm := fun b => rowN_mono (l := l) (goal := goal) (Nat.le_add_right n 1) b
    refine ⟨?_, Nat.le_refl _, Nat.le_refl _, fun m h1 h2 => by simp only [lastK] at h2; omega⟩
    simp only [lastK]
    apply Classical.byContradiction
    intro hn
    have h1 := sum_lt (fun b _ => hm b) hn
    have b0 := hb 0; have b1 := hb 1; have b2 := hb 2; have b3 := hb 3; have b4 := hb 4; have b5 := hb 5; have b6 := hb 6
    have : sumR (rowN l goal (n + 1)) ≤ 700 := by unfold sumR; omega
    omega
  | k + 1, n, h => by
    simp only [lastK]
    by_cases hs : sameR (rowN l goal n) (rowN l goal (n + 1))
    · rw [if_pos hs]; exact ⟨hs, Nat.le_refl _, by omega, fun m h1 h2 => by omega⟩
    · rw [if_neg hs]
      have h1 := sum_lt (fun b _ => rowN_mono (l := l) (goal := goal) (Nat.le_add_right n 1) b) hs
      obtain ⟨g1, g2, g3, g4⟩ := lastK_is (l := l) hg k (n + 1) (by omega)
      refine ⟨g1, by omega, by omega, fun m m1 m2 => ?_⟩
      by_cases hmn : m = n
      · subst hmn; exact hs
      · exact g4 m (by omega) m2
theorem lastN_is {l : List Sn} {goal : Ed} (hg : ¬ badEd goal) : sameR (rowN l goal (lastN l goal)) (rowN l goal (lastN l goal + 1)) ∧ lastN l goal ≤ 707 ∧ ∀ m < lastN l goal, ¬ sameR (rowN l goal m) (rowN l goal (m + 1)) := by
  have hb := fun b => rowN_bounds (l := l) hg 0 b
  have b0 := hb 0; have b1 := hb 1; have b2 := hb 2; have b3 := hb 3; have b4 := hb 4; have b5 := hb 5; have b6 := hb 6
  obtain ⟨g1, _, g3, g4⟩ := lastK_is (l := l) hg 707 0 (by unfold sumR; omega)
  exact ⟨g1, by unfold lastN; omega, fun m hm => g4 m (by omega) hm⟩
def needsK (l : List Sn) (goal e : Ed) : Nat → Int
  | 0 => -1
  | k + 1 => if 0 ≤ needsK l goal e k then needsK l goal e k else if inR (rowN l goal k) e then k else -1
def needsV (l : List Sn) (goal e : Ed) : Int := needsK l goal e (lastN l goal + 1)
theorem needsK_is {l : List Sn} {goal e : Ed} : ∀ k, (needsK l goal e k = -1 ∧ ∀ n < k, ¬ inR (rowN l goal n) e) ∨ ∃ n < k, needsK l goal e k = (n : Int) ∧ inR (rowN l goal n) e ∧ ∀ m < n, ¬ inR (rowN l goal m) e
  | 0 => .inl ⟨rfl, fun n h => by omega⟩
  | k + 1 => by
    simp only [needsK]
    rcases needsK_is (l := l) (goal := goal) (e := e) k with ⟨h1, h2⟩ | ⟨n, hn, h1, h2, h3⟩
    · rw [h1, if_neg (by omega)]
      by_cases hk : inR (rowN l goal k) e
      · rw [if_pos hk]; exact .inr ⟨k, by omega, rfl, hk, h2⟩
      · rw [if_neg hk]
        refine .inl ⟨rfl, fun n hn => ?_⟩
        by_cases hnk : n = k
        · subst hnk; exact hk
        · exact h2 n (by omega)
    · rw [h1, if_pos (by omega)]; exact .inr ⟨n, by omega, rfl, h2, h3⟩
theorem inR_mono {l : List Sn} {goal e : Ed} {n m : Nat} (h : n ≤ m) (hi : inR (rowN l goal n) e) : inR (rowN l goal m) e := Int.le_trans hi (rowN_mono h _)
theorem inR_same {f f' : Nat → Int} {e : Ed} (he : ¬ badEd e) (h : sameR f f') : inR f e ↔ inR f' e := by
  unfold inR badEd at *
  rw [h _ (by omega)]
theorem needsV_iff {l : List Sn} {goal e : Ed} (hl : ∀ i < l.length, ¬ badSn (gs l i)) (hg : ¬ badEd goal) (he : ¬ badEd e) (n : Nat) : inR (rowN l goal n) e ↔ 0 ≤ needsV l goal e ∧ needsV l goal e ≤ n := by
  obtain ⟨g1, g2, g3⟩ := lastN_is (l := l) hg
  unfold needsV
  have hlast : ∀ m, inR (rowN l goal m) e → inR (rowN l goal (lastN l goal)) e := fun m hm => by
    by_cases hle : m ≤ lastN l goal
    · exact inR_mono hle hm
    · have := rowN_stay hl g1 (m - lastN l goal)
      rw [show lastN l goal + (m - lastN l goal) = m by omega] at this
      exact (inR_same he this).2 hm
  rcases needsK_is (l := l) (goal := goal) (e := e) (lastN l goal + 1) with ⟨h1, h2⟩ | ⟨k, hk, h1, h2, h3⟩
  · rw [h1]
    constructor
    · intro h; exact absurd (hlast n h) (h2 _ (by omega))
    · intro h; omega
  · rw [h1]
    constructor
    · intro h
      refine ⟨by omega, ?_⟩
      apply Classical.byContradiction
      intro hc
      exact h3 n (by omega) h
    · intro h; exact inR_mono (by omega) h2
end Go.AH.Hone
namespace Go.AH.Hone
section
variable {l : List Sn} {goal e : Ed}
def keen (e goal : Ed) : Prop := e.d ≤ goal.d ∧ e.b ≤ goal.b
instance (e goal : Ed) : Decidable (keen e goal) := by unfold keen; infer_instance
theorem row0_keen (he : ¬ badEd e) : inR (rowN l goal 0) e ↔ keen e goal := by
  unfold inR keen badEd at *
  simp only [rowN, first]
  have : ((e.b.toNat : Nat) : Int) = e.b := by omega
  rw [this]
  split <;> omega
theorem needs_ge (l : List Sn) (goal e : Ed) : -1 ≤ needsV l goal e := by
  unfold needsV
  rcases needsK_is (l := l) (goal := goal) (e := e) (lastN l goal + 1) with ⟨h, _⟩ | ⟨n, _, h, _⟩ <;> omega
theorem needs_le (hg : ¬ badEd goal) : needsV l goal e ≤ 707 := by
  have := (lastN_is (l := l) hg).2.1
  unfold needsV
  rcases needsK_is (l := l) (goal := goal) (e := e) (lastN l goal + 1) with ⟨h, _⟩ | ⟨n, hn, h, _⟩ <;> omega
variable (hl : ∀ i < l.length, ¬ badSn (gs l i)) (hg : ¬ badEd goal) (he : ¬ badEd e)
include hl hg he
theorem needs_zero : needsV l goal e = 0 ↔ keen e goal := by
  have h := needsV_iff hl hg he 0
  rw [row0_keen he] at h
  have := needs_ge l goal e
  constructor
  · intro h0; exact h.2 (by omega)
  · intro hk; have := h.1 hk; omega
theorem needs_down {n : Nat} (h : needsV l goal e = (n : Int) + 1) : ∃ i < l.length, can (gs l i) e ∧ needsV l goal (aft (gs l i) e) = n := by
  have h1 := (needsV_iff hl hg he (n + 1)).2 (by omega)
  rcases (rowN_step he n).1 h1 with h2 | ⟨i, hi, hc, h2⟩
  · have := (needsV_iff hl hg he n).1 h2; omega
  · refine ⟨i, hi, hc, ?_⟩
    have ha := aft_ok (hl i hi) he hc
    have h3 := (needsV_iff hl hg ha n).1 h2
    apply Classical.byContradiction
    intro hne
    have h4 := (needsV_iff hl hg ha (n - 1)).2 (by omega)
    have h5 := (rowN_step he (n - 1)).2 (.inr ⟨i, hi, hc, h4⟩)
    have := (needsV_iff hl hg he (n - 1 + 1)).1 h5
    omega
theorem needs_up {i : Nat} (hi : i < l.length) (hc : can (gs l i) e) (h : 0 ≤ needsV l goal (aft (gs l i) e)) : 0 ≤ needsV l goal e ∧ needsV l goal e ≤ needsV l goal (aft (gs l i) e) + 1 := by
  have ha := aft_ok (hl i hi) he hc
  have h4 := (needsV_iff hl hg ha (needsV l goal (aft (gs l i) e)).toNat).2 (by omega)
  have h5 := (rowN_step he _).2 (.inr ⟨i, hi, hc, h4⟩)
  have := (needsV_iff hl hg he _).1 h5
  omega
theorem needs_first {n i : Nat} (h : needsV l goal e = (n : Int) + 1) (hi : i < l.length) (hc : can (gs l i) e) : inR (rowN l goal n) (aft (gs l i) e) ↔ needsV l goal (aft (gs l i) e) = n := by
  have ha := aft_ok (hl i hi) he hc
  have h1 := needsV_iff hl hg ha n
  constructor
  · intro h2
    have h3 := h1.1 h2
    have h4 := needs_up hl hg he hi hc h3.1
    omega
  · intro h2; exact h1.2 (by omega)
omit hl hg he
theorem aft_mono {s : Sn} {e e' : Ed} (h1 : e.d ≤ e'.d) (h2 : e.b ≤ e'.b) : (can s e' → can s e) ∧ (aft s e).d ≤ (aft s e').d ∧ (aft s e).b ≤ (aft s e').b := by
  unfold can aft; simp only; omega
def leaves (l : List Sn) (r before : Nat → Int) : Prop := ∀ e, ¬ badEd e → ¬ inR r e → ∀ i < l.length, can (gs l i) e → ¬ inR before (aft (gs l i) e)
theorem leaves_iff {r before : Nat → Int} (hr : ∀ b < 7, -1 ≤ r b) : leaves l r before ↔ ∀ b < 7, r b + 1 ≤ 100 → ∀ i < l.length, can (gs l i) ⟨r b + 1, b⟩ → ¬ inR before (aft (gs l i) ⟨r b + 1, b⟩) := by
  constructor
  · intro h b hb h1 i hi hc
    have := hr b hb
    exact h ⟨r b + 1, b⟩ (by unfold badEd; simp only; omega) (by unfold inR; simp only [Int.toNat_natCast]; omega) i hi hc
  · intro h e he hn i hi hc
    have hb : ((e.b.toNat : Nat) : Int) = e.b := by unfold badEd at he; omega
    have hb7 : e.b.toNat < 7 := by unfold badEd at he; omega
    unfold inR at hn
    have h2 := h e.b.toNat hb7 (by unfold badEd at he; omega) i hi (by unfold can at hc ⊢; simp only [hb]; exact hc)
    unfold inR at h2 ⊢
    have m := aft_mono (s := gs l i) (e := ⟨r e.b.toNat + 1, e.b.toNat⟩) (e' := e) (by simp only; omega) (by simp only [hb]; exact Int.le_refl _)
    have eb : (aft (gs l i) ⟨r e.b.toNat + 1, e.b.toNat⟩).b = (aft (gs l i) e).b := by unfold aft; simp only [hb]
    rw [eb] at h2
    omega
def pathTo (l : List Sn) (goal : Ed) : Nat → Ed → Prop
  | 0, e => keen e goal
  | n + 1, e => ∃ i < l.length, can (gs l i) e ∧ pathTo l goal n (aft (gs l i) e)
theorem path_of_needs (hl : ∀ i < l.length, ¬ badSn (gs l i)) (hg : ¬ badEd goal) : ∀ (n : Nat) (e : Ed), ¬ badEd e → needsV l goal e = n → pathTo l goal n e
  | 0, e, he, h => (needs_zero hl hg he).1 (by simpa using h)
  | n + 1, e, he, h => by
    obtain ⟨i, hi, hc, h2⟩ := needs_down hl hg he (n := n) (by simpa using h)
    exact ⟨i, hi, hc, path_of_needs hl hg n _ (aft_ok (hl i hi) he hc) h2⟩
theorem needs_of_path (hl : ∀ i < l.length, ¬ badSn (gs l i)) (hg : ¬ badEd goal) : ∀ (n : Nat) (e : Ed), ¬ badEd e → pathTo l goal n e → 0 ≤ needsV l goal e ∧ needsV l goal e ≤ n
  | 0, e, he, h => by
    have := (needs_zero hl hg he).2 h
    omega
  | n + 1, e, he, ⟨i, hi, hc, h⟩ => by
    have ih := needs_of_path hl hg n _ (aft_ok (hl i hi) he hc) h
    have := needs_up hl hg he hi hc ih.1
    omega
end
def edI (i : Nat) : Ed := ⟨((i / 7 : Nat) : Int), ((i % 7 : Nat) : Int)⟩
def ixE (e : Ed) : Nat := 7 * e.d.toNat + e.b.toNat
theorem edI_ok {i : Nat} (h : i < 707) : ¬ badEd (edI i) := by unfold badEd edI; simp only; omega
theorem edI_ix {e : Ed} (h : ¬ badEd e) : edI (ixE e) = e ∧ ixE e < 707 := by
  unfold badEd at h
  obtain ⟨d, b⟩ := e
  simp only at h
  refine ⟨?_, by unfold ixE; simp only; omega⟩
  unfold edI ixE
  simp only [Ed.mk.injEq]
  omega
def tabV (l : List Sn) (goal : Ed) (n : Int) (i : Nat) : Int := if 0 ≤ needsV l goal (edI i) ∧ needsV l goal (edI i) ≤ n then needsV l goal (edI i) else -1
end Go.AH.Hone
namespace Go.AH.Hone
def pickF (p : Nat → Prop) [DecidablePred p] : Nat → Int
  | 0 => -1
  | k + 1 => if 0 ≤ pickF p k then pickF p k else if p k then (k : Int) else -1
theorem pickF_is (p : Nat → Prop) [DecidablePred p] : ∀ k, (pickF p k = -1 ∧ ∀ i < k, ¬ p i) ∨ ∃ i < k, pickF p k = (i : Int) ∧ p i ∧ ∀ j < i, ¬ p j
  | 0 => .inl ⟨rfl, fun i h => by omega⟩
  | k + 1 => by
    simp only [pickF]
    rcases pickF_is p k with ⟨h1, h2⟩ | ⟨i, hi, h1, h2, h3⟩
    · rw [h1, if_neg (by omega)]
      by_cases hk : p k
      · rw [if_pos hk]; exact .inr ⟨k, by omega, rfl, hk, h2⟩
      · rw [if_neg hk]
        refine .inl ⟨rfl, fun i hi => ?_⟩
        by_cases hik : i = k
        · subst hik; exact hk
        · exact h2 i (by omega)
    · rw [h1, if_pos (by omega)]; exact .inr ⟨i, by omega, rfl, h2, h3⟩
theorem pickF_congr {p q : Nat → Prop} [DecidablePred p] [DecidablePred q] : ∀ k, (∀ i < k, p i ↔ q i) → pickF p k = pickF q k
  | 0, _ => rfl
  | k + 1, h => by
    have ih := pickF_congr (p := p) (q := q) k fun i hi => h i (by omega)
    simp only [pickF, ih]
    by_cases hk : p k
    · rw [if_pos hk, if_pos ((h k (by omega)).1 hk)]
    · rw [if_neg hk, if_neg fun hq => hk ((h k (by omega)).2 hq)]
def aftL (l : List Sn) : Ed → List Nat → Option Ed
  | e, [] => some e
  | e, i :: r => if can (gs l i) e then aftL l (aft (gs l i) e) r else none
def bestS (l : List Sn) (goal : Ed) : Nat → Ed → List Nat
  | 0, _ => []
  | n + 1, e => (pickF (fun i => can (gs l i) e ∧ inR (rowN l goal n) (aft (gs l i) e)) l.length).toNat :: bestS l goal n (aft (gs l (pickF (fun i => can (gs l i) e ∧ inR (rowN l goal n) (aft (gs l i) e)) l.length).toNat) e)
section
variable {l : List Sn} {goal : Ed}
theorem bestS_len : ∀ (n : Nat) (e : Ed), (bestS l goal n e).length = n
  | 0, _ => rfl
  | n + 1, e => by simp only [bestS, List.length_cons, bestS_len n]
theorem best_pick (hl : ∀ i < l.length, ¬ badSn (gs l i)) (hg : ¬ badEd goal) {e : Ed} (he : ¬ badEd e) {n : Nat} (h : needsV l goal e = (n : Int) + 1) :
    ∃ i < l.length, pickF (fun i => can (gs l i) e ∧ inR (rowN l goal n) (aft (gs l i) e)) l.length = (i : Int) ∧ can (gs l i) e ∧ needsV l goal (aft (gs l i) e) = n ∧ ∀ j < i, can (gs l j) e → needsV l goal (aft (gs l j) e) ≠ n := by
  obtain ⟨k, hk, hc, h2⟩ := needs_down hl hg he h
  rcases pickF_is (fun i => can (gs l i) e ∧ inR (rowN l goal n) (aft (gs l i) e)) l.length with ⟨_, h3⟩ | ⟨i, hi, h3, h4, h5⟩
  · exact absurd ⟨hc, (needs_first hl hg he h hk hc).2 h2⟩ (h3 k hk)
  · refine ⟨i, hi, h3, h4.1, (needs_first hl hg he h hi h4.1).1 h4.2, fun j hj hcj hn => h5 j hj ⟨hcj, (needs_first hl hg he h (by omega) hcj).2 hn⟩⟩
theorem path_box {l' : List Sn} (hsub : ∀ i < l.length, ∃ j < l'.length, gs l' j = gs l i) : ∀ (n : Nat) (e : Ed), pathTo l goal n e → pathTo l' goal n e
  | 0, e, h => h
  | n + 1, e, ⟨i, hi, hc, h⟩ => by
    obtain ⟨j, hj, e1⟩ := hsub i hi
    exact ⟨j, hj, by rw [e1]; exact hc, by rw [e1]; exact path_box hsub n _ h⟩
theorem needs_mono {l' : List Sn} {goal' e e' : Ed} (hl : ∀ i < l.length, ¬ badSn (gs l i)) (hg : ¬ badEd goal) (he : ¬ badEd e) (hl' : ∀ i < l'.length, ¬ badSn (gs l' i)) (hg' : ¬ badEd goal') (he' : ¬ badEd e')
    (h : ∀ n, pathTo l goal n e → pathTo l' goal' n e') (hn : 0 ≤ needsV l goal e) : 0 ≤ needsV l' goal' e' ∧ needsV l' goal' e' ≤ needsV l goal e := by
  have h1 := path_of_needs hl hg (needsV l goal e).toNat e he (by omega)
  have h2 := needs_of_path hl' hg' _ e' he' (h _ h1)
  omega
theorem row_ext {f f' : Nat → Int} (hf : ∀ b < 7, -1 ≤ f b ∧ f b ≤ 100) (hf' : ∀ b < 7, -1 ≤ f' b ∧ f' b ≤ 100) (h : ∀ e, ¬ badEd e → (inR f e ↔ inR f' e)) : sameR f f' := fun b hb => by
  have h1 := hf b hb
  have h2 := hf' b hb
  apply Classical.byContradiction
  intro hne
  rcases Int.lt_or_gt_of_ne hne with hlt | hlt
  · have := h ⟨f' b, b⟩ (by unfold badEd; simp only; omega)
    unfold inR at this
    simp only [Int.toNat_natCast] at this
    omega
  · have := h ⟨f b, b⟩ (by unfold badEd; simp only; omega)
    unfold inR at this
    simp only [Int.toNat_natCast] at this
    omega
theorem needs_same {l' : List Sn} {e : Ed} (hl : ∀ i < l.length, ¬ badSn (gs l i)) (hl' : ∀ i < l'.length, ¬ badSn (gs l' i)) (hg : ¬ badEd goal) (he : ¬ badEd e) (h1 : ∀ i < l.length, ∃ j < l'.length, gs l' j = gs l i) (h2 : ∀ j < l'.length, ∃ i < l.length, gs l i = gs l' j) : needsV l goal e = needsV l' goal e := by
  have a := fun hn => needs_mono hl hg he hl' hg he (fun n => path_box h1 n e) hn
  have b := fun hn => needs_mono hl' hg he hl hg he (fun n => path_box h2 n e) hn
  have g1 := needs_ge l goal e
  have g2 := needs_ge l' goal e
  by_cases hn : 0 ≤ needsV l goal e
  · have a := a hn
    have b := b a.1
    omega
  · by_cases hn' : 0 ≤ needsV l' goal e
    · have := b hn'; omega
    · omega
theorem rowN_same {l' : List Sn} (hl : ∀ i < l.length, ¬ badSn (gs l i)) (hl' : ∀ i < l'.length, ¬ badSn (gs l' i)) (hg : ¬ badEd goal) (h1 : ∀ i < l.length, ∃ j < l'.length, gs l' j = gs l i) (h2 : ∀ j < l'.length, ∃ i < l.length, gs l i = gs l' j) (n : Nat) : sameR (rowN l goal n) (rowN l' goal n) :=
  row_ext (fun b _ => rowN_bounds hg n b) (fun b _ => rowN_bounds hg n b) fun e he => by
    rw [needsV_iff hl hg he n, needsV_iff hl' hg he n, needs_same hl hl' hg he h1 h2]
end
end Go.AH.Hone
namespace Go.AH.Hone
def rrow (q : Nat → Prop) [DecidablePred q] (b : Nat) : Nat → Int
  | 0 => -1
  | i + 1 => if q i ∧ i % 7 = b then max (rrow q b i) ((i / 7 : Nat) : Int) else rrow q b i
section
variable {l : List Sn} {goal : Ed}
inductive On (l : List Sn) (goal e : Ed) : Ed → Prop
  | start : On l goal e e
  | step {x : Ed} {i : Nat} (h : On l goal e x) (hi : i < l.length) (hc : can (gs l i) x) (h0 : 0 ≤ needsV l goal (aft (gs l i) x)) (hn : needsV l goal x = needsV l goal (aft (gs l i) x) + 1) : On l goal e (aft (gs l i) x)
def endsP (l : List Sn) (goal e : Ed) (i : Nat) : Prop := ∃ x, On l goal e x ∧ can (gs l i) x ∧ needsV l goal x = 1 ∧ needsV l goal (aft (gs l i) x) = 0
theorem On.trans {e x y : Ed} (h : On l goal e x) (h2 : On l goal x y) : On l goal e y := by
  induction h2 with
  | start => exact h
  | step _ hi hc h0 hn ih => exact .step ih hi hc h0 hn
theorem On.ok (hl : ∀ i < l.length, ¬ badSn (gs l i)) {e x : Ed} (he : ¬ badEd e) (h : On l goal e x) : ¬ badEd x := by
  induction h with
  | start => exact he
  | step _ hi hc _ _ ih => exact aft_ok (hl _ hi) ih hc
theorem On.le {e x : Ed} (h : On l goal e x) : needsV l goal x ≤ needsV l goal e := by
  induction h with
  | start => exact Int.le_refl _
  | step _ _ _ _ hn ih => omega
theorem best_ends (hl : ∀ i < l.length, ¬ badSn (gs l i)) (hg : ¬ badEd goal) : ∀ (n : Nat) (e : Ed), ¬ badEd e → needsV l goal e = (n : Int) + 1 → ∃ i < l.length, (bestS l goal (n + 1) e)[n]? = some i ∧ endsP l goal e i
  | 0, e, he, h => by
    obtain ⟨i, hi, h1, hc, h2, _⟩ := best_pick hl hg he (n := 0) h
    refine ⟨i, hi, ?_, e, .start, hc, by simpa using h, by simpa using h2⟩
    simp only [bestS, h1, Int.toNat_natCast, List.getElem?_cons_zero]
  | n + 1, e, he, h => by
    obtain ⟨i, hi, h1, hc, h2, _⟩ := best_pick hl hg he (n := n + 1) h
    obtain ⟨k, hk, h3, x, hx, h4⟩ := best_ends hl hg n _ (aft_ok (hl i hi) he hc) (by rw [h2]; simp)
    refine ⟨k, hk, ?_, x, .trans (.step .start hi hc (by rw [h2]; omega) (by rw [h2, h])) hx, h4⟩
    rw [bestS, h1, Int.toNat_natCast, List.getElem?_cons_succ]
    exact h3
theorem ends_none (hl : ∀ i < l.length, ¬ badSn (gs l i)) (hg : ¬ badEd goal) {e : Ed} (_he : ¬ badEd e) (h : needsV l goal e = 0) (i : Nat) : ¬ endsP l goal e i := fun ⟨x, hx, _, h1, _⟩ => by
  have := hx.le
  omega
end
def wout (l : List Sn) (i : Nat) : List Sn := l.take i ++ l.drop (i + 1)
theorem wout_len {l : List Sn} {i : Nat} (h : i < l.length) : (wout l i).length = l.length - 1 := by simp [wout]; omega
theorem wout_get {l : List Sn} {i k : Nat} (h : i < l.length) : gs (wout l i) k = gs l (if k < i then k else k + 1) := by
  simp only [gs, List.getD_eq_getElem?_getD, wout]
  by_cases hki : k < i
  · rw [if_pos hki, List.getElem?_append_left (by simp; omega), List.getElem?_take_of_lt hki]
  · rw [if_neg hki, List.getElem?_append_right (by simp; omega), List.getElem?_drop]
    congr 2
    simp; omega
theorem wout_ok {l : List Sn} {i : Nat} (hl : ∀ i < l.length, ¬ badSn (gs l i)) (h : i < l.length) : ∀ k < (wout l i).length, ¬ badSn (gs (wout l i) k) := fun k hk => by
  rw [wout_len h] at hk
  rw [wout_get h]
  exact hl _ (by split <;> omega)
end Go.AH.Hone
