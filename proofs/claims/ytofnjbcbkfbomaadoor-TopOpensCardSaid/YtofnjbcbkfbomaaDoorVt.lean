/- Walks of the program's functions: the trees. Conditions: as each says. Printed by a program of our own (wip/tools/gen.py). -/
import Derived.Test.YtofnjbcbkfbomaaDoorVs
namespace Go.Vx
open Go Go.RowKit Go.Proofs
set_option maxRecDepth 100000
attribute [local irreducible] nd
variable (s : Seat)

section
variable [hB : HasB s] [hF : HasF s]

theorem build_fn (f : Int) (hf : fv f = true) (h c : Nat) (hc : c ≤ h) (h18 : h ≤ 18) (leaves : Lv) (hlen : leaves.length = 2 ^ h) (hin : inL (fP f) leaves) : Fn s.env 14 [i64 f, slc Kd leaves, i64 c] (stup [tre f h c (lvls f (h - c) leaves), i64 0]) := by
  have hp18 := pow18 h18
  refine FnM.of Tryd.func14 rfl Tryd.ntmps14 rfl ?_
  intro w0 F0
  refine Run.seq ?_
  refine Run.region ?_
  refine q_alloc ti46 rfl rfl ?_
  intro b6
  refine Run.op rfl rfl rfl (y_assign rfl) ?_
  refine Run.nil ?_
  refine Run.nT ?_
  refine Run.seq ?_
  refine Run.region ?_
  refine Run.op rfl rfl rfl (y_move rfl) ?_
  refine Run.op rfl rfl rfl (Yields.int (y_lenS rfl Tryd.underlying40) (show (leaves.length : Int) = ((2 ^ h : Nat) : Int) by rw [hlen])) ?_
  refine Run.op rfl rfl rfl (q_call en57 rfl (height_fn s h h18)) ?_
  refine Run.op rfl rfl rfl (y_assign rfl) ?_
  refine Run.nil ?_
  refine Run.nT ?_
  refine Run.seq ?_
  refine Run.block ?_
  refine Run.seq ?_
  refine Run.region ?_
  refine Run.op rfl rfl rfl (y_move rfl) ?_
  refine Run.op rfl rfl rfl (Yields.bool (c := true) (q_call en58 rfl (valid_fn s _)) (hf)) ?_
  refine Run.op rfl rfl rfl (y_not rfl) ?_
  refine Run.op rfl rfl rfl (y_move rfl) ?_
  refine Run.opG rfl rfl rfl rfl rfl (y_move rfl) ?_
  refine Run.opG rfl rfl rfl rfl rfl (Yields.bool (c := false) (y_lss rfl rfl) (by rw [decide_eq_false_iff_not]; omega)) ?_
  refine Run.op rfl rfl rfl (y_pickF rfl rfl) ?_
  refine Run.op rfl rfl rfl (y_move rfl) ?_
  refine Run.opG rfl rfl rfl rfl rfl (y_move rfl) ?_
  refine Run.opG rfl rfl rfl rfl rfl (Yields.bool (c := false) (y_lss rfl rfl) (by rw [decide_eq_false_iff_not]; omega)) ?_
  refine Run.op rfl rfl rfl (y_pickF rfl rfl) ?_
  refine Run.op rfl rfl rfl (y_move rfl) ?_
  refine Run.opG rfl rfl rfl rfl rfl (y_move rfl) ?_
  refine Run.opG rfl rfl rfl rfl rfl (y_move rfl) ?_
  refine Run.opG rfl rfl rfl rfl rfl (Yields.bool (c := false) (y_gtr rfl rfl) (by rw [decide_eq_false_iff_not]; omega)) ?_
  refine Run.op rfl rfl rfl (y_pickF rfl rfl) ?_
  refine Run.op rfl rfl rfl (y_assign rfl) ?_
  refine Run.nil ?_
  refine Run.nT ?_
  refine Run.cond0 rfl ?_
  refine Run.seq ?_
  refine Run.region ?_
  refine Run.op rfl rfl rfl (y_move rfl) ?_
  refine Run.op rfl rfl rfl (y_move rfl) ?_
  refine Run.op rfl rfl rfl (Yields.bool (c := true) (q_call en59 rfl (proper_fn s f leaves (by omega))) (prp_of hin)) ?_
  refine Run.op rfl rfl rfl (y_not rfl) ?_
  refine Run.op rfl rfl rfl (y_assign rfl) ?_
  refine Run.nil ?_
  refine Run.nT ?_
  refine Run.cond0 rfl ?_
  refine Run.skip ?_
  refine Run.nB ?_
  refine Run.nT ?_
  refine Run.seq ?_
  refine Run.region ?_
  refine Run.op rfl rfl rfl (y_move rfl) ?_
  refine Run.op rfl rfl rfl (y_move rfl) ?_
  refine Run.op rfl rfl rfl (y_move rfl) ?_
  refine Run.op rfl rfl rfl (q_buildS [(0, 1), (1, 1), (2, 1), (3, 1)] Tryd.underlying46 ti46 rfl (fun w => by simp [run_sizeOf ti3.siz, run_sizeOf ti43.siz]) (.cons rfl (Part.one' rfl) rfl (.cons rfl (Part.one' rfl) rfl (.cons rfl (Part.one' rfl) rfl .nil)))) ?_
  refine q_alloc ti46 rfl rfl ?_
  intro b9
  refine Run.storeW 9 rfl rfl rfl ti46.siz rfl ?_
  refine Run.nil ?_
  refine Run.nT ?_
  refine Run.seq ?_
  refine Run.seq ?_
  refine Run.region ?_
  refine Run.op rfl rfl rfl (y_move rfl) ?_
  refine Run.op rfl rfl rfl (y_move rfl) ?_
  refine Run.op rfl rfl rfl (y_move rfl) ?_
  refine Run.op rfl rfl rfl (y_shl (r := ((2 ^ c : Nat) : Int)) rfl rfl (by omega) (shl_nat (by omega))) ?_
  refine Run.op rfl rfl rfl (q_call en60 rfl (rising_fn s f leaves ((2 ^ c : Nat) : Int))) ?_
  refine Run.nil ?_
  refine Run.nT ?_
  refine Run.block ?_
  refine q_nilRow 600 Kl 40 1 ?_
  refine Run.rangeX (S := fun _ : Value => sany) (No := fun v : Value => [.blk b9 46 [i64 f, i64 (h : Int), i64 (c : Int), sval (v)], Ent.rows Kl v 40 1 (lvp f leaves (h - c + 1))]) 700 [9, 600] [9, 600] [(9, sval (.pointer (some ⟨b9, 0, none⟩)))] rfl rfl en112 rfl (lf_one rfl) rfl (fun _ => rfl) ?_ ?_
  · intro fn tmps l D hsz hff
    refine rising1_fx s f hf l D b9 _ h c hc h18 leaves hlen hin fun j v hj => ?_
    refine RndX.of 501 [502, 9, 600] rfl [(9, sval (.pointer (some ⟨b9, 0, none⟩)))] hsz hff rfl ?_
    intro w1 F1
    refine Run.regionR ?_
    refine Run.listW (fun _ _ h => h) rfl ?_
    refine Run.op rfl rfl rfl (y_assign rfl) ?_
    refine Run.nil ?_
    refine Run.nT ?_
    refine Run.begin_ 501 rfl rfl ?_
    refine Run.blockR ?_
    refine Run.regionR ?_
    refine Run.listW (fun _ _ h => h) rfl ?_
    refine Run.op rfl rfl rfl (y_fieldP rfl Tryd.underlying46 rfl ti43.siz) ?_
    refine Run.op rfl rfl rfl (y_loadP 9 rfl rfl (rfl) Tryd.underlying43 rfl) ?_
    refine Run.op rfl rfl rfl (y_move rfl) ?_
    refine Run.op rfl rfl rfl (q_buildL (K := Kl) ([lev f j leaves]) Tryd.underlying43 ti40 rfl rfl rfl (.cons rfl (Part.one' rfl) rfl .nil) rfl) ?_
    refine q_append 600 rfl rfl rfl Tryd.underlying43 ti40 rfl rfl (fun _ => rfl) (by rw [lvp_len]; simp; omega) rfl ?_
    intro v52
    refine Run.op rfl rfl rfl (y_fieldP rfl Tryd.underlying46 rfl ti43.siz) ?_
    refine q_store1V 600 9 rfl rfl rfl rfl ti43 (Nat.le_of_ble_eq_true rfl) ?_
    refine Run.nil ?_
    refine Run.nB ?_
    refine Run.own (t := 600) rfl (show _ = Ent.rows Kl v52 40 1 (lvp f leaves (j + 1)) by rw [lvp_succ]) ?_
    exact Run.endRound v52 501 [501, 502, 9, 600] rfl rfl (fun _ _ => rfl)
  · intro D v
    refine Run.freezeInB (K := Kl) (l := lvp f leaves (h - c + 1)) (f0 := 3) 600 9 rfl rfl rfl ?_
    refine Run.nB ?_
    refine Run.nT ?_
    refine Run.seq ?_
    refine Run.region ?_
    refine Run.op rfl rfl rfl (y_loadPW 9 rfl rfl Tryd.underlying46 rfl ti46.siz) ?_
    refine Run.storeW 6 rfl rfl rfl ti46.siz rfl ?_
    refine Run.op rfl rfl rfl (y_assign rfl) ?_
    refine Run.nil ?_
    refine Run.nT ?_
    refine Run.ret ?_
    exact Run.finM 700 rfl rfl rfl rfl (Outs.two rfl (.agg 6 rfl rfl Tryd.underlying46 rfl ti46.siz) (.tmp rfl)) (fun _ _ h => h)

end

theorem same_fn (a b : Lv) (ha : a.length ≤ 1048576) : Fn s.env 18 [slc Kd a, slc Kd b] (sbool (decide (a = b))) := by
  refine Fn.of Tryd.func18 rfl Tryd.ntmps18 rfl ?_
  intro w0 F0
  refine Run.seq ?_
  refine Run.region ?_
  refine Run.op rfl rfl rfl (y_assign rfl) ?_
  refine Run.nil ?_
  refine Run.nT ?_
  refine Run.seq ?_
  refine Run.seq ?_
  refine Run.region ?_
  refine Run.op rfl rfl rfl (y_assign rfl) ?_
  refine Run.nil ?_
  refine Run.nT ?_
  refine Run.block ?_
  refine Run.loop (ι := Nat) (fun j => j ≤ a.length ∧ ∀ i, i < j → a.getD i (0, 0) = b.getD i (0, 0)) (fun j => a.length - j) (fun j => []) (fun j => [(0, slc Kd a), (1, slc Kd b), (5, i64 j)]) 0 ⟨by omega, fun i hi => by omega⟩ rfl (Incl.same (t := 0) rfl (Incl.same (t := 1) rfl (Incl.same (t := 5) rfl Incl.nil))) ?_
  rintro j ⟨hj, hI⟩
  change Run _ _ [] [(0, slc Kd a), (1, slc Kd b), (5, i64 j)] _
  refine Run.seq ?_
  refine Run.seq ?_
  refine Run.region ?_
  refine Run.op rfl rfl rfl (y_move rfl) ?_
  refine Run.op rfl rfl rfl (y_move rfl) ?_
  refine Run.op rfl rfl rfl (y_lenS rfl Tryd.underlying40) ?_
  refine Run.op rfl rfl rfl (y_lss rfl rfl) ?_
  refine Run.op rfl rfl rfl (y_move rfl) ?_
  refine Run.opC rfl rfl rfl rfl rfl (fun hg => Yields.incl (Incl.same (t := 0) rfl Incl.nil) (y_move rfl)) ?_
  refine Run.opC rfl rfl rfl rfl rfl (fun hg => Yields.incl (Incl.cond (t := 11) rfl hg Incl.nil) (y_lenS rfl Tryd.underlying40)) ?_
  refine Run.opC rfl rfl rfl rfl rfl (fun hg => Yields.incl (Incl.same (t := 1) rfl Incl.nil) (y_move rfl)) ?_
  refine Run.opC rfl rfl rfl rfl rfl (fun hg => Yields.incl (Incl.cond (t := 13) rfl hg Incl.nil) (y_lenS rfl Tryd.underlying40)) ?_
  refine Run.opC rfl rfl rfl rfl rfl (fun hg => Yields.incl (Incl.cond (t := 12) rfl hg (Incl.cond (t := 14) rfl hg Incl.nil)) (y_eql rfl rfl)) ?_
  refine Run.op rfl rfl rfl (y_pickAnd rfl rfl) ?_
  refine Run.nil ?_
  refine Run.nT ?_
  refine Run.cond rfl (fun hb => ?_) (fun hb => ?_)
  · rw [Bool.and_eq_true, decide_eq_true_eq, decide_eq_true_eq] at hb
    have hjl : j < a.length := by omega
    have hab : a.length = b.length := by omega
    refine Run.skip ?_
    refine Run.nT ?_
    refine Run.seq ?_
    refine Run.block ?_
    refine Run.seq ?_
    refine Run.weaken (Incl.same (t := 0) rfl (Incl.same (t := 1) rfl (Incl.same (t := 5) rfl Incl.nil))) ?_
    refine q_draw ?_ rfl
    refine Draw.step rfl rfl rfl (StepOk.op rfl rfl rfl (y_move rfl)) rfl ?_
    refine Draw.step rfl rfl rfl (StepOk.op rfl rfl rfl (y_move rfl)) rfl ?_
    refine Draw.step rfl rfl rfl (StepOk.op rfl rfl rfl (q_index j (a.getD j (0, 0)) rfl rfl Tryd.underlying40 ti42 (fun _ => rfl) (rfl) (getD_some _ hjl))) rfl ?_
    refine Draw.step rfl rfl rfl (StepOk.op rfl rfl rfl (y_loadW rfl Tryd.underlying42 rfl ti42.siz)) rfl ?_
    refine Draw.step rfl rfl rfl (StepOk.op rfl rfl rfl (y_move rfl)) rfl ?_
    refine Draw.step rfl rfl rfl (StepOk.op rfl rfl rfl (y_move rfl)) rfl ?_
    refine Draw.step rfl rfl rfl (StepOk.op rfl rfl rfl (q_index j (b.getD j (0, 0)) rfl rfl Tryd.underlying40 ti42 (fun _ => rfl) (rfl) (getD_some _ (by omega)))) rfl ?_
    refine Draw.step rfl rfl rfl (StepOk.op rfl rfl rfl (y_loadW rfl Tryd.underlying42 rfl ti42.siz)) rfl ?_
    refine Draw.step rfl rfl rfl (StepOk.op rfl rfl rfl (y_neD rfl rfl rfl)) rfl ?_
    refine Draw.tail (m := 9) rfl rfl rfl ?_
    refine Run.nil ?_
    refine Run.nT ?_
    refine Run.cond rfl (fun hb => ?_) (fun hb => ?_)
    · have hne : a.getD j (0, 0) ≠ b.getD j (0, 0) := by simpa using hb
      refine Run.seq ?_
      refine Run.region ?_
      refine Run.op rfl rfl rfl (y_assign rfl) ?_
      refine Run.nil ?_
      refine Run.nT ?_
      refine Run.ret ?_
      refine Run.rB ?_
      refine Run.rT ?_
      refine Run.rT ?_
      refine Run.rB ?_
      refine Run.rT ?_
      exact Run.fin1 rfl rfl rfl (.tmp rfl) (fun _ _ h => by rw [decide_eq_false (fun e => hne (by rw [e]))]; exact h)
    · have heq : a.getD j (0, 0) = b.getD j (0, 0) := by simpa using hb
      refine Run.skip ?_
      refine Run.nB ?_
      refine Run.nT ?_
      refine Run.region ?_
      refine Run.op rfl rfl rfl (y_move rfl) ?_
      refine Run.op rfl rfl rfl (y_add rfl rfl (by first | exact wI_in (by omega) | rfl)) ?_
      refine Run.op rfl rfl rfl (y_assign rfl) ?_
      refine Run.nil ?_
      refine Run.nT ?_
      refine Run.round (j + 1) ?_ ?_ ?_ ?_
      · refine ⟨by omega, fun i hi => ?_⟩
        by_cases e : i = j
        · subst e; exact heq
        · exact hI i (by omega)
      · show a.length - (j + 1) < a.length - j; omega
      · rfl
      · exact (Incl.same (t := 0) rfl (Incl.same (t := 1) rfl (Incl.int (t := 5) rfl (by omega) Incl.nil)))
  · have hne : ¬ (j < a.length ∧ a.length = b.length) := fun h => by rw [decide_eq_true (by omega), decide_eq_true (by omega)] at hb; cases hb
    refine Run.exit ?_
    refine Run.eT ?_
    refine Run.eT ?_
    refine Run.eB ?_
    refine Run.nT ?_
    refine Run.seq ?_
    refine Run.region ?_
    refine Run.op rfl rfl rfl (y_move rfl) ?_
    refine Run.op rfl rfl rfl (y_lenS rfl Tryd.underlying40) ?_
    refine Run.op rfl rfl rfl (y_move rfl) ?_
    refine Run.op rfl rfl rfl (y_lenS rfl Tryd.underlying40) ?_
    refine Run.op rfl rfl rfl (y_eql rfl rfl) ?_
    refine Run.op rfl rfl rfl (y_assign rfl) ?_
    refine Run.nil ?_
    refine Run.nT ?_
    refine Run.ret ?_
    have hfin : decide (a = b) = decide ((a.length : Int) = (b.length : Int)) := by
      rw [decide_eq_decide]
      exact ⟨fun e => by rw [e], fun e => same_iff (by omega) fun i hi => hI i (by omega)⟩
    exact Run.fin1 rfl rfl rfl (.tmp rfl) (fun _ _ h => by rw [hfin]; exact h)

section
variable [hT : HasT7 s]

theorem climbed_fn (f : Int) (hf : fv f = true) (i : Nat) (hi : i < 4611686018427387904) (x : Dg) (hx : inD (fP f) x) (l : Lv) (hl : l.length ≤ 18) (hi2 : inL (fP f) l) : Fn s.env 19 [i64 f, i64 i, dig x, slc Kd l] (dig (climb f i x l)) := by
  refine Fn.of Tryd.func19 rfl Tryd.ntmps19 rfl ?_
  intro w0 F0
  refine Run.seq ?_
  refine Run.region ?_
  refine Run.boxA rfl rfl ?_
  intro b6
  refine q_alloc ti42 rfl rfl ?_
  intro b8
  refine Run.nil ?_
  refine Run.nT ?_
  refine Run.seq ?_
  refine Run.seq ?_
  refine Run.region ?_
  refine Run.op rfl rfl rfl (y_assign rfl) ?_
  refine Run.nil ?_
  refine Run.nT ?_
  refine Run.block ?_
  refine Run.loop (ι := Nat) (fun j => j ≤ l.length) (fun j => l.length - j) (fun j => [(8, .blk b8 42 (zeros (.agg #[.int .u64 0, .int .u64 0]))), (6, .blk b6 42 (Kd (clm f i x l j)))]) (fun j => [(0, i64 f), (1, i64 i), (3, slc Kd l), (6, sval (.pointer (some ⟨b6, 0, none⟩))), (8, sval (.pointer (some ⟨b8, 0, none⟩))), (9, i64 j)]) 0 (by omega) (by rw [clm_zero] <;> rfl) (Incl.same (t := 0) rfl (Incl.same (t := 1) rfl (Incl.same (t := 3) rfl (Incl.same (t := 6) rfl (Incl.same (t := 8) rfl (Incl.same (t := 9) rfl Incl.nil)))))) ?_
  rintro j hj
  change Run _ _ [(8, .blk b8 42 (zeros (.agg #[.int .u64 0, .int .u64 0]))), (6, .blk b6 42 (Kd (clm f i x l j)))] [(0, i64 f), (1, i64 i), (3, slc Kd l), (6, sval (.pointer (some ⟨b6, 0, none⟩))), (8, sval (.pointer (some ⟨b8, 0, none⟩))), (9, i64 j)] _
  have hd : i / 2 ^ j ≤ i := Nat.div_le_self _ _
  refine Run.seq ?_
  refine Run.seq ?_
  refine Run.region ?_
  refine Run.op rfl rfl rfl (y_move rfl) ?_
  refine Run.op rfl rfl rfl (y_move rfl) ?_
  refine Run.op rfl rfl rfl (y_lenS rfl Tryd.underlying40) ?_
  refine Run.op rfl rfl rfl (y_lss rfl rfl) ?_
  refine Run.nil ?_
  refine Run.nT ?_
  refine Run.cond rfl (fun hb => ?_) (fun hb => ?_)
  · have hjl : j < l.length := by have := of_decide_eq_true hb; omega
    refine Run.skip ?_
    refine Run.nT ?_
    refine Run.seq ?_
    refine Run.block ?_
    refine Run.seq ?_
    refine Run.region ?_
    refine Run.op rfl rfl rfl (y_move rfl) ?_
    refine Run.op rfl rfl rfl (y_move rfl) ?_
    refine Run.op rfl rfl rfl (y_shr rfl rfl (by omega) (shr_nat (by omega))) ?_
    refine Run.op rfl rfl rfl (y_and rfl rfl (and_one (by omega))) ?_
    refine Run.op rfl rfl rfl (y_eql rfl rfl) ?_
    refine Run.nil ?_
    refine Run.nT ?_
    refine Run.cond rfl (fun hb => ?_) (fun hb => ?_)
    · have ho : ord (i / 2 ^ j) (clm f i x l j) (l.getD j (0, 0)) = (l.getD j (0, 0), clm f i x l j) := by unfold ord; rw [if_pos (by have := of_decide_eq_true hb; omega)]
      have hs : nd f (l.getD j (0, 0)) (clm f i x l j) = stp f (i / 2 ^ j) (clm f i x l j) (l.getD j (0, 0)) := by unfold stp; rw [ho]
      refine Run.weaken (Incl.same (t := 0) rfl (Incl.same (t := 1) rfl (Incl.same (t := 3) rfl (Incl.same (t := 6) rfl (Incl.same (t := 8) rfl (Incl.same (t := 9) rfl Incl.nil)))))) ?_
      refine q_draw ?_ rfl
      refine Draw.step rfl rfl rfl (StepOk.op rfl rfl rfl (y_move rfl)) rfl ?_
      refine Draw.step rfl rfl rfl (StepOk.op rfl rfl rfl (y_move rfl)) rfl ?_
      refine Draw.step rfl rfl rfl (StepOk.op rfl rfl rfl (y_move rfl)) rfl ?_
      refine Draw.step rfl rfl rfl (StepOk.op rfl rfl rfl (q_index j (l.getD j (0, 0)) rfl rfl Tryd.underlying40 ti42 (fun _ => rfl) (rfl) (getD_some _ hjl))) rfl ?_
      refine Draw.step rfl rfl rfl (StepOk.op rfl rfl rfl (y_loadW rfl Tryd.underlying42 rfl ti42.siz)) rfl ?_
      refine Draw.step rfl rfl rfl (StepOk.op rfl rfl rfl (y_loadPW 6 rfl rfl Tryd.underlying42 rfl ti42.siz)) rfl ?_
      refine Draw.step rfl rfl rfl (StepOk.op rfl rfl rfl (q_call en23 rfl (node07_fn s f hf (l.getD j (0, 0)) (clm f i x l j) (inL_get hi2 hjl) (clm_in hf hx j)))) rfl ?_
      refine Draw.tail (m := 7) rfl rfl rfl ?_
      refine Run.storeW 6 rfl rfl rfl ti42.siz rfl ?_
      refine Run.nil ?_
      refine Run.nB ?_
      refine Run.nT ?_
      refine Run.region ?_
      refine Run.op rfl rfl rfl (y_move rfl) ?_
      refine Run.op rfl rfl rfl (y_add rfl rfl (by first | exact wI_in (by omega) | rfl)) ?_
      refine Run.op rfl rfl rfl (y_assign rfl) ?_
      refine Run.nil ?_
      refine Run.nT ?_
      refine Run.round (j + 1) ?_ ?_ ?_ ?_
      · show j + 1 ≤ l.length; omega
      · show l.length - (j + 1) < l.length - j; omega
      · rw [clm_succ hjl, ← hs]
        rfl
      · exact (Incl.same (t := 0) rfl (Incl.same (t := 1) rfl (Incl.same (t := 3) rfl (Incl.same (t := 6) rfl (Incl.same (t := 8) rfl (Incl.int (t := 9) rfl (by omega) Incl.nil))))))
    · have ho : ord (i / 2 ^ j) (clm f i x l j) (l.getD j (0, 0)) = (clm f i x l j, l.getD j (0, 0)) := by unfold ord; rw [if_neg (by have := of_decide_eq_false hb; omega)]
      have hs : nd f (clm f i x l j) (l.getD j (0, 0)) = stp f (i / 2 ^ j) (clm f i x l j) (l.getD j (0, 0)) := by unfold stp; rw [ho]
      refine Run.weaken (Incl.same (t := 0) rfl (Incl.same (t := 1) rfl (Incl.same (t := 3) rfl (Incl.same (t := 6) rfl (Incl.same (t := 8) rfl (Incl.same (t := 9) rfl Incl.nil)))))) ?_
      refine q_draw ?_ rfl
      refine Draw.step rfl rfl rfl (StepOk.op rfl rfl rfl (y_move rfl)) rfl ?_
      refine Draw.step rfl rfl rfl (StepOk.op rfl rfl rfl (y_loadPW 6 rfl rfl Tryd.underlying42 rfl ti42.siz)) rfl ?_
      refine Draw.step rfl rfl rfl (StepOk.op rfl rfl rfl (y_move rfl)) rfl ?_
      refine Draw.step rfl rfl rfl (StepOk.op rfl rfl rfl (y_move rfl)) rfl ?_
      refine Draw.step rfl rfl rfl (StepOk.op rfl rfl rfl (q_index j (l.getD j (0, 0)) rfl rfl Tryd.underlying40 ti42 (fun _ => rfl) (rfl) (getD_some _ hjl))) rfl ?_
      refine Draw.step rfl rfl rfl (StepOk.op rfl rfl rfl (y_loadW rfl Tryd.underlying42 rfl ti42.siz)) rfl ?_
      refine Draw.step rfl rfl rfl (StepOk.op rfl rfl rfl (q_call en23 rfl (node07_fn s f hf (clm f i x l j) (l.getD j (0, 0)) (clm_in hf hx j) (inL_get hi2 hjl)))) rfl ?_
      refine Draw.tail (m := 7) rfl rfl rfl ?_
      refine Run.storeW 6 rfl rfl rfl ti42.siz rfl ?_
      refine Run.nil ?_
      refine Run.nB ?_
      refine Run.nT ?_
      refine Run.region ?_
      refine Run.op rfl rfl rfl (y_move rfl) ?_
      refine Run.op rfl rfl rfl (y_add rfl rfl (by first | exact wI_in (by omega) | rfl)) ?_
      refine Run.op rfl rfl rfl (y_assign rfl) ?_
      refine Run.nil ?_
      refine Run.nT ?_
      refine Run.round (j + 1) ?_ ?_ ?_ ?_
      · show j + 1 ≤ l.length; omega
      · show l.length - (j + 1) < l.length - j; omega
      · rw [clm_succ hjl, ← hs]
        rfl
      · exact (Incl.same (t := 0) rfl (Incl.same (t := 1) rfl (Incl.same (t := 3) rfl (Incl.same (t := 6) rfl (Incl.same (t := 8) rfl (Incl.int (t := 9) rfl (by omega) Incl.nil))))))
  · obtain rfl : j = l.length := by have := of_decide_eq_false hb; omega
    refine Run.exit ?_
    refine Run.eT ?_
    refine Run.eT ?_
    refine Run.eB ?_
    refine Run.nT ?_
    refine Run.seq ?_
    refine Run.region ?_
    refine Run.op rfl rfl rfl (y_loadPW 6 rfl rfl Tryd.underlying42 rfl ti42.siz) ?_
    refine Run.storeW 8 rfl rfl rfl ti42.siz rfl ?_
    refine Run.nil ?_
    refine Run.nT ?_
    refine Run.ret ?_
    exact Run.fin1 rfl rfl rfl (.agg 8 rfl rfl Tryd.underlying42 rfl ti42.siz) (fun _ _ h => by rw [← clm_all]; exact h)

theorem levels_fn (f : Int) (hf : fv f = true) (h c : Nat) (hc : c ≤ h) (h18 : h ≤ 18) (leaves : Lv) (hlen : leaves.length = 2 ^ h) (hin : inL (fP f) leaves) : Fn s.env 13 [i64 f, slc Kd leaves, i64 c] (slc Kl (lvls f (h - c) leaves)) := by
  have hp18 := pow18 h18
  refine Fn.of Tryd.func13 rfl Tryd.ntmps13 rfl ?_
  intro w0 F0
  refine Run.seq ?_
  refine Run.region ?_
  refine Run.op rfl rfl rfl (y_assign rfl) ?_
  refine Run.nil ?_
  refine Run.nT ?_
  refine Run.seq ?_
  refine Run.region ?_
  refine Run.op rfl rfl rfl (y_move rfl) ?_
  refine q_buildR (K := Kl) ([leaves]) Tryd.underlying43 ti40 rfl rfl rfl rfl (.cons rfl (Part.one' rfl) rfl .nil) (fun _ => rfl) rfl rfl ?_
  intro v11
  refine Run.op rfl rfl rfl (y_assign rfl) ?_
  refine Run.nil ?_
  refine Run.nT ?_
  refine Run.seq ?_
  refine Run.block ?_
  refine Run.loop (ι := Nat × Value) (fun ⟨j, v⟩ => j ≤ h - c) (fun ⟨j, v⟩ => h - c - j) (fun ⟨j, v⟩ => [(11, Ent.rows Kl v 40 1 (lvp f leaves (j + 1)))]) (fun ⟨j, v⟩ => [(0, i64 f), (1, slc Kd (lev f j leaves)), (2, i64 c), (7, sval v)]) (0, v11) (by omega) rfl (Incl.same (t := 0) rfl (Incl.same (t := 1) rfl (Incl.same (t := 2) rfl (Incl.same (t := 7) rfl Incl.nil)))) ?_
  rintro ⟨j, v⟩ hj
  change Run _ _ [(11, Ent.rows Kl v 40 1 (lvp f leaves (j + 1)))] [(0, i64 f), (1, slc Kd (lev f j leaves)), (2, i64 c), (7, sval v)] _
  have hll : (lev f j leaves).length = 2 ^ (h - j) := lev_len hlen (by omega)
  have hjb : (lev f j leaves).length ≤ 262144 := by rw [hll]; exact pow18 (by omega)
  have hji : inL (fP f) (lev f j leaves) := lev_in hf hin j
  have hpl := pairs_len f (lev f j leaves)
  refine Run.seq ?_
  refine Run.seq ?_
  refine Run.region ?_
  refine Run.op rfl rfl rfl (y_move rfl) ?_
  refine Run.op rfl rfl rfl (y_lenS rfl Tryd.underlying40) ?_
  refine Run.op rfl rfl rfl (y_move rfl) ?_
  refine Run.op rfl rfl rfl (y_shl (r := ((2 ^ c : Nat) : Int)) rfl rfl (by omega) (shl_nat (by omega))) ?_
  refine Run.op rfl rfl rfl (y_gtr rfl rfl) ?_
  refine Run.nil ?_
  refine Run.nT ?_
  refine Run.cond rfl (fun hb => ?_) (fun hb => ?_)
  · have hjc : c < h - j := pow_lt_ (by have := of_decide_eq_true hb; rw [hll] at this; exact Int.ofNat_lt.1 this)
    refine Run.skip ?_
    refine Run.nT ?_
    refine Run.block ?_
    refine Run.seq ?_
    refine Run.region ?_
    refine Run.op rfl rfl rfl (y_assign rfl) ?_
    refine q_nilRow 8 (Kd) 42 2 ?_
    refine Run.nil ?_
    refine Run.nT ?_
    refine Run.seq ?_
    refine Run.seq ?_
    refine Run.region ?_
    refine Run.op rfl rfl rfl (y_assign rfl) ?_
    refine Run.nil ?_
    refine Run.nT ?_
    refine Run.block ?_
    refine Run.loop (ι := Nat × Value) (fun ⟨m, u⟩ => m ≤ (pairs f (lev f j leaves)).length) (fun ⟨m, u⟩ => (pairs f (lev f j leaves)).length - m) (fun ⟨m, u⟩ => [(8, Ent.rows Kd u 42 2 ((pairs f (lev f j leaves)).take m)), (11, Ent.rows Kl v 40 1 (lvp f leaves (j + 1)))]) (fun ⟨m, u⟩ => [(0, i64 f), (1, slc Kd (lev f j leaves)), (2, i64 c), (7, sval v), (8, sval u), (9, i64 ((2 * m : Nat) : Int))]) (0, .slice none 0 0) (by omega) rfl (Incl.same (t := 0) rfl (Incl.same (t := 1) rfl (Incl.same (t := 2) rfl (Incl.same (t := 7) rfl (Incl.same (t := 8) rfl (Incl.same (t := 9) rfl Incl.nil)))))) ?_
    rintro ⟨m, u⟩ hm
    change Run _ _ [(8, Ent.rows Kd u 42 2 ((pairs f (lev f j leaves)).take m)), (11, Ent.rows Kl v 40 1 (lvp f leaves (j + 1)))] [(0, i64 f), (1, slc Kd (lev f j leaves)), (2, i64 c), (7, sval v), (8, sval u), (9, i64 ((2 * m : Nat) : Int))] _
    refine Run.seq ?_
    refine Run.seq ?_
    refine Run.region ?_
    refine Run.op rfl rfl rfl (y_move rfl) ?_
    refine Run.op rfl rfl rfl (y_add (r := ((2 * m + 1 : Nat) : Int)) rfl rfl (add1_nat (by omega))) ?_
    refine Run.op rfl rfl rfl (y_move rfl) ?_
    refine Run.op rfl rfl rfl (y_lenS rfl Tryd.underlying40) ?_
    refine Run.op rfl rfl rfl (y_lss rfl rfl) ?_
    refine Run.nil ?_
    refine Run.nT ?_
    refine Run.cond rfl (fun hb => ?_) (fun hb => ?_)
    · have hmN : m < (pairs f (lev f j leaves)).length := by have := of_decide_eq_true hb; omega
      refine Run.skip ?_
      refine Run.nT ?_
      refine Run.seq ?_
      refine Run.block ?_
      refine Run.weaken (Incl.same (t := 0) rfl (Incl.same (t := 1) rfl (Incl.same (t := 2) rfl (Incl.same (t := 7) rfl (Incl.same (t := 8) rfl (Incl.same (t := 9) rfl Incl.nil)))))) ?_
      refine q_draw ?_ rfl
      refine Draw.step rfl rfl rfl (StepOk.op rfl rfl rfl (y_move rfl)) rfl ?_
      refine Draw.step rfl rfl rfl (StepOk.op rfl rfl rfl (y_move rfl)) rfl ?_
      refine Draw.step rfl rfl rfl (StepOk.op rfl rfl rfl (y_move rfl)) rfl ?_
      refine Draw.step rfl rfl rfl (StepOk.op rfl rfl rfl (y_move rfl)) rfl ?_
      refine Draw.step rfl rfl rfl (StepOk.op rfl rfl rfl (q_index (2 * m) ((lev f j leaves).getD (2 * m) (0, 0)) rfl rfl Tryd.underlying40 ti42 (fun _ => rfl) (rfl) (getD_some _ (by omega)))) rfl ?_
      refine Draw.step rfl rfl rfl (StepOk.op rfl rfl rfl (y_loadW rfl Tryd.underlying42 rfl ti42.siz)) rfl ?_
      refine Draw.step rfl rfl rfl (StepOk.op rfl rfl rfl (y_move rfl)) rfl ?_
      refine Draw.step rfl rfl rfl (StepOk.op rfl rfl rfl (y_move rfl)) rfl ?_
      refine Draw.step rfl rfl rfl (StepOk.op rfl rfl rfl (y_add (r := ((2 * m + 1 : Nat) : Int)) rfl rfl (add1_nat (by omega)))) rfl ?_
      refine Draw.step rfl rfl rfl (StepOk.op rfl rfl rfl (q_index (2 * m + 1) ((lev f j leaves).getD (2 * m + 1) (0, 0)) rfl rfl Tryd.underlying40 ti42 (fun _ => rfl) (rfl) (getD_some _ (by omega)))) rfl ?_
      refine Draw.step rfl rfl rfl (StepOk.op rfl rfl rfl (y_loadW rfl Tryd.underlying42 rfl ti42.siz)) rfl ?_
      refine Draw.step rfl rfl rfl (StepOk.op rfl rfl rfl (q_call en23 rfl (node07_fn s f hf ((lev f j leaves).getD (2 * m) (0, 0)) ((lev f j leaves).getD (2 * m + 1) (0, 0)) (inL_get hji (by omega)) (inL_get hji (by omega))))) rfl ?_
      refine Draw.step rfl rfl rfl (StepOk.op rfl rfl rfl (q_buildL (K := Kd) ([nd f ((lev f j leaves).getD (2 * m) (0, 0)) ((lev f j leaves).getD (2 * m + 1) (0, 0))]) Tryd.underlying40 ti42 rfl rfl rfl (.cons rfl (Part.agg rfl) rfl .nil) rfl)) rfl ?_
      refine Draw.tail (m := 13) rfl rfl rfl ?_
      refine q_append 8 rfl rfl rfl Tryd.underlying40 ti42 rfl rfl (fun _ => rfl) (by simp; omega) rfl ?_
      intro v37
      refine Run.op rfl rfl rfl (y_assign rfl) ?_
      refine Run.nil ?_
      refine Run.nB ?_
      refine Run.nT ?_
      refine Run.region ?_
      refine Run.op rfl rfl rfl (y_move rfl) ?_
      refine Run.op rfl rfl rfl (y_add rfl rfl (by first | exact wI_in (by omega) | rfl)) ?_
      refine Run.op rfl rfl rfl (y_assign rfl) ?_
      refine Run.nil ?_
      refine Run.nT ?_
      refine Run.round (m + 1, v37) ?_ ?_ ?_ ?_
      · show m + 1 ≤ (pairs f (lev f j leaves)).length; omega
      · show (pairs f (lev f j leaves)).length - (m + 1) < (pairs f (lev f j leaves)).length - m; omega
      · dsimp only
        rw [take_snoc hmN, pairs_get (by omega)]
        rfl
      · exact (Incl.same (t := 0) rfl (Incl.same (t := 1) rfl (Incl.same (t := 2) rfl (Incl.same (t := 7) rfl (Incl.same (t := 8) rfl (Incl.int (t := 9) rfl (by omega) Incl.nil))))))
    · obtain rfl : m = (pairs f (lev f j leaves)).length := by have := of_decide_eq_false hb; omega
      refine Run.exit ?_
      refine Run.eT ?_
      refine Run.eT ?_
      refine Run.eB ?_
      refine Run.nT ?_
      refine Run.seq ?_
      refine Run.region ?_
      refine Run.op rfl rfl rfl (y_move rfl) ?_
      refine Run.op rfl rfl rfl (y_assign rfl) ?_
      refine Run.own (t := 8) rfl (row_take (v := u)) ?_
      refine Run.freeze (K := Kd) (l := lev f (j + 1) leaves) 8 1 rfl rfl ?_
      refine Run.nil ?_
      refine Run.nT ?_
      refine Run.region ?_
      refine Run.op rfl rfl rfl (y_move rfl) ?_
      refine Run.op rfl rfl rfl (y_move rfl) ?_
      refine Run.op rfl rfl rfl (q_buildL (K := Kl) ([lev f (j + 1) leaves]) Tryd.underlying43 ti40 rfl rfl rfl (.cons rfl (Part.one' rfl) rfl .nil) rfl) ?_
      refine q_append 11 rfl rfl rfl Tryd.underlying43 ti40 rfl rfl (fun _ => rfl) (by rw [lvp_len]; simp; omega) rfl ?_
      intro v42
      refine Run.op rfl rfl rfl (y_assign rfl) ?_
      refine Run.nil ?_
      refine Run.nB ?_
      refine Run.nT ?_
      refine Run.round (j + 1, v42) ?_ ?_ ?_ ?_
      · show j + 1 ≤ h - c; omega
      · show h - c - (j + 1) < h - c - j; omega
      · dsimp only
        rw [lvp_succ]
        rfl
      · exact (Incl.same (t := 0) rfl (Incl.same (t := 1) rfl (Incl.same (t := 2) rfl (Incl.same (t := 7) rfl Incl.nil))))
  · obtain rfl : j = h - c := by have h1 : h - j ≤ c := pow_le_ (by have := of_decide_eq_false hb; rw [hll] at this; exact Nat.le_of_not_lt fun h => this (Int.ofNat_lt.2 h)); omega
    refine Run.exit ?_
    refine Run.eT ?_
    refine Run.eT ?_
    refine Run.eB ?_
    refine Run.nT ?_
    refine Run.seq ?_
    refine Run.region ?_
    refine Run.op rfl rfl rfl (y_move rfl) ?_
    refine Run.op rfl rfl rfl (y_assign rfl) ?_
    refine Run.nil ?_
    refine Run.nT ?_
    refine Run.ret ?_
    refine Run.freeze (K := Kl) (l := lvp f leaves (h - c + 1)) 11 6 rfl rfl ?_
    exact Run.fin1 rfl rfl rfl (.tmp rfl) (fun _ _ h => h)

end
section
variable [hF : HasF s]

theorem grown_fn (f : Int) (h c : Nat) (ls : List Lv) (H : okT f h c ls) : Fn s.env 15 [tre f h c ls, slc Kl ls] (sbool true) := by
  have hf := H.fv
  have hc := H.hc
  have h18 := H.h18
  have hlen := H.len
  have hp18 := pow18 h18
  refine Fn.of Tryd.func15 rfl Tryd.ntmps15 rfl ?_
  intro w0 F0
  refine Run.seq ?_
  refine Run.region ?_
  refine Run.boxA rfl rfl ?_
  intro b2
  refine Run.op rfl rfl rfl (y_assign rfl) ?_
  refine Run.nil ?_
  refine Run.nT ?_
  refine Run.seq ?_
  refine Run.seq ?_
  refine Run.region ?_
  refine Run.op rfl rfl rfl (y_assign rfl) ?_
  refine Run.nil ?_
  refine Run.nT ?_
  refine Run.block ?_
  refine Run.loop (ι := Nat) (fun j => j ≤ ls.length) (fun j => ls.length - j) (fun j => [(2, .blk b2 46 (Kt f h c ls))]) (fun j => [(1, slc Kl ls), (2, sval (.pointer (some ⟨b2, 0, none⟩))), (5, i64 j)]) 0 (by omega) rfl (Incl.same (t := 1) rfl (Incl.same (t := 2) rfl (Incl.same (t := 5) rfl Incl.nil))) ?_
  rintro j hj
  change Run _ _ [(2, .blk b2 46 (Kt f h c ls))] [(1, slc Kl ls), (2, sval (.pointer (some ⟨b2, 0, none⟩))), (5, i64 j)] _
  refine Run.seq ?_
  refine Run.seq ?_
  refine Run.region ?_
  refine Run.op rfl rfl rfl (y_move rfl) ?_
  refine Run.op rfl rfl rfl (y_move rfl) ?_
  refine Run.op rfl rfl rfl (y_lenS rfl Tryd.underlying43) ?_
  refine Run.op rfl rfl rfl (y_lss rfl rfl) ?_
  refine Run.op rfl rfl rfl (y_move rfl) ?_
  refine Run.opC rfl rfl rfl rfl rfl (fun hg => Yields.incl (Incl.same (t := 1) rfl Incl.nil) (y_move rfl)) ?_
  refine Run.opC rfl rfl rfl rfl rfl (fun hg => Yields.incl (Incl.cond (t := 11) rfl hg Incl.nil) (y_lenS rfl Tryd.underlying43)) ?_
  refine Run.opC rfl rfl rfl rfl rfl (fun hg => Yields.incl (Incl.same (t := 2) rfl Incl.nil) (y_fieldP rfl Tryd.underlying46 rfl ti43.siz)) ?_
  refine Run.opC rfl rfl rfl rfl rfl (fun hg => Yields.incl (Incl.cond (t := 13) rfl hg Incl.nil) (y_loadP 2 rfl rfl (rfl) Tryd.underlying43 rfl)) ?_
  refine Run.opC rfl rfl rfl rfl rfl (fun hg => Yields.incl (Incl.cond (t := 14) rfl hg Incl.nil) (y_lenS rfl Tryd.underlying43)) ?_
  refine Run.opC rfl rfl rfl rfl rfl (fun hg => Yields.incl (Incl.cond (t := 12) rfl hg (Incl.cond (t := 15) rfl hg Incl.nil)) (y_eql rfl rfl)) ?_
  refine Run.op rfl rfl rfl (y_pickAnd rfl rfl) ?_
  refine Run.nil ?_
  refine Run.nT ?_
  refine Run.cond rfl (fun hb => ?_) (fun hb => ?_)
  · have hjl : j < ls.length := by rw [Bool.and_eq_true, decide_eq_true_eq] at hb; omega
    have hbd := H.bound hjl
    refine Run.skip ?_
    refine Run.nT ?_
    refine Run.seq ?_
    refine Run.block ?_
    refine Run.seq ?_
    refine Run.weaken (Incl.same (t := 1) rfl (Incl.same (t := 2) rfl (Incl.same (t := 5) rfl Incl.nil))) ?_
    refine q_draw ?_ rfl
    refine Draw.step rfl rfl rfl (StepOk.op rfl rfl rfl (y_fieldP rfl Tryd.underlying46 rfl ti43.siz)) rfl ?_
    refine Draw.step rfl rfl rfl (StepOk.op rfl rfl rfl (y_loadP 2 rfl rfl (rfl) Tryd.underlying43 rfl)) rfl ?_
    refine Draw.step rfl rfl rfl (StepOk.op rfl rfl rfl (y_move rfl)) rfl ?_
    refine Draw.step rfl rfl rfl (StepOk.op rfl rfl rfl (q_index j (ls.getD j []) rfl rfl Tryd.underlying43 ti40 (fun _ => rfl) (rfl) (getD_some _ hjl))) rfl ?_
    refine Draw.step rfl rfl rfl (StepOk.op rfl rfl rfl (y_load rfl Tryd.underlying40 rfl)) rfl ?_
    refine Draw.step rfl rfl rfl (StepOk.op rfl rfl rfl (y_move rfl)) rfl ?_
    refine Draw.step rfl rfl rfl (StepOk.op rfl rfl rfl (y_move rfl)) rfl ?_
    refine Draw.step rfl rfl rfl (StepOk.op rfl rfl rfl (q_index j (ls.getD j []) rfl rfl Tryd.underlying43 ti40 (fun _ => rfl) (rfl) (getD_some _ hjl))) rfl ?_
    refine Draw.step rfl rfl rfl (StepOk.op rfl rfl rfl (y_load rfl Tryd.underlying40 rfl)) rfl ?_
    refine Draw.step rfl rfl rfl (StepOk.op rfl rfl rfl (Yields.bool (c := true) (q_call en18 rfl (same_fn s (ls.getD j []) (ls.getD j []) (by omega))) (decide_eq_true rfl))) rfl ?_
    refine Draw.step rfl rfl rfl (StepOk.op rfl rfl rfl (y_not rfl)) rfl ?_
    refine Draw.tail (m := 11) rfl rfl rfl ?_
    refine Run.nil ?_
    refine Run.nT ?_
    refine Run.cond0 rfl ?_
    refine Run.skip ?_
    refine Run.nB ?_
    refine Run.nT ?_
    refine Run.region ?_
    refine Run.op rfl rfl rfl (y_move rfl) ?_
    refine Run.op rfl rfl rfl (y_add rfl rfl (by first | exact wI_in (by omega) | rfl)) ?_
    refine Run.op rfl rfl rfl (y_assign rfl) ?_
    refine Run.nil ?_
    refine Run.nT ?_
    refine Run.round (j + 1) ?_ ?_ ?_ ?_
    · show j + 1 ≤ ls.length; omega
    · show ls.length - (j + 1) < ls.length - j; omega
    · rfl
    · exact (Incl.same (t := 1) rfl (Incl.same (t := 2) rfl (Incl.int (t := 5) rfl (by omega) Incl.nil)))
  · obtain rfl : j = ls.length := by refine Nat.le_antisymm hj (Nat.le_of_not_lt fun h => ?_); rw [decide_eq_true (by omega), decide_eq_true rfl] at hb; cases hb
    refine Run.exit ?_
    refine Run.eT ?_
    refine Run.eT ?_
    refine Run.eB ?_
    refine Run.nT ?_
    refine Run.seq ?_
    refine Run.weaken (Incl.same (t := 1) rfl (Incl.same (t := 2) rfl (Incl.same (t := 5) rfl Incl.nil))) ?_
    refine q_draw ?_ rfl
    refine Draw.step rfl rfl rfl (StepOk.op rfl rfl rfl (y_move rfl)) rfl ?_
    refine Draw.step rfl rfl rfl (StepOk.op rfl rfl rfl (y_lenS rfl Tryd.underlying43)) rfl ?_
    refine Draw.step rfl rfl rfl (StepOk.op rfl rfl rfl (y_fieldP rfl Tryd.underlying46 rfl ti43.siz)) rfl ?_
    refine Draw.step rfl rfl rfl (StepOk.op rfl rfl rfl (y_loadP 2 rfl rfl (rfl) Tryd.underlying43 rfl)) rfl ?_
    refine Draw.step rfl rfl rfl (StepOk.op rfl rfl rfl (y_lenS rfl Tryd.underlying43)) rfl ?_
    refine Draw.step rfl rfl rfl (StepOk.op rfl rfl rfl (Yields.bool (c := true) (y_eql rfl rfl) (decide_eq_true rfl))) rfl ?_
    refine Draw.step rfl rfl rfl (StepOk.op rfl rfl rfl (y_move rfl)) rfl ?_
    refine Draw.step rfl rfl rfl (StepOk.opG rfl rfl rfl rfl rfl (y_loadPW 2 rfl rfl Tryd.underlying46 rfl ti46.siz)) rfl ?_
    refine Draw.step rfl rfl rfl (StepOk.opG rfl rfl rfl rfl rfl (q_call en24 rfl (cap_fn s f h c ls H))) rfl ?_
    refine Draw.step rfl rfl rfl (StepOk.opG rfl rfl rfl rfl rfl (y_move rfl)) rfl ?_
    refine Draw.step rfl rfl rfl (StepOk.opG rfl rfl rfl rfl rfl (y_move rfl)) rfl ?_
    refine Draw.step rfl rfl rfl (StepOk.opG rfl rfl rfl rfl rfl (y_lenS rfl Tryd.underlying43)) rfl ?_
    refine Draw.step rfl rfl rfl (StepOk.opG rfl rfl rfl rfl rfl (y_sub (r := ((h - c : Nat) : Int)) rfl rfl (by rw [hlen, wI_in (by omega)]; omega))) rfl ?_
    refine Draw.step rfl rfl rfl (StepOk.opG rfl rfl rfl rfl rfl (q_index (h - c) (ls.getD (h - c) []) rfl rfl Tryd.underlying43 ti40 (fun _ => rfl) (rfl) (getD_some _ (by omega)))) rfl ?_
    refine Draw.step rfl rfl rfl (StepOk.opG rfl rfl rfl rfl rfl (y_load rfl Tryd.underlying40 rfl)) rfl ?_
    refine Draw.step rfl rfl rfl (StepOk.opG rfl rfl rfl rfl rfl (Yields.bool (c := true) (q_call en18 rfl (same_fn s (ls.getD (h - c) []) (ls.getD (h - c) []) (by have := H.bound (m := h - c) (by omega); omega))) (decide_eq_true rfl))) rfl ?_
    refine Draw.step rfl rfl rfl (StepOk.op rfl rfl rfl (y_pickT rfl rfl)) rfl ?_
    refine Draw.step rfl rfl rfl (StepOk.op rfl rfl rfl (y_assign rfl)) rfl ?_
    refine Draw.tail (m := 18) rfl rfl rfl ?_
    refine Run.nil ?_
    refine Run.nT ?_
    refine Run.ret ?_
    exact Run.fin1 rfl rfl rfl (.tmp rfl) (fun _ _ h => h)

end

end Go.Vx
