/- Walks: the fields. Conditions: as each says. Printed by a program of our own (wip/tools/gen2.py). -/
import Derived.Test.YtofnjbcbkfbomaaDoorWa
import Derived.Test.YtofnjbcbkfbomaaDoorVl
namespace Go.Vx
open Go Go.RowKit Go.Proofs
set_option maxRecDepth 100000
variable (s : Seat)

variable [hF : HasF s]

theorem Add_fn (f a b : Int) (hf : fv f = true) (ha : 0 ≤ a) (hb : 0 ≤ b) : Fn s.env 106 [i64 f, u64 a, u64 b] (u64 ((a + b) % fP f)) := by
  obtain ⟨⟨hp1, hp2⟩, hg_⟩ := okf hf
  have hp3 : (0 : Int) < fP f := by omega
  have ea := em_lt hp3 a
  have eb := em_lt hp3 b
  refine Fn.of Tryd.func106 rfl Tryd.ntmps106 rfl ?_
  intro w0 F0
  refine Run.seq ?_
  refine Run.region ?_
  refine Run.op rfl rfl rfl (y_assign rfl) ?_
  refine Run.nil ?_
  refine Run.nT ?_
  refine Run.seq ?_
  refine Run.region ?_
  refine Run.op rfl rfl rfl (y_move rfl) ?_
  refine Run.op rfl rfl rfl (q_call en109 rfl (P_fn s _)) ?_
  refine Run.op rfl rfl rfl (y_assign rfl) ?_
  refine Run.nil ?_
  refine Run.nT ?_
  refine Run.seq ?_
  refine Run.seq ?_
  refine Run.region ?_
  refine Run.op rfl rfl rfl (y_move rfl) ?_
  refine Run.op rfl rfl rfl (Yields.bool (c := false) (y_eql rfl rfl) (by rw [decide_eq_false_iff_not]; omega)) ?_
  refine Run.nil ?_
  refine Run.nT ?_
  refine Run.cond0 rfl ?_
  refine Run.skip ?_
  refine Run.nT ?_
  refine Run.seq ?_
  refine Run.weaken (Incl.same (t := 0) rfl (Incl.same (t := 1) rfl (Incl.same (t := 2) rfl (Incl.same (t := 6) rfl (Incl.same (t := 7) rfl Incl.nil))))) ?_
  refine q_draw ?_ rfl
  refine Draw.step rfl rfl rfl (StepOk.op rfl rfl rfl (y_move rfl)) rfl ?_
  refine Draw.step rfl rfl rfl (StepOk.op rfl rfl rfl (y_move rfl)) rfl ?_
  refine Draw.step rfl rfl rfl (StepOk.op rfl rfl rfl (y_rem rfl rfl (by omega) (by first | exact tmod_of (by omega) | rfl))) rfl ?_
  refine Draw.step rfl rfl rfl (StepOk.op rfl rfl rfl (y_move rfl)) rfl ?_
  refine Draw.step rfl rfl rfl (StepOk.op rfl rfl rfl (y_move rfl)) rfl ?_
  refine Draw.step rfl rfl rfl (StepOk.op rfl rfl rfl (y_rem rfl rfl (by omega) (by first | exact tmod_of (by omega) | rfl))) rfl ?_
  refine Draw.step rfl rfl rfl (StepOk.op rfl rfl rfl (y_add rfl rfl (by first | exact wU_in (by omega) | rfl))) rfl ?_
  refine Draw.step rfl rfl rfl (StepOk.op rfl rfl rfl (y_assign rfl)) rfl ?_
  refine Draw.tail (m := 8) rfl rfl rfl ?_
  refine Run.nil ?_
  refine Run.nT ?_
  refine Run.seq ?_
  refine Run.seq ?_
  refine Run.region ?_
  refine Run.op rfl rfl rfl (y_move rfl) ?_
  refine Run.op rfl rfl rfl (y_move rfl) ?_
  refine Run.op rfl rfl rfl (y_geq rfl rfl) ?_
  refine Run.nil ?_
  refine Run.nT ?_
  refine Run.cond rfl (fun hb => ?_) (fun hb => ?_)
  · have hge := of_decide_eq_true hb
    refine Run.region ?_
    refine Run.op rfl rfl rfl (y_move rfl) ?_
    refine Run.op rfl rfl rfl (y_move rfl) ?_
    refine Run.op rfl rfl rfl (y_sub rfl rfl (by first | exact wU_in (by omega) | rfl)) ?_
    refine Run.op rfl rfl rfl (y_assign rfl) ?_
    refine Run.nil ?_
    refine Run.nT ?_
    refine Run.seq ?_
    refine Run.region ?_
    refine Run.op rfl rfl rfl (y_move rfl) ?_
    refine Run.op rfl rfl rfl (y_assign rfl) ?_
    refine Run.nil ?_
    refine Run.nT ?_
    refine Run.ret ?_
    refine Run.fin1 rfl rfl rfl (.tmp rfl) (fun _ _ h => ?_)
    rw [← add_ge hp3 (of_decide_eq_true hb)]
    exact h
  · have hge := of_decide_eq_false hb
    refine Run.skip ?_
    refine Run.nT ?_
    refine Run.seq ?_
    refine Run.region ?_
    refine Run.op rfl rfl rfl (y_move rfl) ?_
    refine Run.op rfl rfl rfl (y_assign rfl) ?_
    refine Run.nil ?_
    refine Run.nT ?_
    refine Run.ret ?_
    refine Run.fin1 rfl rfl rfl (.tmp rfl) (fun _ _ h => ?_)
    rw [← add_lt hp3 (of_decide_eq_false hb)]
    exact h

theorem Neg_fn (f a : Int) (hf : fv f = true) (ha : 0 ≤ a) : Fn s.env 147 [i64 f, u64 a] (u64 (-a % fP f)) := by
  obtain ⟨⟨hp1, hp2⟩, hg_⟩ := okf hf
  have hp3 : (0 : Int) < fP f := by omega
  have ea := em_lt hp3 a
  refine Fn.of Tryd.func147 rfl Tryd.ntmps147 rfl ?_
  intro w0 F0
  refine Run.seq ?_
  refine Run.region ?_
  refine Run.op rfl rfl rfl (y_assign rfl) ?_
  refine Run.nil ?_
  refine Run.nT ?_
  refine Run.seq ?_
  refine Run.region ?_
  refine Run.op rfl rfl rfl (y_move rfl) ?_
  refine Run.op rfl rfl rfl (q_call en109 rfl (P_fn s _)) ?_
  refine Run.op rfl rfl rfl (y_assign rfl) ?_
  refine Run.nil ?_
  refine Run.nT ?_
  refine Run.seq ?_
  refine Run.seq ?_
  refine Run.region ?_
  refine Run.op rfl rfl rfl (y_move rfl) ?_
  refine Run.op rfl rfl rfl (Yields.bool (c := false) (y_eql rfl rfl) (by rw [decide_eq_false_iff_not]; omega)) ?_
  refine Run.op rfl rfl rfl (y_move rfl) ?_
  refine Run.opG rfl rfl rfl rfl rfl (y_move rfl) ?_
  refine Run.opG rfl rfl rfl rfl rfl (y_move rfl) ?_
  refine Run.opG rfl rfl rfl rfl rfl (y_rem rfl rfl (by omega) (by first | exact tmod_of (by omega) | rfl)) ?_
  refine Run.opG rfl rfl rfl rfl rfl (y_eql rfl rfl) ?_
  refine Run.op rfl rfl rfl (y_pickF rfl rfl) ?_
  refine Run.nil ?_
  refine Run.nT ?_
  refine Run.cond rfl (fun hb => ?_) (fun hb => ?_)
  · have hz : a % fP f = 0 := by simpa using hb
    refine Run.seq ?_
    refine Run.region ?_
    refine Run.op rfl rfl rfl (y_assign rfl) ?_
    refine Run.nil ?_
    refine Run.nT ?_
    refine Run.ret ?_
    refine Run.rT ?_
    refine Run.fin1 rfl rfl rfl (.tmp rfl) (fun _ _ h => ?_)
    rw [Int.neg_emod, if_pos (Int.dvd_of_emod_eq_zero hz)]
    exact h
  · have hz : a % fP f ≠ 0 := by simpa using hb
    refine Run.skip ?_
    refine Run.nT ?_
    refine Run.seq ?_
    refine Run.region ?_
    refine Run.op rfl rfl rfl (y_move rfl) ?_
    refine Run.op rfl rfl rfl (y_move rfl) ?_
    refine Run.op rfl rfl rfl (y_move rfl) ?_
    refine Run.op rfl rfl rfl (y_rem rfl rfl (by omega) (by first | exact tmod_of (by omega) | rfl)) ?_
    refine Run.op rfl rfl rfl (y_sub rfl rfl (by first | exact wU_in (by omega) | rfl)) ?_
    refine Run.op rfl rfl rfl (y_assign rfl) ?_
    refine Run.nil ?_
    refine Run.nT ?_
    refine Run.ret ?_
    refine Run.fin1 rfl rfl rfl (.tmp rfl) (fun _ _ h => ?_)
    rw [← neg_of hp3 hz]
    exact h

theorem Int.add_emod_emod_ (a b p : Int) : (a + b % p) % p = (a + b) % p := by rw [Int.add_emod, Int.emod_emod_of_dvd _ (Int.dvd_refl p), ← Int.add_emod]
theorem Sub_fn (f a b : Int) (hf : fv f = true) (ha : 0 ≤ a) (hb : 0 ≤ b) : Fn s.env 93 [i64 f, u64 a, u64 b] (u64 ((a - b) % fP f)) := by
  obtain ⟨⟨hp1, hp2⟩, hg_⟩ := okf hf
  have hp3 : (0 : Int) < fP f := by omega
  have en := em_lt hp3 (-b)
  refine Fn.of Tryd.func93 rfl Tryd.ntmps93 rfl ?_
  intro w0 F0
  refine Run.seq ?_
  refine Run.region ?_
  refine Run.op rfl rfl rfl (y_assign rfl) ?_
  refine Run.nil ?_
  refine Run.nT ?_
  refine Run.seq ?_
  refine Run.region ?_
  refine Run.op rfl rfl rfl (y_move rfl) ?_
  refine Run.op rfl rfl rfl (y_move rfl) ?_
  refine Run.op rfl rfl rfl (y_move rfl) ?_
  refine Run.op rfl rfl rfl (y_move rfl) ?_
  refine Run.op rfl rfl rfl (q_call en147 rfl (Neg_fn s _ _ hf (by omega))) ?_
  refine Run.op rfl rfl rfl (q_call en106 rfl (Add_fn s _ _ _ hf (by omega) (by omega))) ?_
  refine Run.op rfl rfl rfl (y_assign rfl) ?_
  refine Run.nil ?_
  refine Run.nT ?_
  refine Run.ret ?_
  refine Run.fin1 rfl rfl rfl (.tmp rfl) (fun _ _ h => ?_)
  rw [show (a - b) % fP f = (a + -b % fP f) % fP f by rw [Int.add_emod_emod_, Int.sub_eq_add_neg]]
  exact h

theorem Mul_fn (f a b : Int) (hf : fv f = true) (ha : 0 ≤ a) (hb : 0 ≤ b) : Fn s.env 90 [i64 f, u64 a, u64 b] (u64 (a * b % fP f)) := by
  obtain ⟨⟨hp1, hp2⟩, hg_⟩ := okf hf
  have hp3 : (0 : Int) < fP f := by omega
  have ea := em_lt hp3 a
  have eb := em_lt hp3 b
  have hm := mul_lt hp2 ea eb
  refine Fn.of Tryd.func90 rfl Tryd.ntmps90 rfl ?_
  intro w0 F0
  refine Run.seq ?_
  refine Run.region ?_
  refine Run.op rfl rfl rfl (y_assign rfl) ?_
  refine Run.nil ?_
  refine Run.nT ?_
  refine Run.seq ?_
  refine Run.region ?_
  refine Run.op rfl rfl rfl (y_move rfl) ?_
  refine Run.op rfl rfl rfl (q_call en109 rfl (P_fn s _)) ?_
  refine Run.op rfl rfl rfl (y_assign rfl) ?_
  refine Run.nil ?_
  refine Run.nT ?_
  refine Run.seq ?_
  refine Run.seq ?_
  refine Run.region ?_
  refine Run.op rfl rfl rfl (y_move rfl) ?_
  refine Run.op rfl rfl rfl (Yields.bool (c := false) (y_eql rfl rfl) (by rw [decide_eq_false_iff_not]; omega)) ?_
  refine Run.nil ?_
  refine Run.nT ?_
  refine Run.cond0 rfl ?_
  refine Run.skip ?_
  refine Run.nT ?_
  refine Run.seq ?_
  refine Run.weaken (Incl.same (t := 0) rfl (Incl.same (t := 1) rfl (Incl.same (t := 2) rfl (Incl.same (t := 7) rfl Incl.nil)))) ?_
  refine q_draw ?_ rfl
  refine Draw.step rfl rfl rfl (StepOk.op rfl rfl rfl (y_move rfl)) rfl ?_
  refine Draw.step rfl rfl rfl (StepOk.op rfl rfl rfl (y_move rfl)) rfl ?_
  refine Draw.step rfl rfl rfl (StepOk.op rfl rfl rfl (y_rem rfl rfl (by omega) (by first | exact tmod_of (by omega) | rfl))) rfl ?_
  refine Draw.step rfl rfl rfl (StepOk.op rfl rfl rfl (y_move rfl)) rfl ?_
  refine Draw.step rfl rfl rfl (StepOk.op rfl rfl rfl (y_move rfl)) rfl ?_
  refine Draw.step rfl rfl rfl (StepOk.op rfl rfl rfl (y_rem rfl rfl (by omega) (by first | exact tmod_of (by omega) | rfl))) rfl ?_
  refine Draw.step rfl rfl rfl (StepOk.op rfl rfl rfl (y_mul rfl rfl (by first | exact wU_in (by omega) | rfl))) rfl ?_
  refine Draw.step rfl rfl rfl (StepOk.op rfl rfl rfl (y_move rfl)) rfl ?_
  refine Draw.step rfl rfl rfl (StepOk.op rfl rfl rfl (y_rem rfl rfl (by omega) (by first | exact tmod_of (by omega) | rfl))) rfl ?_
  refine Draw.step rfl rfl rfl (StepOk.op rfl rfl rfl (y_assign rfl)) rfl ?_
  refine Draw.tail (m := 10) rfl rfl rfl ?_
  refine Run.nil ?_
  refine Run.nT ?_
  refine Run.ret ?_
  refine Run.fin1 rfl rfl rfl (.tmp rfl) (fun _ _ h => ?_)
  rw [← mod_mul, ← mul_mod]
  exact h

theorem Inv_fn (f a : Int) (hf : fv f = true) (ha : 0 ≤ a) : Fn s.env 89 [i64 f, u64 a] (u64 (finv (fP f) a)) := by
  obtain ⟨⟨hp1, hp2⟩, hg_⟩ := okf hf
  have hp3 : (0 : Int) < fP f := by omega
  have ea := em_lt hp3 a
  refine Fn.of Tryd.func89 rfl Tryd.ntmps89 rfl ?_
  intro w0 F0
  refine Run.seq ?_
  refine Run.region ?_
  refine Run.op rfl rfl rfl (y_assign rfl) ?_
  refine Run.nil ?_
  refine Run.nT ?_
  refine Run.seq ?_
  refine Run.region ?_
  refine Run.op rfl rfl rfl (y_move rfl) ?_
  refine Run.op rfl rfl rfl (q_call en109 rfl (P_fn s _)) ?_
  refine Run.op rfl rfl rfl (y_assign rfl) ?_
  refine Run.nil ?_
  refine Run.nT ?_
  refine Run.seq ?_
  refine Run.seq ?_
  refine Run.region ?_
  refine Run.op rfl rfl rfl (y_move rfl) ?_
  refine Run.op rfl rfl rfl (Yields.bool (c := false) (y_eql rfl rfl) (by rw [decide_eq_false_iff_not]; omega)) ?_
  refine Run.op rfl rfl rfl (y_move rfl) ?_
  refine Run.opG rfl rfl rfl rfl rfl (y_move rfl) ?_
  refine Run.opG rfl rfl rfl rfl rfl (y_move rfl) ?_
  refine Run.opG rfl rfl rfl rfl rfl (y_rem rfl rfl (by omega) (by first | exact tmod_of (by omega) | rfl)) ?_
  refine Run.opG rfl rfl rfl rfl rfl (y_eql rfl rfl) ?_
  refine Run.op rfl rfl rfl (y_pickF rfl rfl) ?_
  refine Run.nil ?_
  refine Run.nT ?_
  refine Run.cond rfl (fun hb => ?_) (fun hb => ?_)
  · have hz : a % fP f = 0 := by simpa using hb
    refine Run.seq ?_
    refine Run.region ?_
    refine Run.op rfl rfl rfl (y_assign rfl) ?_
    refine Run.nil ?_
    refine Run.nT ?_
    refine Run.ret ?_
    refine Run.rT ?_
    refine Run.fin1 rfl rfl rfl (.tmp rfl) (fun _ _ h => ?_)
    rw [finv_zero hp1 hz]
    exact h
  · have hz : a % fP f ≠ 0 := by simpa using hb
    refine Run.skip ?_
    refine Run.nT ?_
    refine Run.seq ?_
    refine Run.weaken (Incl.same (t := 0) rfl (Incl.same (t := 1) rfl (Incl.same (t := 4) rfl (Incl.same (t := 5) rfl Incl.nil)))) ?_
    refine q_draw ?_ rfl
    refine Draw.step rfl rfl rfl (StepOk.op rfl rfl rfl (y_move rfl)) rfl ?_
    refine Draw.step rfl rfl rfl (StepOk.op rfl rfl rfl (y_conv Tryd.underlying33 Tryd.underlying2 rfl (by first | exact wI_in (by omega) | rfl))) rfl ?_
    refine Draw.step rfl rfl rfl (StepOk.op rfl rfl rfl (y_move rfl)) rfl ?_
    refine Draw.step rfl rfl rfl (StepOk.op rfl rfl rfl (y_move rfl)) rfl ?_
    refine Draw.step rfl rfl rfl (StepOk.op rfl rfl rfl (y_rem rfl rfl (by omega) (by first | exact tmod_of (by omega) | rfl))) rfl ?_
    refine Draw.step rfl rfl rfl (StepOk.op rfl rfl rfl (y_conv Tryd.underlying33 Tryd.underlying2 rfl (by first | exact wI_in (by omega) | rfl))) rfl ?_
    refine Draw.step rfl rfl rfl (StepOk.op rfl rfl rfl (y_assign rfl)) rfl ?_
    refine Draw.step rfl rfl rfl (StepOk.op rfl rfl rfl (y_assign rfl)) rfl ?_
    refine Draw.tail (m := 8) rfl rfl rfl ?_
    refine Run.nil ?_
    refine Run.nT ?_
    refine Run.seq ?_
    refine Run.region ?_
    refine Run.op rfl rfl rfl (y_assign rfl) ?_
    refine Run.op rfl rfl rfl (y_assign rfl) ?_
    refine Run.nil ?_
    refine Run.nT ?_
    refine Run.seq ?_
    refine Run.block ?_
    refine Run.loopK (ι := Int × Int × Int × Int) (fun ⟨r, s_, x, y⟩ => EuI (fP f) a r s_ x y) (fun ⟨r, s_, x, y⟩ => s_.toNat) (fun ⟨r, s_, x, y⟩ => []) [4, 5] (fun ⟨r, s_, x, y⟩ => [(6, i64 r), (7, i64 s_), (8, i64 x), (9, i64 y)]) (fP f, a % fP f, 0, 1) (eu_init (fprime hf) hp1 hz) rfl (Incl.same (t := 6) rfl (Incl.same (t := 7) rfl (Incl.same (t := 8) rfl (Incl.same (t := 9) rfl (Incl.pick [4, 5]))))) ?_
    rintro ⟨r, s_, x, y⟩ hI
    obtain ⟨⟨hx1, hx2⟩, hy1, hy2⟩ := eu_bnd hI hp2
    have hs1 := hI.s0
    have hs2 := hI.sr
    have hs3 := hI.rp
    refine Run.seq ?_
    refine Run.seq ?_
    refine Run.region ?_
    refine Run.op rfl rfl rfl (y_move rfl) ?_
    refine Run.op rfl rfl rfl (y_neq rfl rfl) ?_
    refine Run.nil ?_
    refine Run.nT ?_
    refine Run.cond rfl (fun hb => ?_) (fun hb => ?_)
    · have hs0 : s_ ≠ 0 := by simpa using hb
      have hI' := eu_step hI hs0
      obtain ⟨⟨hx1', hx2'⟩, hy1', hy2'⟩ := eu_bnd hI' hp2
      have hs1' := hI'.s0
      have hs2' := hI'.sr
      have hdiv : r.tdiv s_ = r / s_ := Int.tdiv_eq_ediv_of_nonneg (by omega)
      have hq0 : 0 ≤ r / s_ := Int.ediv_nonneg (by omega) hs1
      have hq1 : r / s_ ≤ r := Int.ediv_le_self _ (by omega)
      refine Run.skip ?_
      refine Run.nT ?_
      refine Run.block ?_
      refine Run.seq ?_
      refine Run.region ?_
      refine Run.op rfl rfl rfl (y_move rfl) ?_
      refine Run.op rfl rfl rfl (y_move rfl) ?_
      refine Run.op rfl rfl rfl (y_quo (r := r / s_) rfl rfl hs0 (by rw [hdiv, wI_in (by omega)])) ?_
      refine Run.op rfl rfl rfl (y_assign rfl) ?_
      refine Run.nil ?_
      refine Run.nT ?_
      refine Run.seq ?_
      refine Run.region ?_
      refine Run.op rfl rfl rfl (y_move rfl) ?_
      refine Run.op rfl rfl rfl (y_move rfl) ?_
      refine Run.op rfl rfl rfl (y_move rfl) ?_
      refine Run.op rfl rfl rfl (y_move rfl) ?_
      refine Run.op rfl rfl rfl (y_mul rfl rfl (by first | exact wI_in (by omega) | rfl)) ?_
      refine Run.op rfl rfl rfl (y_sub rfl rfl (by first | exact wI_in (by omega) | rfl)) ?_
      refine Run.op rfl rfl rfl (y_assign rfl) ?_
      refine Run.op rfl rfl rfl (y_assign rfl) ?_
      refine Run.nil ?_
      refine Run.nT ?_
      refine Run.region ?_
      refine Run.op rfl rfl rfl (y_move rfl) ?_
      refine Run.op rfl rfl rfl (y_move rfl) ?_
      refine Run.op rfl rfl rfl (y_move rfl) ?_
      refine Run.op rfl rfl rfl (y_move rfl) ?_
      refine Run.op rfl rfl rfl (y_mul rfl rfl (by first | exact wI_in (by omega) | rfl)) ?_
      refine Run.op rfl rfl rfl (y_sub rfl rfl (by first | exact wI_in (by omega) | rfl)) ?_
      refine Run.op rfl rfl rfl (y_assign rfl) ?_
      refine Run.op rfl rfl rfl (y_assign rfl) ?_
      refine Run.nil ?_
      refine Run.nB ?_
      refine Run.nT ?_
      refine Run.round (s_, r - r / s_ * s_, y, x - r / s_ * y) ?_ ?_ ?_ ?_
      · exact hI'
      · show (r - r / s_ * s_).toNat < s_.toNat; have := hI'.sr; have := hI'.s0; omega
      · rfl
      · exact (Incl.same (t := 6) rfl (Incl.same (t := 7) rfl (Incl.same (t := 8) rfl (Incl.same (t := 9) rfl (Incl.same (t := 4) rfl (Incl.same (t := 5) rfl Incl.nil))))))
    · obtain rfl : s_ = 0 := by simpa using hb
      refine Run.exit ?_
      refine Run.eT ?_
      refine Run.eT ?_
      refine Run.eB ?_
      refine Run.nT ?_
      refine Run.seq ?_
      refine Run.seq ?_
      refine Run.region ?_
      refine Run.op rfl rfl rfl (y_move rfl) ?_
      refine Run.op rfl rfl rfl (y_lss rfl rfl) ?_
      refine Run.nil ?_
      refine Run.nT ?_
      refine Run.cond rfl (fun hb => ?_) (fun hb => ?_)
      · have hneg := of_decide_eq_true hb
        have hfin := finv_lt hp1 a
        rw [eu_end hI hp1, if_pos hneg] at hfin
        refine Run.region ?_
        refine Run.op rfl rfl rfl (y_move rfl) ?_
        refine Run.op rfl rfl rfl (y_move rfl) ?_
        refine Run.op rfl rfl rfl (y_conv Tryd.underlying33 Tryd.underlying2 rfl (by first | exact wI_in (by omega) | rfl)) ?_
        refine Run.op rfl rfl rfl (y_add rfl rfl (by first | exact wI_in (by omega) | rfl)) ?_
        refine Run.op rfl rfl rfl (y_assign rfl) ?_
        refine Run.nil ?_
        refine Run.nT ?_
        refine Run.seq ?_
        refine Run.region ?_
        refine Run.op rfl rfl rfl (y_move rfl) ?_
        refine Run.op rfl rfl rfl (y_conv Tryd.underlying2 Tryd.underlying33 rfl (by first | exact wU_in (by omega) | rfl)) ?_
        refine Run.op rfl rfl rfl (y_assign rfl) ?_
        refine Run.nil ?_
        refine Run.nT ?_
        refine Run.ret ?_
        refine Run.fin1 rfl rfl rfl (.tmp rfl) (fun _ _ h => ?_)
        rw [eu_end hI hp1, if_pos hneg]
        exact h
      · have hneg := of_decide_eq_false hb
        refine Run.skip ?_
        refine Run.nT ?_
        refine Run.seq ?_
        refine Run.region ?_
        refine Run.op rfl rfl rfl (y_move rfl) ?_
        refine Run.op rfl rfl rfl (y_conv Tryd.underlying2 Tryd.underlying33 rfl (by first | exact wU_in (by omega) | rfl)) ?_
        refine Run.op rfl rfl rfl (y_assign rfl) ?_
        refine Run.nil ?_
        refine Run.nT ?_
        refine Run.ret ?_
        refine Run.fin1 rfl rfl rfl (.tmp rfl) (fun _ _ h => ?_)
        rw [eu_end hI hp1, if_neg hneg]
        exact h

end Go.Vx
