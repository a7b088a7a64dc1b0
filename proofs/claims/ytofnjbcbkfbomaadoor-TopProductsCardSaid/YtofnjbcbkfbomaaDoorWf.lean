/- Walks: systems: valid, keys, counts, faults. Conditions: as each says. Printed by a program of our own (wip/tools/gen2.py). -/
import Derived.Test.YtofnjbcbkfbomaaDoorWe
namespace Go.Vx
open Go Go.RowKit Go.Proofs
set_option maxRecDepth 100000
variable (s : Seat)

theorem grow_fx (N : Nat) (h0 : 0 < N) (hN : N ≤ 1048576) : FnX s.env 166 [sval (.slice none 0 0), i64 N] [] (fun v : Value => sval v) (fun v => [Ent.rows Kt v 130 1 []]) := by
  refine FnX.of [] rfl Tryd.func166 rfl Tryd.ntmps166 rfl ?_
  intro w0 F0
  refine Run.seq ?_
  refine Run.region ?_
  refine Run.op rfl rfl rfl (y_assign rfl) ?_
  refine Run.nil ?_
  refine Run.nT ?_
  refine Run.seq ?_
  refine Run.seq ?_
  refine Run.region ?_
  refine Run.op rfl rfl rfl (y_move rfl) ?_
  refine Run.op rfl rfl rfl (Yields.bool (c := false) (y_lss rfl rfl) (by rw [decide_eq_false_iff_not]; omega)) ?_
  refine Run.nil ?_
  refine Run.nT ?_
  refine Run.cond0 rfl ?_
  refine Run.skip ?_
  refine Run.nT ?_
  refine Run.seq ?_
  refine Run.seq ?_
  refine Run.region ?_
  refine Run.op rfl rfl rfl (y_move rfl) ?_
  refine Run.op rfl rfl rfl (y_move rfl) ?_
  refine Run.op rfl rfl rfl (y_capNil rfl Tryd.underlying131) ?_
  refine Run.op rfl rfl rfl (y_move rfl) ?_
  refine Run.op rfl rfl rfl (y_lenNil rfl Tryd.underlying131) ?_
  refine Run.op rfl rfl rfl (y_sub rfl rfl (by first | exact wI_in (by omega) | rfl)) ?_
  refine Run.op rfl rfl rfl (y_sub (r := (N : Int)) rfl rfl (by rw [wI_in (by omega)]; omega)) ?_
  refine Run.op rfl rfl rfl (y_assign rfl) ?_
  refine Run.nil ?_
  refine Run.nT ?_
  refine Run.seq ?_
  refine Run.region ?_
  refine Run.op rfl rfl rfl (y_move rfl) ?_
  refine Run.op rfl rfl rfl (Yields.bool (c := true) (y_gtr rfl rfl) (by rw [decide_eq_true_eq]; omega)) ?_
  refine Run.nil ?_
  refine Run.nT ?_
  refine Run.cond1 rfl ?_
  refine Run.region ?_
  refine Run.op rfl rfl rfl (y_move rfl) ?_
  refine Run.op rfl rfl rfl (y_move rfl) ?_
  refine Run.op rfl rfl rfl (y_capNil rfl Tryd.underlying131) ?_
  refine Run.op rfl rfl rfl (y_cutNil rfl rfl Tryd.underlying131 ti130) ?_
  refine Run.op rfl rfl rfl (y_move rfl) ?_
  refine Run.appendZ rfl rfl (rfl) (h0) Tryd.underlying131 Tryd.underlying3 ti130 rfl rfl rfl (by omega) rfl ?_
  intro v22
  refine Run.op rfl rfl rfl (y_move rfl) ?_
  refine Run.op rfl rfl rfl (y_lenNil rfl Tryd.underlying131) ?_
  refine Run.cutRow (0) 22 rfl rfl rfl Tryd.underlying131 ti130 (fun _ => rfl) (by simp) rfl ?_
  intro v25
  refine Run.op rfl rfl rfl (y_assign rfl) ?_
  refine Run.nil ?_
  refine Run.nT ?_
  refine Run.seq ?_
  refine Run.region ?_
  refine Run.op rfl rfl rfl (y_move rfl) ?_
  refine Run.op rfl rfl rfl (y_assign rfl) ?_
  refine Run.nil ?_
  refine Run.nT ?_
  refine Run.ret ?_
  exact Run.finX v25 [22] rfl (Outs.one rfl (.tmp rfl)) rfl (fun _ _ _ h => h)

theorem concat_fn (ls : List (List (List Var))) (h0 : 0 < ls.flatten.length) (hN : ls.flatten.length ≤ 100000) (hl : ls.length ≤ 100000) : Fn s.env 131 [slc Ktt ls] (slc Kt ls.flatten) := by
  refine Fn.of Tryd.func131 rfl Tryd.ntmps131 rfl ?_
  intro w0 F0
  refine Run.seq ?_
  refine Run.region ?_
  refine Run.op rfl rfl rfl (y_assign rfl) ?_
  refine Run.nil ?_
  refine Run.nT ?_
  refine Run.seq ?_
  refine Run.region ?_
  refine Run.op rfl rfl rfl (y_assign rfl) ?_
  refine Run.nil ?_
  refine Run.nT ?_
  refine Run.seq ?_
  refine Run.seq ?_
  refine Run.region ?_
  refine Run.op rfl rfl rfl (y_move rfl) ?_
  refine Run.op rfl rfl rfl (y_lenS rfl Tryd.underlying237) ?_
  refine Run.op rfl rfl rfl (y_move rfl) ?_
  refine Run.nil ?_
  refine Run.nT ?_
  refine Run.block ?_
  refine Run.loopK (ι := Nat) (fun j => j ≤ ls.length) (fun j => ls.length - j) (fun j => []) [0, 2, 9, 10] (fun j => [(3, i64 (lsum (ls.take j))), (11, i64 j)]) 0 (by omega) rfl (Incl.int (t := 3) rfl (by simp [lsum]) (Incl.same (t := 11) rfl (Incl.pick [0, 2, 9, 10]))) ?_
  rintro j hj
  refine Run.seq ?_
  refine Run.region ?_
  refine Run.op rfl rfl rfl (y_lss rfl rfl) ?_
  refine Run.nil ?_
  refine Run.nT ?_
  refine Run.seq ?_
  refine Run.cond rfl (fun hb => ?_) (fun hb => ?_)
  · have hjl : j < ls.length := by have := of_decide_eq_true hb; omega
    have hs1 := lsum_take hjl
    have hs2 := lsum_le ls (j + 1)
    refine Run.skip ?_
    refine Run.nT ?_
    refine Run.seq ?_
    refine Run.block ?_
    refine Run.seq ?_
    refine Run.region ?_
    refine Run.op rfl rfl rfl (q_index j ls[j] rfl rfl Tryd.underlying237 ti131 (fun _ => rfl) (rfl) (get_some hjl)) ?_
    refine Run.op rfl rfl rfl (y_load rfl Tryd.underlying131 rfl) ?_
    refine Run.op rfl rfl rfl (y_assign rfl) ?_
    refine Run.nil ?_
    refine Run.nT ?_
    refine Run.seq ?_
    refine Run.region ?_
    refine Run.op rfl rfl rfl (y_move rfl) ?_
    refine Run.op rfl rfl rfl (y_move rfl) ?_
    refine Run.op rfl rfl rfl (y_lenS rfl Tryd.underlying131) ?_
    refine Run.op rfl rfl rfl (y_add rfl rfl (by first | exact wI_in (by omega) | rfl)) ?_
    refine Run.op rfl rfl rfl (y_assign rfl) ?_
    refine Run.nil ?_
    refine Run.nT ?_
    refine Run.seq ?_
    refine Run.region ?_
    refine Run.op rfl rfl rfl (y_move rfl) ?_
    refine Run.op rfl rfl rfl (Yields.bool (c := false) (y_lss rfl rfl) (by rw [decide_eq_false_iff_not]; omega)) ?_
    refine Run.nil ?_
    refine Run.nT ?_
    refine Run.cond0 rfl ?_
    refine Run.skip ?_
    refine Run.nB ?_
    refine Run.nT ?_
    refine Run.region ?_
    refine Run.op rfl rfl rfl (y_add rfl rfl (by first | exact wI_in (by omega) | rfl)) ?_
    refine Run.op rfl rfl rfl (y_move rfl) ?_
    refine Run.nil ?_
    refine Run.nT ?_
    refine Run.round (j + 1) ?_ ?_ ?_ ?_
    · show j + 1 ≤ ls.length; omega
    · show ls.length - (j + 1) < ls.length - j; omega
    · rfl
    · exact (Incl.int (t := 3) rfl (by rw [← lsum_take hjl]; omega) (Incl.int (t := 11) rfl (by omega) (Incl.same (t := 0) rfl (Incl.same (t := 2) rfl (Incl.same (t := 9) rfl (Incl.same (t := 10) rfl Incl.nil))))))
  · obtain rfl : j = ls.length := by have := of_decide_eq_false hb; omega
    have hs3 : lsum (ls.take ls.length) = ls.flatten.length := by rw [List.take_length]; rfl
    refine Run.exit ?_
    refine Run.eT ?_
    refine Run.eT ?_
    refine Run.eB ?_
    refine Run.nT ?_
    refine Run.seq ?_
    refine Run.region ?_
    refine Run.op rfl rfl rfl (y_move rfl) ?_
    refine Run.callX [] [24] en166 rfl (grow_fx s (lsum (ls.take ls.length)) (by omega) (by omega)) rfl (fun _ => rfl) rfl ?_
    intro v24
    refine Run.op rfl rfl rfl (y_assign rfl) ?_
    refine Run.nil ?_
    refine Run.nT ?_
    refine Run.seq ?_
    refine Run.seq ?_
    refine Run.region ?_
    refine Run.op rfl rfl rfl (y_move rfl) ?_
    refine Run.op rfl rfl rfl (y_lenS rfl Tryd.underlying237) ?_
    refine Run.op rfl rfl rfl (y_move rfl) ?_
    refine Run.nil ?_
    refine Run.nT ?_
    refine Run.block ?_
    refine Run.loopK (ι := Nat × Value) (fun ⟨j, v⟩ => j ≤ ls.length) (fun ⟨j, v⟩ => ls.length - j) (fun ⟨j, v⟩ => [(24, .rows Kt v 130 1 (ls.take j).flatten)]) [2, 24, 25, 26] (fun ⟨j, v⟩ => [(27, i64 j), (6, sval v)]) (0, v24) (by show 0 ≤ _; omega) rfl (Incl.same (t := 27) rfl (Incl.same (t := 6) rfl (Incl.pick [2, 24, 25, 26]))) ?_
    rintro ⟨j, v⟩ hj
    refine Run.seq ?_
    refine Run.region ?_
    refine Run.op rfl rfl rfl (y_lss rfl rfl) ?_
    refine Run.nil ?_
    refine Run.nT ?_
    refine Run.seq ?_
    refine Run.cond rfl (fun hb => ?_) (fun hb => ?_)
    · have hjl : j < ls.length := by have := of_decide_eq_true hb; omega
      have hs1 := lsum_take hjl
      have hs2 := lsum_le ls (j + 1)
      unfold lsum at hs1 hs2
      refine Run.skip ?_
      refine Run.nT ?_
      refine Run.seq ?_
      refine Run.block ?_
      refine Run.seq ?_
      refine Run.region ?_
      refine Run.op rfl rfl rfl (q_index j ls[j] rfl rfl Tryd.underlying237 ti131 (fun _ => rfl) (rfl) (get_some hjl)) ?_
      refine Run.op rfl rfl rfl (y_load rfl Tryd.underlying131 rfl) ?_
      refine Run.op rfl rfl rfl (y_assign rfl) ?_
      refine Run.nil ?_
      refine Run.nT ?_
      refine Run.region ?_
      refine Run.op rfl rfl rfl (y_move rfl) ?_
      refine Run.op rfl rfl rfl (y_move rfl) ?_
      refine q_append 24 rfl rfl rfl Tryd.underlying131 ti130 rfl rfl (fun _ => rfl) (by omega) rfl ?_
      intro v33
      refine Run.own (t := 24) (e' := Ent.rows Kt v33 130 1 (ls.take (j + 1)).flatten) rfl (by rw [← take_flat hjl]) ?_
      refine Run.op rfl rfl rfl (y_assign rfl) ?_
      refine Run.nil ?_
      refine Run.nB ?_
      refine Run.nT ?_
      refine Run.region ?_
      refine Run.op rfl rfl rfl (y_add rfl rfl (by first | exact wI_in (by omega) | rfl)) ?_
      refine Run.op rfl rfl rfl (y_move rfl) ?_
      refine Run.nil ?_
      refine Run.nT ?_
      have hj : j ≤ ls.length := hj
      refine Run.round (j + 1, v33) ?_ ?_ ?_ ?_
      · show j + 1 ≤ ls.length; omega
      · show ls.length - (j + 1) < ls.length - j; omega
      · rfl
      · exact (Incl.int (t := 27) rfl (by omega) (Incl.same (t := 6) rfl (Incl.same (t := 2) rfl (Incl.same (t := 24) rfl (Incl.same (t := 25) rfl (Incl.same (t := 26) rfl Incl.nil))))))
    · obtain rfl : j = ls.length := by have := of_decide_eq_false hb; have hj : j ≤ ls.length := hj; omega
      refine Run.exit ?_
      refine Run.eT ?_
      refine Run.eT ?_
      refine Run.eB ?_
      refine Run.nT ?_
      refine Run.seq ?_
      refine Run.region ?_
      refine Run.op rfl rfl rfl (y_move rfl) ?_
      refine Run.op rfl rfl rfl (y_assign rfl) ?_
      refine Run.nil ?_
      refine Run.nT ?_
      refine Run.ret ?_
      refine Run.freeze (K := Kt) (l := (ls.take ls.length).flatten) 24 2 rfl rfl ?_
      refine Run.fin1 rfl rfl rfl (.tmp rfl) (fun _ _ h => ?_)
      rw [List.take_length] at h
      exact h

theorem permuted_fn (k : Int) (t : List Int) : Fn s.env 76 [sagg (Ksys k t), sagg (Kp2 perm14)] (sbool true) := by
  have hT : ∀ l ∈ ([perm14.1, perm14.2] : List (List (List Var))).flatten, l.length = 2 ∧ ∀ v ∈ l, vok v ∧ v.1 ∈ ([1, 3] : List Int) := by simp [perm14, vok]; constructor <;> (intro a b h; omega)
  refine Fn.of Tryd.func76 rfl Tryd.ntmps76 rfl ?_
  intro w0 F0
  refine Run.seq ?_
  refine Run.region ?_
  refine Run.boxA rfl rfl ?_
  intro b2
  refine Run.freezeB 2 2 rfl rfl ?_
  refine Run.boxA rfl rfl ?_
  intro b3
  refine Run.freezeB 3 3 rfl rfl ?_
  refine Run.op rfl rfl rfl (y_assign rfl) ?_
  refine Run.nil ?_
  refine Run.nT ?_
  refine Run.seq ?_
  refine Run.seq ?_
  refine Run.region ?_
  refine Run.op rfl rfl rfl (y_field rfl Tryd.underlying133 rfl ti131.siz rfl) ?_
  refine Run.op rfl rfl rfl (y_load rfl Tryd.underlying131 rfl) ?_
  refine Run.op rfl rfl rfl (y_lenS rfl Tryd.underlying131) ?_
  refine Run.op rfl rfl rfl (Yields.bool (c := true) (q_call en72 rfl (between_fn s _ _ _)) (by decide)) ?_
  refine Run.op rfl rfl rfl (y_not rfl) ?_
  refine Run.op rfl rfl rfl (y_move rfl) ?_
  refine Run.opG rfl rfl rfl rfl rfl (y_field rfl Tryd.underlying133 rfl ti131.siz rfl) ?_
  refine Run.opG rfl rfl rfl rfl rfl (y_load rfl Tryd.underlying131 rfl) ?_
  refine Run.opG rfl rfl rfl rfl rfl (y_lenS rfl Tryd.underlying131) ?_
  refine Run.opG rfl rfl rfl rfl rfl (y_field rfl Tryd.underlying133 rfl ti131.siz rfl) ?_
  refine Run.opG rfl rfl rfl rfl rfl (y_load rfl Tryd.underlying131 rfl) ?_
  refine Run.opG rfl rfl rfl rfl rfl (y_lenS rfl Tryd.underlying131) ?_
  refine Run.opG rfl rfl rfl rfl rfl (Yields.bool (c := false) (y_neq rfl rfl) (by decide)) ?_
  refine Run.op rfl rfl rfl (y_pickF rfl rfl) ?_
  refine Run.op rfl rfl rfl (y_move rfl) ?_
  refine Run.opG rfl rfl rfl rfl rfl (y_field rfl Tryd.underlying133 rfl ti131.siz rfl) ?_
  refine Run.opG rfl rfl rfl rfl rfl (y_load rfl Tryd.underlying131 rfl) ?_
  refine Run.opG rfl rfl rfl rfl rfl (q_index 0 [(1, 0), (1, 1)] rfl rfl Tryd.underlying131 ti130 (fun _ => rfl) (rfl) (rfl)) ?_
  refine Run.opG rfl rfl rfl rfl rfl (y_load rfl Tryd.underlying130 rfl) ?_
  refine Run.opG rfl rfl rfl rfl rfl (y_lenS rfl Tryd.underlying130) ?_
  refine Run.opG rfl rfl rfl rfl rfl (Yields.bool (c := true) (q_call en72 rfl (between_fn s _ _ _)) (by decide)) ?_
  refine Run.opG rfl rfl rfl rfl rfl (y_not rfl) ?_
  refine Run.op rfl rfl rfl (y_pickF rfl rfl) ?_
  refine Run.nil ?_
  refine Run.nT ?_
  refine Run.cond0 rfl ?_
  refine Run.skip ?_
  refine Run.nT ?_
  refine Run.seq ?_
  refine Run.seq ?_
  refine Run.region ?_
  refine Run.op rfl rfl rfl (y_field rfl Tryd.underlying133 rfl ti131.siz rfl) ?_
  refine Run.op rfl rfl rfl (y_load rfl Tryd.underlying131 rfl) ?_
  refine Run.op rfl rfl rfl (y_field rfl Tryd.underlying133 rfl ti131.siz rfl) ?_
  refine Run.op rfl rfl rfl (y_load rfl Tryd.underlying131 rfl) ?_
  refine Run.op rfl rfl rfl (q_buildL (K := Ktt) ([perm14.1, perm14.2]) Tryd.underlying237 ti131 rfl rfl rfl (.cons rfl (Part.one' rfl) rfl (.cons rfl (Part.one' rfl) rfl .nil)) rfl) ?_
  refine Run.op rfl rfl rfl (q_call en131 rfl (concat_fn s [perm14.1, perm14.2] (by decide) (by decide) (by decide))) ?_
  refine Run.op rfl rfl rfl (y_lenS rfl Tryd.underlying131) ?_
  refine Run.op rfl rfl rfl (y_move rfl) ?_
  refine Run.nil ?_
  refine Run.nT ?_
  refine Run.block ?_
  refine Run.loopK (ι := Nat) (fun j => j ≤ 2) (fun j => 2 - j) (fun j => []) [2, 3, 35, 36] (fun j => [(37, i64 j)]) 0 (by omega) rfl (Incl.same (t := 37) rfl (Incl.pick [2, 3, 35, 36])) ?_
  rintro j hj
  refine Run.seq ?_
  refine Run.region ?_
  refine Run.op rfl rfl rfl (y_lss rfl rfl) ?_
  refine Run.nil ?_
  refine Run.nT ?_
  refine Run.seq ?_
  refine Run.cond rfl (fun hb => ?_) (fun hb => ?_)
  · have hjl : j < (([perm14.1, perm14.2] : List (List (List Var))).flatten).length := by have := of_decide_eq_true hb; omega
    refine Run.skip ?_
    refine Run.nT ?_
    refine Run.seq ?_
    refine Run.block ?_
    refine Run.seq ?_
    refine Run.region ?_
    refine Run.op rfl rfl rfl (q_index j (([perm14.1, perm14.2] : List (List (List Var))).flatten)[j] rfl rfl Tryd.underlying131 ti130 (fun _ => rfl) (rfl) (get_some hjl)) ?_
    refine Run.op rfl rfl rfl (y_load rfl Tryd.underlying130 rfl) ?_
    refine Run.op rfl rfl rfl (y_assign rfl) ?_
    refine Run.nil ?_
    refine Run.nT ?_
    refine Run.seq ?_
    refine Run.weaken (Incl.same (t := 37) rfl (Incl.same (t := 2) rfl (Incl.same (t := 3) rfl (Incl.same (t := 35) rfl (Incl.same (t := 36) rfl (Incl.same (t := 6) rfl Incl.nil)))))) ?_
    refine q_draw ?_ rfl
    refine Draw.step rfl rfl rfl (StepOk.op rfl rfl rfl (y_loadW rfl Tryd.underlying66 rfl ti66.siz)) rfl ?_
    refine Draw.step rfl rfl rfl (StepOk.op rfl rfl rfl (y_move rfl)) rfl ?_
    refine Draw.step rfl rfl rfl (StepOk.op rfl rfl rfl (y_field rfl Tryd.underlying133 rfl ti131.siz rfl)) rfl ?_
    refine Draw.step rfl rfl rfl (StepOk.op rfl rfl rfl (y_load rfl Tryd.underlying131 rfl)) rfl ?_
    refine Draw.step rfl rfl rfl (StepOk.op rfl rfl rfl (q_index 0 [(1, 0), (1, 1)] rfl rfl Tryd.underlying131 ti130 (fun _ => rfl) (rfl) (rfl))) rfl ?_
    refine Draw.step rfl rfl rfl (StepOk.op rfl rfl rfl (y_load rfl Tryd.underlying130 rfl)) rfl ?_
    refine Draw.step rfl rfl rfl (StepOk.op rfl rfl rfl (y_lenS rfl Tryd.underlying130)) rfl ?_
    refine Draw.step rfl rfl rfl (StepOk.op rfl rfl rfl (q_buildL (K := Kk8) ([1, 3]) Tryd.underlying239 ti126 rfl rfl rfl (.cons rfl (Part.one' rfl) rfl (.cons rfl (Part.one' rfl) rfl .nil)) rfl)) rfl ?_
    refine Draw.step rfl rfl rfl (StepOk.op rfl rfl rfl (Yields.bool (c := true) (q_call en132 rfl (tupled_fn s k t (([perm14.1, perm14.2] : List (List (List Var))).flatten)[j] 2 (hT _ (List.getElem_mem hjl)).1 (by decide) [1, 3] (by decide) (hT _ (List.getElem_mem hjl)).2)) (rfl))) rfl ?_
    refine Draw.step rfl rfl rfl (StepOk.op rfl rfl rfl (y_not rfl)) rfl ?_
    refine Draw.tail (m := 10) rfl rfl rfl ?_
    refine Run.nil ?_
    refine Run.nT ?_
    refine Run.cond0 rfl ?_
    refine Run.skip ?_
    refine Run.nB ?_
    refine Run.nT ?_
    refine Run.region ?_
    refine Run.op rfl rfl rfl (y_add rfl rfl (by first | exact wI_in (by omega) | rfl)) ?_
    refine Run.op rfl rfl rfl (y_move rfl) ?_
    refine Run.nil ?_
    refine Run.nT ?_
    refine Run.round (j + 1) ?_ ?_ ?_ ?_
    · show j + 1 ≤ 2; have : j < 2 := hjl; omega
    · show 2 - (j + 1) < 2 - j; have : j < 2 := hjl; omega
    · rfl
    · exact (Incl.int (t := 37) rfl (by omega) (Incl.same (t := 2) rfl (Incl.same (t := 3) rfl (Incl.same (t := 35) rfl (Incl.same (t := 36) rfl Incl.nil)))))
  · try simp only [decide_eq_true_eq, decide_eq_false_iff_not, Bool.not_eq_true', Bool.not_eq_false', Bool.and_eq_true, Bool.or_eq_true, Bool.and_eq_false_iff, Bool.or_eq_false_iff] at hb
    refine Run.exit ?_
    refine Run.eT ?_
    refine Run.eT ?_
    refine Run.eB ?_
    refine Run.nT ?_
    refine Run.seq ?_
    refine Run.region ?_
    refine Run.op rfl rfl rfl (y_assign rfl) ?_
    refine Run.nil ?_
    refine Run.nT ?_
    refine Run.ret ?_
    exact Run.fin1 rfl rfl rfl (.tmp rfl) (fun _ _ h => h)

theorem looked_fn (k : Int) (t : List Int) : Fn s.env 77 [sagg (Ksys k t), sagg (Klo look14)] (sbool true) := by
  refine Fn.of Tryd.func77 rfl Tryd.ntmps77 rfl ?_
  intro w0 F0
  refine Run.seq ?_
  refine Run.region ?_
  refine Run.boxA rfl rfl ?_
  intro b2
  refine Run.freezeB 2 2 rfl rfl ?_
  refine Run.boxA rfl rfl ?_
  intro b3
  refine Run.freezeB 3 3 rfl rfl ?_
  refine Run.op rfl rfl rfl (y_assign rfl) ?_
  refine Run.nil ?_
  refine Run.nT ?_
  refine Run.seq ?_
  refine Run.region ?_
  refine Run.op rfl rfl rfl (y_field rfl Tryd.underlying135 rfl ti130.siz rfl) ?_
  refine Run.op rfl rfl rfl (y_load rfl Tryd.underlying130 rfl) ?_
  refine Run.op rfl rfl rfl (y_lenS rfl Tryd.underlying130) ?_
  refine Run.op rfl rfl rfl (y_assign rfl) ?_
  refine Run.nil ?_
  refine Run.nT ?_
  refine Run.seq ?_
  refine Run.region ?_
  refine Run.op rfl rfl rfl (y_move rfl) ?_
  refine Run.op rfl rfl rfl (Yields.bool (c := true) (q_call en72 rfl (between_fn s _ _ _)) (by decide)) ?_
  refine Run.op rfl rfl rfl (y_move rfl) ?_
  refine Run.opG rfl rfl rfl rfl rfl (y_field rfl Tryd.underlying135 rfl ti128.siz rfl) ?_
  refine Run.opG rfl rfl rfl rfl rfl (y_field rfl Tryd.underlying128 rfl ti126.siz rfl) ?_
  refine Run.opG rfl rfl rfl rfl rfl (y_load rfl Tryd.underlying126 rfl) ?_
  refine Run.opG rfl rfl rfl rfl rfl (Yields.bool (c := true) (y_eql rfl rfl) (rfl)) ?_
  refine Run.op rfl rfl rfl (y_pickT rfl rfl) ?_
  refine Run.op rfl rfl rfl (y_move rfl) ?_
  refine Run.opG rfl rfl rfl rfl rfl (y_loadW rfl Tryd.underlying66 rfl ti66.siz) ?_
  refine Run.opG rfl rfl rfl rfl rfl (y_field rfl Tryd.underlying135 rfl ti128.siz rfl) ?_
  refine Run.opG rfl rfl rfl rfl rfl (y_loadW rfl Tryd.underlying128 rfl ti128.siz) ?_
  refine Run.opG rfl rfl rfl rfl rfl (Yields.bool (c := true) (q_call en129 rfl (knows_fn s k t (1, 5) (by simp [vok]))) (rfl)) ?_
  refine Run.op rfl rfl rfl (y_pickT rfl rfl) ?_
  refine Run.op rfl rfl rfl (y_move rfl) ?_
  refine Run.opG rfl rfl rfl rfl rfl (y_loadW rfl Tryd.underlying66 rfl ti66.siz) ?_
  refine Run.opG rfl rfl rfl rfl rfl (y_field rfl Tryd.underlying135 rfl ti130.siz rfl) ?_
  refine Run.opG rfl rfl rfl rfl rfl (y_load rfl Tryd.underlying130 rfl) ?_
  refine Run.opG rfl rfl rfl rfl rfl (y_move rfl) ?_
  refine Run.opG rfl rfl rfl rfl rfl (q_buildL (K := Kk8) ([1, 3]) Tryd.underlying239 ti126 rfl rfl rfl (.cons rfl (Part.one' rfl) rfl (.cons rfl (Part.one' rfl) rfl .nil)) rfl) ?_
  refine Run.opG rfl rfl rfl rfl rfl (Yields.bool (c := true) (q_call en132 rfl (tupled_fn s k t [(1, 4)] 1 rfl (by decide) [1, 3] (by decide) (by simp [vok]))) (rfl)) ?_
  refine Run.op rfl rfl rfl (y_pickT rfl rfl) ?_
  refine Run.op rfl rfl rfl (y_move rfl) ?_
  refine Run.opG rfl rfl rfl rfl rfl (y_loadW rfl Tryd.underlying66 rfl ti66.siz) ?_
  refine Run.opG rfl rfl rfl rfl rfl (y_field rfl Tryd.underlying135 rfl ti130.siz rfl) ?_
  refine Run.opG rfl rfl rfl rfl rfl (y_load rfl Tryd.underlying130 rfl) ?_
  refine Run.opG rfl rfl rfl rfl rfl (y_move rfl) ?_
  refine Run.opG rfl rfl rfl rfl rfl (q_buildL (K := Kk8) ([3]) Tryd.underlying239 ti126 rfl rfl rfl (.cons rfl (Part.one' rfl) rfl .nil) rfl) ?_
  refine Run.opG rfl rfl rfl rfl rfl (Yields.bool (c := true) (q_call en132 rfl (tupled_fn s k t [(3, 0)] 1 rfl (by decide) [3] (by decide) (by simp [vok]))) (rfl)) ?_
  refine Run.op rfl rfl rfl (y_pickT rfl rfl) ?_
  refine Run.op rfl rfl rfl (y_assign rfl) ?_
  refine Run.nil ?_
  refine Run.nT ?_
  refine Run.ret ?_
  exact Run.fin1 rfl rfl rfl (.tmp rfl) (fun _ _ h => h)

section
variable [hF : HasF s]

theorem sysValid_fn (k : Nat) (hk : 1 ≤ k ∧ k ≤ 3) (t : List Int) (ht : t.length = 2 ^ k) (h97 : in97 t) : Fn s.env 28 [sagg (Ksys k t)] (sbool true) := by
  have hp8 := pow2_le (k := k) (m := 3) (by omega)
  have hp8 : 2 ^ k ≤ 8 := hp8
  refine Fn.of Tryd.func28 rfl Tryd.ntmps28 rfl ?_
  intro w0 F0
  refine Run.seq ?_
  refine Run.region ?_
  refine Run.boxA rfl rfl ?_
  intro b1
  refine Run.freezeB 1 1 rfl rfl ?_
  refine Run.op rfl rfl rfl (y_assign rfl) ?_
  refine Run.nil ?_
  refine Run.nT ?_
  refine Run.seq ?_
  refine Run.seq ?_
  refine Run.weaken (Incl.same (t := 0) rfl (Incl.same (t := 1) rfl (Incl.same (t := 2) rfl Incl.nil))) ?_
  refine q_draw ?_ rfl
  refine Draw.step rfl rfl rfl (StepOk.op rfl rfl rfl (y_field rfl Tryd.underlying66 rfl ti3.siz rfl)) rfl ?_
  refine Draw.step rfl rfl rfl (StepOk.op rfl rfl rfl (y_load rfl Tryd.underlying3 rfl)) rfl ?_
  refine Draw.step rfl rfl rfl (StepOk.op rfl rfl rfl (Yields.bool (c := true) (q_call en58 rfl (valid_fn s _)) (rfl))) rfl ?_
  refine Draw.step rfl rfl rfl (StepOk.op rfl rfl rfl (y_not rfl)) rfl ?_
  refine Draw.step rfl rfl rfl (StepOk.op rfl rfl rfl (y_move rfl)) rfl ?_
  refine Draw.step rfl rfl rfl (StepOk.opG rfl rfl rfl rfl rfl (y_field rfl Tryd.underlying66 rfl ti3.siz rfl)) rfl ?_
  refine Draw.step rfl rfl rfl (StepOk.opG rfl rfl rfl rfl rfl (y_load rfl Tryd.underlying3 rfl)) rfl ?_
  refine Draw.step rfl rfl rfl (StepOk.opG rfl rfl rfl rfl rfl (y_field rfl Tryd.underlying66 rfl ti3.siz rfl)) rfl ?_
  refine Draw.step rfl rfl rfl (StepOk.opG rfl rfl rfl rfl rfl (y_load rfl Tryd.underlying3 rfl)) rfl ?_
  refine Draw.step rfl rfl rfl (StepOk.opG rfl rfl rfl rfl rfl (q_call en73 rfl (Twos_fn s _))) rfl ?_
  refine Draw.step rfl rfl rfl (StepOk.opG rfl rfl rfl rfl rfl (y_min rfl rfl)) rfl ?_
  refine Draw.step rfl rfl rfl (StepOk.opG rfl rfl rfl rfl rfl (Yields.bool (c := true) (q_call en72 rfl (between_fn s _ _ _)) (by have h5 : fT 0 = 5 := rfl; rw [h5]; simp; omega))) rfl ?_
  refine Draw.step rfl rfl rfl (StepOk.opG rfl rfl rfl rfl rfl (y_not rfl)) rfl ?_
  refine Draw.step rfl rfl rfl (StepOk.op rfl rfl rfl (y_pickF rfl rfl)) rfl ?_
  refine Draw.step rfl rfl rfl (StepOk.op rfl rfl rfl (y_move rfl)) rfl ?_
  refine Draw.step rfl rfl rfl (StepOk.opG rfl rfl rfl rfl rfl (y_field rfl Tryd.underlying66 rfl ti3.siz rfl)) rfl ?_
  refine Draw.step rfl rfl rfl (StepOk.opG rfl rfl rfl rfl rfl (y_load rfl Tryd.underlying3 rfl)) rfl ?_
  refine Draw.step rfl rfl rfl (StepOk.opG rfl rfl rfl rfl rfl (Yields.bool (c := true) (q_call en72 rfl (between_fn s _ _ _)) (by decide))) rfl ?_
  refine Draw.step rfl rfl rfl (StepOk.opG rfl rfl rfl rfl rfl (y_not rfl)) rfl ?_
  refine Draw.step rfl rfl rfl (StepOk.op rfl rfl rfl (y_pickF rfl rfl)) rfl ?_
  refine Draw.step rfl rfl rfl (StepOk.op rfl rfl rfl (y_move rfl)) rfl ?_
  refine Draw.step rfl rfl rfl (StepOk.opG rfl rfl rfl rfl rfl (y_field rfl Tryd.underlying66 rfl ti3.siz rfl)) rfl ?_
  refine Draw.step rfl rfl rfl (StepOk.opG rfl rfl rfl rfl rfl (y_load rfl Tryd.underlying3 rfl)) rfl ?_
  refine Draw.step rfl rfl rfl (StepOk.opG rfl rfl rfl rfl rfl (Yields.bool (c := true) (q_call en72 rfl (between_fn s _ _ _)) (by decide))) rfl ?_
  refine Draw.step rfl rfl rfl (StepOk.opG rfl rfl rfl rfl rfl (y_not rfl)) rfl ?_
  refine Draw.step rfl rfl rfl (StepOk.op rfl rfl rfl (y_pickF rfl rfl)) rfl ?_
  refine Draw.tail (m := 26) rfl rfl rfl ?_
  refine Run.nil ?_
  refine Run.nT ?_
  refine Run.cond0 rfl ?_
  refine Run.skip ?_
  refine Run.nT ?_
  refine Run.seq ?_
  refine Run.seq ?_
  refine Run.region ?_
  refine Run.op rfl rfl rfl (y_field rfl Tryd.underlying66 rfl ti61.siz rfl) ?_
  refine Run.op rfl rfl rfl (y_load rfl Tryd.underlying61 rfl) ?_
  refine Run.op rfl rfl rfl (y_lenS rfl Tryd.underlying61) ?_
  refine Run.op rfl rfl rfl (Yields.bool (c := false) (y_gtr rfl rfl) (rfl)) ?_
  refine Run.op rfl rfl rfl (y_move rfl) ?_
  refine Run.opG rfl rfl rfl rfl rfl (y_field rfl Tryd.underlying66 rfl ti62.siz rfl) ?_
  refine Run.opG rfl rfl rfl rfl rfl (y_load rfl Tryd.underlying62 rfl) ?_
  refine Run.opG rfl rfl rfl rfl rfl (y_lenS rfl Tryd.underlying62) ?_
  refine Run.opG rfl rfl rfl rfl rfl (Yields.bool (c := false) (y_gtr rfl rfl) (rfl)) ?_
  refine Run.op rfl rfl rfl (y_pickF rfl rfl) ?_
  refine Run.op rfl rfl rfl (y_move rfl) ?_
  refine Run.opG rfl rfl rfl rfl rfl (y_field rfl Tryd.underlying66 rfl ti63.siz rfl) ?_
  refine Run.opG rfl rfl rfl rfl rfl (y_load rfl Tryd.underlying63 rfl) ?_
  refine Run.opG rfl rfl rfl rfl rfl (y_lenS rfl Tryd.underlying63) ?_
  refine Run.opG rfl rfl rfl rfl rfl (Yields.bool (c := false) (y_gtr rfl rfl) (rfl)) ?_
  refine Run.op rfl rfl rfl (y_pickF rfl rfl) ?_
  refine Run.op rfl rfl rfl (y_move rfl) ?_
  refine Run.opG rfl rfl rfl rfl rfl (y_field rfl Tryd.underlying66 rfl ti64.siz rfl) ?_
  refine Run.opG rfl rfl rfl rfl rfl (y_load rfl Tryd.underlying64 rfl) ?_
  refine Run.opG rfl rfl rfl rfl rfl (y_lenS rfl Tryd.underlying64) ?_
  refine Run.opG rfl rfl rfl rfl rfl (Yields.bool (c := false) (y_gtr rfl rfl) (rfl)) ?_
  refine Run.op rfl rfl rfl (y_pickF rfl rfl) ?_
  refine Run.nil ?_
  refine Run.nT ?_
  refine Run.cond0 rfl ?_
  refine Run.skip ?_
  refine Run.nT ?_
  refine Run.seq ?_
  refine Run.seq ?_
  refine Run.weaken (Incl.same (t := 0) rfl (Incl.same (t := 1) rfl (Incl.same (t := 2) rfl Incl.nil))) ?_
  refine q_draw ?_ rfl
  refine Draw.step rfl rfl rfl (StepOk.op rfl rfl rfl (y_field rfl Tryd.underlying66 rfl ti3.siz rfl)) rfl ?_
  refine Draw.step rfl rfl rfl (StepOk.op rfl rfl rfl (y_load rfl Tryd.underlying3 rfl)) rfl ?_
  refine Draw.step rfl rfl rfl (StepOk.op rfl rfl rfl (y_field rfl Tryd.underlying66 rfl ti3.siz rfl)) rfl ?_
  refine Draw.step rfl rfl rfl (StepOk.op rfl rfl rfl (y_load rfl Tryd.underlying3 rfl)) rfl ?_
  refine Draw.step rfl rfl rfl (StepOk.op rfl rfl rfl (y_shl (r := ((2 ^ k : Nat) : Int)) rfl rfl (by omega) (shl1 (by omega)))) rfl ?_
  refine Draw.step rfl rfl rfl (StepOk.op rfl rfl rfl (y_field rfl Tryd.underlying66 rfl ti61.siz rfl)) rfl ?_
  refine Draw.step rfl rfl rfl (StepOk.op rfl rfl rfl (y_load rfl Tryd.underlying61 rfl)) rfl ?_
  refine Draw.step rfl rfl rfl (StepOk.op rfl rfl rfl (Yields.bool (c := true) (q_call en74 rfl (columns_fn s 0 (2 ^ k) (by omega) [t] (by simp) (by intro c hc; simp at hc; subst hc; exact ⟨ht, fun x hx => (h97 x hx).2⟩))) (rfl))) rfl ?_
  refine Draw.step rfl rfl rfl (StepOk.op rfl rfl rfl (y_not rfl)) rfl ?_
  refine Draw.tail (m := 9) rfl rfl rfl ?_
  refine Run.nil ?_
  refine Run.nT ?_
  refine Run.cond0 rfl ?_
  refine Run.skip ?_
  refine Run.nT ?_
  refine Run.seq ?_
  refine Run.seq ?_
  refine Run.region ?_
  refine Run.op rfl rfl rfl (y_field rfl Tryd.underlying66 rfl ti62.siz rfl) ?_
  refine Run.op rfl rfl rfl (y_load rfl Tryd.underlying62 rfl) ?_
  refine Run.op rfl rfl rfl (y_lenS rfl Tryd.underlying62) ?_
  refine Run.op rfl rfl rfl (y_move rfl) ?_
  refine Run.nil ?_
  refine Run.nT ?_
  refine Run.block ?_
  refine Run.loopK (ι := Unit) (fun _ => True) (fun _ => 0) (fun _ => []) [1, 67, 68] (fun _ => [(69, i64 0)]) () trivial rfl (Incl.same (t := 69) rfl (Incl.pick [1, 67, 68])) ?_
  rintro ⟨⟩ _
  refine Run.seq ?_
  refine Run.region ?_
  refine Run.op rfl rfl rfl (Yields.bool (c := false) (y_lss rfl rfl) (by decide)) ?_
  refine Run.nil ?_
  refine Run.nT ?_
  refine Run.seq ?_
  refine Run.cond0 rfl ?_
  refine Run.exit ?_
  refine Run.eT ?_
  refine Run.eT ?_
  refine Run.eB ?_
  refine Run.nT ?_
  refine Run.seq ?_
  refine Run.seq ?_
  refine Run.region ?_
  refine Run.op rfl rfl rfl (y_field rfl Tryd.underlying66 rfl ti63.siz rfl) ?_
  refine Run.op rfl rfl rfl (y_load rfl Tryd.underlying63 rfl) ?_
  refine Run.op rfl rfl rfl (y_lenS rfl Tryd.underlying63) ?_
  refine Run.op rfl rfl rfl (y_move rfl) ?_
  refine Run.nil ?_
  refine Run.nT ?_
  refine Run.block ?_
  refine Run.loopK (ι := Nat) (fun j => j ≤ 1) (fun j => 1 - j) (fun j => []) [1, 79, 80] (fun j => [(81, i64 j)]) 0 (by omega) rfl (Incl.same (t := 81) rfl (Incl.pick [1, 79, 80])) ?_
  rintro j hj
  refine Run.seq ?_
  refine Run.region ?_
  refine Run.op rfl rfl rfl (y_lss rfl rfl) ?_
  refine Run.nil ?_
  refine Run.nT ?_
  refine Run.seq ?_
  refine Run.cond rfl (fun hb => ?_) (fun hb => ?_)
  · obtain rfl : j = 0 := by have : (j : Int) < 1 := of_decide_eq_true hb; omega
    refine Run.skip ?_
    refine Run.nT ?_
    refine Run.seq ?_
    refine Run.block ?_
    refine Run.seq ?_
    refine Run.region ?_
    refine Run.op rfl rfl rfl (q_index 0 perm14 rfl rfl Tryd.underlying63 ti133 (fun _ => rfl) (rfl) (rfl)) ?_
    refine Run.op rfl rfl rfl (y_loadW rfl Tryd.underlying133 rfl ti133.siz) ?_
    refine q_alloc ti133 rfl rfl ?_
    intro b6
    refine Run.storeW 6 rfl rfl rfl ti133.siz rfl ?_
    refine Run.freezeB 6 6 rfl rfl ?_
    refine Run.nil ?_
    refine Run.nT ?_
    refine Run.seq ?_
    refine Run.region ?_
    refine Run.op rfl rfl rfl (y_loadW rfl Tryd.underlying66 rfl ti66.siz) ?_
    refine Run.op rfl rfl rfl (y_loadW rfl Tryd.underlying133 rfl ti133.siz) ?_
    refine Run.op rfl rfl rfl (Yields.bool (c := true) (q_call en76 rfl (permuted_fn s k t)) (rfl)) ?_
    refine Run.op rfl rfl rfl (y_not rfl) ?_
    refine Run.nil ?_
    refine Run.nT ?_
    refine Run.cond0 rfl ?_
    refine Run.skip ?_
    refine Run.nB ?_
    refine Run.nT ?_
    refine Run.region ?_
    refine Run.op rfl rfl rfl (y_add rfl rfl (by first | exact wI_in (by omega) | rfl)) ?_
    refine Run.op rfl rfl rfl (y_move rfl) ?_
    refine Run.nil ?_
    refine Run.nT ?_
    refine Run.round (0 + 1) ?_ ?_ ?_ ?_
    · show 0 + 1 ≤ 1; omega
    · show 1 - (0 + 1) < 1 - 0; omega
    · rfl
    · exact (Incl.same (t := 81) rfl (Incl.same (t := 1) rfl (Incl.same (t := 79) rfl (Incl.same (t := 80) rfl Incl.nil))))
  · try simp only [decide_eq_true_eq, decide_eq_false_iff_not, Bool.not_eq_true', Bool.not_eq_false', Bool.and_eq_true, Bool.or_eq_true, Bool.and_eq_false_iff, Bool.or_eq_false_iff] at hb
    refine Run.exit ?_
    refine Run.eT ?_
    refine Run.eT ?_
    refine Run.eB ?_
    refine Run.nT ?_
    refine Run.seq ?_
    refine Run.seq ?_
    refine Run.region ?_
    refine Run.op rfl rfl rfl (y_field rfl Tryd.underlying66 rfl ti64.siz rfl) ?_
    refine Run.op rfl rfl rfl (y_load rfl Tryd.underlying64 rfl) ?_
    refine Run.op rfl rfl rfl (y_lenS rfl Tryd.underlying64) ?_
    refine Run.op rfl rfl rfl (y_move rfl) ?_
    refine Run.nil ?_
    refine Run.nT ?_
    refine Run.block ?_
    refine Run.loopK (ι := Nat) (fun j => j ≤ 1) (fun j => 1 - j) (fun j => []) [1, 91, 92] (fun j => [(93, i64 j)]) 0 (by omega) rfl (Incl.same (t := 93) rfl (Incl.pick [1, 91, 92])) ?_
    rintro j hj
    refine Run.seq ?_
    refine Run.region ?_
    refine Run.op rfl rfl rfl (y_lss rfl rfl) ?_
    refine Run.nil ?_
    refine Run.nT ?_
    refine Run.seq ?_
    refine Run.cond rfl (fun hb => ?_) (fun hb => ?_)
    · obtain rfl : j = 0 := by have : (j : Int) < 1 := of_decide_eq_true hb; omega
      refine Run.skip ?_
      refine Run.nT ?_
      refine Run.seq ?_
      refine Run.block ?_
      refine Run.seq ?_
      refine Run.region ?_
      refine Run.op rfl rfl rfl (q_index 0 look14 rfl rfl Tryd.underlying64 ti135 (fun _ => rfl) (rfl) (rfl)) ?_
      refine Run.op rfl rfl rfl (y_loadW rfl Tryd.underlying135 rfl ti135.siz) ?_
      refine q_alloc ti135 rfl rfl ?_
      intro b8
      refine Run.storeW 8 rfl rfl rfl ti135.siz rfl ?_
      refine Run.freezeB 8 8 rfl rfl ?_
      refine Run.nil ?_
      refine Run.nT ?_
      refine Run.seq ?_
      refine Run.region ?_
      refine Run.op rfl rfl rfl (y_loadW rfl Tryd.underlying66 rfl ti66.siz) ?_
      refine Run.op rfl rfl rfl (y_loadW rfl Tryd.underlying135 rfl ti135.siz) ?_
      refine Run.op rfl rfl rfl (Yields.bool (c := true) (q_call en77 rfl (looked_fn s k t)) (rfl)) ?_
      refine Run.op rfl rfl rfl (y_not rfl) ?_
      refine Run.nil ?_
      refine Run.nT ?_
      refine Run.cond0 rfl ?_
      refine Run.skip ?_
      refine Run.nB ?_
      refine Run.nT ?_
      refine Run.region ?_
      refine Run.op rfl rfl rfl (y_add rfl rfl (by first | exact wI_in (by omega) | rfl)) ?_
      refine Run.op rfl rfl rfl (y_move rfl) ?_
      refine Run.nil ?_
      refine Run.nT ?_
      refine Run.round (0 + 1) ?_ ?_ ?_ ?_
      · show 0 + 1 ≤ 1; omega
      · show 1 - (0 + 1) < 1 - 0; omega
      · rfl
      · exact (Incl.same (t := 93) rfl (Incl.same (t := 1) rfl (Incl.same (t := 91) rfl (Incl.same (t := 92) rfl Incl.nil))))
    · try simp only [decide_eq_true_eq, decide_eq_false_iff_not, Bool.not_eq_true', Bool.not_eq_false', Bool.and_eq_true, Bool.or_eq_true, Bool.and_eq_false_iff, Bool.or_eq_false_iff] at hb
      refine Run.exit ?_
      refine Run.eT ?_
      refine Run.eT ?_
      refine Run.eB ?_
      refine Run.nT ?_
      refine Run.seq ?_
      refine Run.region ?_
      refine Run.op rfl rfl rfl (y_assign rfl) ?_
      refine Run.nil ?_
      refine Run.nT ?_
      refine Run.ret ?_
      exact Run.fin1 rfl rfl rfl (.tmp rfl) (fun _ _ h => h)

theorem fits_fn (k : Nat) (hk : 1 ≤ k ∧ k ≤ 3) (t : List Int) (ht : t.length = 2 ^ k) (h97 : in97 t) (cs : List (List Int)) (hcs : cs.length = 6) (hc : ∀ c ∈ cs, c.length = 2 ^ k ∧ in97 c) : Fn s.env 117 [sagg (Ksys k t), sagg (Ktr cs)] (sbool true) := by
  have hp8 := pow2_le (k := k) (m := 3) (by omega)
  have hp8 : 2 ^ k ≤ 8 := hp8
  refine Fn.of Tryd.func117 rfl Tryd.ntmps117 rfl ?_
  intro w0 F0
  refine Run.seq ?_
  refine Run.region ?_
  refine Run.boxA rfl rfl ?_
  intro b2
  refine Run.freezeB 2 2 rfl rfl ?_
  refine Run.boxA rfl rfl ?_
  intro b3
  refine Run.freezeB 3 3 rfl rfl ?_
  refine Run.op rfl rfl rfl (y_assign rfl) ?_
  refine Run.nil ?_
  refine Run.nT ?_
  refine Run.seq ?_
  refine Run.weaken (Incl.same (t := 0) rfl (Incl.same (t := 1) rfl (Incl.same (t := 2) rfl (Incl.same (t := 3) rfl Incl.nil)))) ?_
  refine q_draw ?_ rfl
  refine Draw.step rfl rfl rfl (StepOk.op rfl rfl rfl (y_loadW rfl Tryd.underlying66 rfl ti66.siz)) rfl ?_
  refine Draw.step rfl rfl rfl (StepOk.op rfl rfl rfl (Yields.bool (c := true) (q_call en28 rfl (sysValid_fn s k hk t ht h97)) (rfl))) rfl ?_
  refine Draw.step rfl rfl rfl (StepOk.op rfl rfl rfl (y_move rfl)) rfl ?_
  refine Draw.step rfl rfl rfl (StepOk.opG rfl rfl rfl rfl rfl (y_field rfl Tryd.underlying68 rfl ti29.siz rfl)) rfl ?_
  refine Draw.step rfl rfl rfl (StepOk.opG rfl rfl rfl rfl rfl (y_load rfl Tryd.underlying29 rfl)) rfl ?_
  refine Draw.step rfl rfl rfl (StepOk.opG rfl rfl rfl rfl rfl (y_lenS rfl Tryd.underlying29)) rfl ?_
  refine Draw.step rfl rfl rfl (StepOk.opG rfl rfl rfl rfl rfl (y_field rfl Tryd.underlying66 rfl ti3.siz rfl)) rfl ?_
  refine Draw.step rfl rfl rfl (StepOk.opG rfl rfl rfl rfl rfl (y_load rfl Tryd.underlying3 rfl)) rfl ?_
  refine Draw.step rfl rfl rfl (StepOk.opG rfl rfl rfl rfl rfl (Yields.bool (c := true) (y_eql rfl rfl) (by decide))) rfl ?_
  refine Draw.step rfl rfl rfl (StepOk.op rfl rfl rfl (y_pickT rfl rfl)) rfl ?_
  refine Draw.step rfl rfl rfl (StepOk.op rfl rfl rfl (y_move rfl)) rfl ?_
  refine Draw.step rfl rfl rfl (StepOk.opG rfl rfl rfl rfl rfl (y_field rfl Tryd.underlying68 rfl ti61.siz rfl)) rfl ?_
  refine Draw.step rfl rfl rfl (StepOk.opG rfl rfl rfl rfl rfl (y_load rfl Tryd.underlying61 rfl)) rfl ?_
  refine Draw.step rfl rfl rfl (StepOk.opG rfl rfl rfl rfl rfl (y_lenS rfl Tryd.underlying61)) rfl ?_
  refine Draw.step rfl rfl rfl (StepOk.opG rfl rfl rfl rfl rfl (y_field rfl Tryd.underlying66 rfl ti3.siz rfl)) rfl ?_
  refine Draw.step rfl rfl rfl (StepOk.opG rfl rfl rfl rfl rfl (y_load rfl Tryd.underlying3 rfl)) rfl ?_
  refine Draw.step rfl rfl rfl (StepOk.opG rfl rfl rfl rfl rfl (Yields.bool (c := true) (y_eql rfl rfl) (by rw [hcs]; decide))) rfl ?_
  refine Draw.step rfl rfl rfl (StepOk.op rfl rfl rfl (y_pickT rfl rfl)) rfl ?_
  refine Draw.step rfl rfl rfl (StepOk.op rfl rfl rfl (y_move rfl)) rfl ?_
  refine Draw.step rfl rfl rfl (StepOk.opG rfl rfl rfl rfl rfl (y_field rfl Tryd.underlying66 rfl ti3.siz rfl)) rfl ?_
  refine Draw.step rfl rfl rfl (StepOk.opG rfl rfl rfl rfl rfl (y_load rfl Tryd.underlying3 rfl)) rfl ?_
  refine Draw.step rfl rfl rfl (StepOk.opG rfl rfl rfl rfl rfl (y_field rfl Tryd.underlying68 rfl ti29.siz rfl)) rfl ?_
  refine Draw.step rfl rfl rfl (StepOk.opG rfl rfl rfl rfl rfl (y_load rfl Tryd.underlying29 rfl)) rfl ?_
  refine Draw.step rfl rfl rfl (StepOk.opG rfl rfl rfl rfl rfl (Yields.bool (c := true) (q_call en126 rfl (elements_fn s 0 [] (by simp) (by simp))) (rfl))) rfl ?_
  refine Draw.step rfl rfl rfl (StepOk.op rfl rfl rfl (y_pickT rfl rfl)) rfl ?_
  refine Draw.step rfl rfl rfl (StepOk.op rfl rfl rfl (y_move rfl)) rfl ?_
  refine Draw.step rfl rfl rfl (StepOk.opG rfl rfl rfl rfl rfl (y_field rfl Tryd.underlying66 rfl ti3.siz rfl)) rfl ?_
  refine Draw.step rfl rfl rfl (StepOk.opG rfl rfl rfl rfl rfl (y_load rfl Tryd.underlying3 rfl)) rfl ?_
  refine Draw.step rfl rfl rfl (StepOk.opG rfl rfl rfl rfl rfl (y_field rfl Tryd.underlying66 rfl ti3.siz rfl)) rfl ?_
  refine Draw.step rfl rfl rfl (StepOk.opG rfl rfl rfl rfl rfl (y_load rfl Tryd.underlying3 rfl)) rfl ?_
  refine Draw.step rfl rfl rfl (StepOk.opG rfl rfl rfl rfl rfl (y_shl (r := ((2 ^ k : Nat) : Int)) rfl rfl (by omega) (shl1 (by omega)))) rfl ?_
  refine Draw.step rfl rfl rfl (StepOk.opG rfl rfl rfl rfl rfl (y_field rfl Tryd.underlying68 rfl ti61.siz rfl)) rfl ?_
  refine Draw.step rfl rfl rfl (StepOk.opG rfl rfl rfl rfl rfl (y_load rfl Tryd.underlying61 rfl)) rfl ?_
  refine Draw.step rfl rfl rfl (StepOk.opG rfl rfl rfl rfl rfl (Yields.bool (c := true) (q_call en74 rfl (columns_fn s 0 (2 ^ k) (by omega) cs (by omega) (fun c h => ⟨(hc c h).1, fun x hx => ((hc c h).2 x hx).2⟩))) (rfl))) rfl ?_
  refine Draw.step rfl rfl rfl (StepOk.op rfl rfl rfl (y_pickT rfl rfl)) rfl ?_
  refine Draw.step rfl rfl rfl (StepOk.op rfl rfl rfl (y_assign rfl)) rfl ?_
  refine Draw.tail (m := 36) rfl rfl rfl ?_
  refine Run.nil ?_
  refine Run.nT ?_
  refine Run.ret ?_
  exact Run.fin1 rfl rfl rfl (.tmp rfl) (fun _ _ h => h)

end

end Go.Vx
