/- Walks: the constraints, the columns of the argument. Conditions: as each says. Printed by a program of our own (wip/tools/gen2.py). -/
import Derived.Test.YtofnjbcbkfbomaaDoorWl
namespace Go.Vx
open Go Go.RowKit Go.Proofs
set_option maxRecDepth 100000
variable (s : Seat)

section
variable [hF : HasF s]

set_option maxHeartbeats 4000000 in
theorem cvalues_fn (k : Nat) (hk : 1 ≤ k ∧ k ≤ 3) (t : List Int) (c d : Int) (hc : 0 ≤ c ∧ c < 97) (hd : 0 ≤ d ∧ d < 97) (mn nx : List Int) (ft z y z2 y2 : Int) (hmn : mn.length = 6) (hmx : in97 mn) (hft : 0 ≤ ft ∧ ft < 97) (hz : 0 ≤ z ∧ z < 97) (hy : 0 ≤ y ∧ y < 97) (hz2 : 0 ≤ z2 ∧ z2 < 97) (hy2 : 0 ≤ y2 ∧ y2 < 97) : Fn s.env 142 [sagg (Ksys k t), sagg (Kenv mn nx [ft] [z, y] [z2, y2] [c, d])] (stup [slc Ku (vals4 mn ft z y z2 y2 c d), i64 0]) := by
  have hP1 : ∀ l ∈ perm14.1, l.length ≤ 4 ∧ ∀ v ∈ l, vok v := by simp [perm14, vok]; intro a b h; omega
  have hP2 : ∀ l ∈ perm14.2, l.length ≤ 4 ∧ ∀ v ∈ l, vok v := by simp [perm14, vok]; intro a b h; omega
  have hL1 : ∀ v ∈ look14.1, vok v := by simp [look14, vok]
  have hL2 : ∀ v ∈ look14.2.1, vok v := by simp [look14, vok]
  have hp97 : (0 : Int) < fP 0 := by decide
  have hm3 : ∀ x ∈ mn, 0 ≤ x := fun x hx => (hmx x hx).1
  have hm4 : ∀ x ∈ [ft], 0 ≤ x := by simp; omega
  have hb1 := rprod_nn (p := fP 0) (by decide) (mn, [ft]) c d perm14.1
  have hb2 := rprod_nn (p := fP 0) (by decide) (mn, [ft]) c d perm14.2
  have hu := wgt_lt hp97 (look14.1.map (rv mn [ft])) c d
  have hw := wgt_lt hp97 (look14.2.1.map (rv mn [ft])) c d
  have hn5 := in97_get hmx (j := 5) (by omega)
  have hm1 := em_lt hp97 (z2 * rprod (fP 0) (mn, [ft]) c d perm14.2)
  have hm2 := em_lt hp97 (z * rprod (fP 0) (mn, [ft]) c d perm14.1)
  have hty := total_nn hp97 hy2.1 [y]
  have huw := em_lt hp97 (rwt (fP 0) (mn, [ft]) c d look14.1 * rwt (fP 0) (mn, [ft]) c d look14.2.1)
  have hst := em_lt hp97 (total (fP 0) y2 [y] * (rwt (fP 0) (mn, [ft]) c d look14.1 * rwt (fP 0) (mn, [ft]) c d look14.2.1 % fP 0))
  have hus := em_lt hp97 (mn.getD 5 0 * rwt (fP 0) (mn, [ft]) c d look14.1)
  have hsu := em_lt hp97 (total (fP 0) y2 [y] * (rwt (fP 0) (mn, [ft]) c d look14.1 * rwt (fP 0) (mn, [ft]) c d look14.2.1 % fP 0) % fP 0 + mn.getD 5 0 * rwt (fP 0) (mn, [ft]) c d look14.1 % fP 0)
  refine Fn.of Tryd.func142 rfl Tryd.ntmps142 rfl ?_
  intro w0 F0
  refine Run.seq ?_
  refine Run.region ?_
  refine Run.boxA rfl rfl ?_
  intro b2
  refine Run.freezeB 2 2 rfl rfl ?_
  refine Run.boxA rfl rfl ?_
  intro b3
  refine Run.freezeB 3 3 rfl rfl ?_
  refine Run.op rfl rfl rfl (y_assign rfl) ?_
  refine Run.op rfl rfl rfl (y_assign rfl) ?_
  refine Run.nil ?_
  refine Run.nT ?_
  refine Run.seq ?_
  refine Run.region ?_
  refine Run.op rfl rfl rfl (y_field rfl Tryd.underlying66 rfl ti3.siz rfl) ?_
  refine Run.op rfl rfl rfl (y_load rfl Tryd.underlying3 rfl) ?_
  refine Run.op rfl rfl rfl (y_assign rfl) ?_
  refine Run.nil ?_
  refine Run.nT ?_
  refine Run.seq ?_
  refine Run.region ?_
  refine Run.op rfl rfl rfl (y_field rfl Tryd.underlying66 rfl ti62.siz rfl) ?_
  refine Run.op rfl rfl rfl (y_load rfl Tryd.underlying62 rfl) ?_
  refine Run.op rfl rfl rfl (y_lenS rfl Tryd.underlying62) ?_
  refine Run.op rfl rfl rfl (y_field rfl Tryd.underlying66 rfl ti63.siz rfl) ?_
  refine Run.op rfl rfl rfl (y_load rfl Tryd.underlying63 rfl) ?_
  refine Run.op rfl rfl rfl (y_lenS rfl Tryd.underlying63) ?_
  refine Run.op rfl rfl rfl (y_field rfl Tryd.underlying66 rfl ti64.siz rfl) ?_
  refine Run.op rfl rfl rfl (y_load rfl Tryd.underlying64 rfl) ?_
  refine Run.op rfl rfl rfl (y_lenS rfl Tryd.underlying64) ?_
  refine Run.op rfl rfl rfl (y_add rfl rfl (by first | exact wI_in (by omega) | rfl)) ?_
  refine Run.op rfl rfl rfl (y_mul rfl rfl (by first | exact wI_in (by omega) | rfl)) ?_
  refine Run.op rfl rfl rfl (y_add rfl rfl (by first | exact wI_in (by omega) | rfl)) ?_
  refine Run.makeCap (K := Ku) rfl rfl (show _ = ((4 : Nat) : Int) by rfl) Tryd.underlying29 ti33 (by omega) rfl ?_
  intro v40
  refine Run.op rfl rfl rfl (y_assign rfl) ?_
  refine Run.nil ?_
  refine Run.nT ?_
  refine Run.seq ?_
  refine Run.seq ?_
  refine Run.region ?_
  refine Run.op rfl rfl rfl (y_field rfl Tryd.underlying66 rfl ti62.siz rfl) ?_
  refine Run.op rfl rfl rfl (y_load rfl Tryd.underlying62 rfl) ?_
  refine Run.op rfl rfl rfl (y_lenS rfl Tryd.underlying62) ?_
  refine Run.op rfl rfl rfl (y_move rfl) ?_
  refine Run.nil ?_
  refine Run.nT ?_
  refine Run.block ?_
  refine Run.loopK (ι := Unit) (fun _ => True) (fun _ => 0) (fun _ => []) [2, 3, 6, 42, 43] (fun _ => [(44, i64 0), (7, sval v40)]) () trivial rfl (Incl.same (t := 44) rfl (Incl.same (t := 7) rfl (Incl.pick [2, 3, 6, 42, 43]))) ?_
  rintro ⟨⟩ _
  refine Run.seq ?_
  refine Run.region ?_
  refine Run.op rfl rfl rfl (Yields.bool (c := false) (y_lss rfl rfl) (rfl)) ?_
  refine Run.nil ?_
  refine Run.nT ?_
  refine Run.seq ?_
  refine Run.cond0 rfl ?_
  refine Run.exit ?_
  refine Run.eT ?_
  refine Run.eT ?_
  refine Run.eB ?_
  refine Run.nT ?_
  refine Run.seq ?_
  refine Run.region ?_
  refine Run.op rfl rfl rfl (y_field rfl Tryd.underlying66 rfl ti63.siz rfl) ?_
  refine Run.op rfl rfl rfl (y_load rfl Tryd.underlying63 rfl) ?_
  refine Run.op rfl rfl rfl (y_lenS rfl Tryd.underlying63) ?_
  refine Run.op rfl rfl rfl (y_field rfl Tryd.underlying66 rfl ti64.siz rfl) ?_
  refine Run.op rfl rfl rfl (y_load rfl Tryd.underlying64 rfl) ?_
  refine Run.op rfl rfl rfl (y_lenS rfl Tryd.underlying64) ?_
  refine Run.op rfl rfl rfl (y_add rfl rfl (by first | exact wI_in (by omega) | rfl)) ?_
  refine Run.op rfl rfl rfl (y_assign rfl) ?_
  refine Run.nil ?_
  refine Run.nT ?_
  refine Run.seq ?_
  refine Run.seq ?_
  refine Run.region ?_
  refine Run.op rfl rfl rfl (y_move rfl) ?_
  refine Run.op rfl rfl rfl (Yields.bool (c := false) (y_eql rfl rfl) (rfl)) ?_
  refine Run.nil ?_
  refine Run.nT ?_
  refine Run.cond0 rfl ?_
  refine Run.skip ?_
  refine Run.nT ?_
  refine Run.seq ?_
  refine Run.seq ?_
  refine Run.region ?_
  refine Run.op rfl rfl rfl (y_field rfl Tryd.underlying152 rfl ti29.siz rfl) ?_
  refine Run.op rfl rfl rfl (y_load rfl Tryd.underlying29 rfl) ?_
  refine Run.op rfl rfl rfl (y_lenS rfl Tryd.underlying29) ?_
  refine Run.op rfl rfl rfl (y_field rfl Tryd.underlying66 rfl ti3.siz rfl) ?_
  refine Run.op rfl rfl rfl (y_load rfl Tryd.underlying3 rfl) ?_
  refine Run.op rfl rfl rfl (Yields.bool (c := false) (y_lss rfl rfl) (by rw [hmn]; decide)) ?_
  refine Run.op rfl rfl rfl (y_move rfl) ?_
  refine Run.opG rfl rfl rfl rfl rfl (y_field rfl Tryd.underlying152 rfl ti29.siz rfl) ?_
  refine Run.opG rfl rfl rfl rfl rfl (y_load rfl Tryd.underlying29 rfl) ?_
  refine Run.opG rfl rfl rfl rfl rfl (y_lenS rfl Tryd.underlying29) ?_
  refine Run.opG rfl rfl rfl rfl rfl (y_field rfl Tryd.underlying66 rfl ti61.siz rfl) ?_
  refine Run.opG rfl rfl rfl rfl rfl (y_load rfl Tryd.underlying61 rfl) ?_
  refine Run.opG rfl rfl rfl rfl rfl (y_lenS rfl Tryd.underlying61) ?_
  refine Run.opG rfl rfl rfl rfl rfl (Yields.bool (c := false) (y_lss rfl rfl) (rfl)) ?_
  refine Run.op rfl rfl rfl (y_pickF rfl rfl) ?_
  refine Run.op rfl rfl rfl (y_move rfl) ?_
  refine Run.opG rfl rfl rfl rfl rfl (y_field rfl Tryd.underlying152 rfl ti29.siz rfl) ?_
  refine Run.opG rfl rfl rfl rfl rfl (y_load rfl Tryd.underlying29 rfl) ?_
  refine Run.opG rfl rfl rfl rfl rfl (y_lenS rfl Tryd.underlying29) ?_
  refine Run.opG rfl rfl rfl rfl rfl (y_field rfl Tryd.underlying152 rfl ti29.siz rfl) ?_
  refine Run.opG rfl rfl rfl rfl rfl (y_load rfl Tryd.underlying29 rfl) ?_
  refine Run.opG rfl rfl rfl rfl rfl (y_lenS rfl Tryd.underlying29) ?_
  refine Run.opG rfl rfl rfl rfl rfl (y_min rfl rfl) ?_
  refine Run.opG rfl rfl rfl rfl rfl (y_move rfl) ?_
  refine Run.opG rfl rfl rfl rfl rfl (Yields.bool (c := false) (y_lss rfl rfl) (rfl)) ?_
  refine Run.op rfl rfl rfl (y_pickF rfl rfl) ?_
  refine Run.op rfl rfl rfl (y_move rfl) ?_
  refine Run.opG rfl rfl rfl rfl rfl (y_field rfl Tryd.underlying152 rfl ti29.siz rfl) ?_
  refine Run.opG rfl rfl rfl rfl rfl (y_load rfl Tryd.underlying29 rfl) ?_
  refine Run.opG rfl rfl rfl rfl rfl (y_lenS rfl Tryd.underlying29) ?_
  refine Run.opG rfl rfl rfl rfl rfl (Yields.bool (c := false) (y_lss rfl rfl) (rfl)) ?_
  refine Run.op rfl rfl rfl (y_pickF rfl rfl) ?_
  refine Run.nil ?_
  refine Run.nT ?_
  refine Run.cond0 rfl ?_
  refine Run.skip ?_
  refine Run.nT ?_
  refine Run.seq ?_
  refine Run.weaken (Incl.same (t := 44) rfl (Incl.same (t := 7) rfl (Incl.same (t := 2) rfl (Incl.same (t := 3) rfl (Incl.same (t := 6) rfl (Incl.same (t := 42) rfl (Incl.same (t := 43) rfl (Incl.same (t := 12) rfl Incl.nil)))))))) ?_
  refine q_draw2 ⟨14, 13, 211, zeros (.agg #[.int .i64 0, .slice none 0 0, .slice none 0 0, .int .u64 0, .int .u64 0])⟩ ?_ rfl
  refine Draw2.step rfl rfl rfl ⟨StepOk.op rfl rfl rfl (y_move rfl), fun _ => StepOk.op rfl rfl rfl (y_move rfl)⟩ rfl rfl ?_
  refine Draw2.step rfl rfl rfl ⟨StepOk.op rfl rfl rfl (y_field rfl Tryd.underlying152 rfl ti29.siz rfl), fun _ => StepOk.op rfl rfl rfl (y_field rfl Tryd.underlying152 rfl ti29.siz rfl)⟩ rfl rfl ?_
  refine Draw2.step rfl rfl rfl ⟨StepOk.op rfl rfl rfl (y_load rfl Tryd.underlying29 rfl), fun _ => StepOk.op rfl rfl rfl (y_load rfl Tryd.underlying29 rfl)⟩ rfl rfl ?_
  refine Draw2.step rfl rfl rfl ⟨StepOk.op rfl rfl rfl (y_field rfl Tryd.underlying152 rfl ti29.siz rfl), fun _ => StepOk.op rfl rfl rfl (y_field rfl Tryd.underlying152 rfl ti29.siz rfl)⟩ rfl rfl ?_
  refine Draw2.step rfl rfl rfl ⟨StepOk.op rfl rfl rfl (y_load rfl Tryd.underlying29 rfl), fun _ => StepOk.op rfl rfl rfl (y_load rfl Tryd.underlying29 rfl)⟩ rfl rfl ?_
  refine Draw2.step rfl rfl rfl ⟨StepOk.op rfl rfl rfl (y_field rfl Tryd.underlying152 rfl ti29.siz rfl), fun _ => StepOk.op rfl rfl rfl (y_field rfl Tryd.underlying152 rfl ti29.siz rfl)⟩ rfl rfl ?_
  refine Draw2.step rfl rfl rfl ⟨StepOk.op rfl rfl rfl (y_load rfl Tryd.underlying29 rfl), fun _ => StepOk.op rfl rfl rfl (y_load rfl Tryd.underlying29 rfl)⟩ rfl rfl ?_
  refine Draw2.step rfl rfl rfl ⟨StepOk.op rfl rfl rfl (q_index (0) (c) rfl rfl Tryd.underlying29 ti33 (fun _ => rfl) (rfl) (rfl)), fun _ => StepOk.op rfl rfl rfl (q_index (0) (c) rfl rfl Tryd.underlying29 ti33 (fun _ => rfl) (rfl) (rfl))⟩ rfl rfl ?_
  refine Draw2.step rfl rfl rfl ⟨StepOk.op rfl rfl rfl (y_load rfl Tryd.underlying33 rfl), fun _ => StepOk.op rfl rfl rfl (y_load rfl Tryd.underlying33 rfl)⟩ rfl rfl ?_
  refine Draw2.step rfl rfl rfl ⟨StepOk.op rfl rfl rfl (y_field rfl Tryd.underlying152 rfl ti29.siz rfl), fun _ => StepOk.op rfl rfl rfl (y_field rfl Tryd.underlying152 rfl ti29.siz rfl)⟩ rfl rfl ?_
  refine Draw2.step rfl rfl rfl ⟨StepOk.op rfl rfl rfl (y_load rfl Tryd.underlying29 rfl), fun _ => StepOk.op rfl rfl rfl (y_load rfl Tryd.underlying29 rfl)⟩ rfl rfl ?_
  refine Draw2.step rfl rfl rfl ⟨StepOk.op rfl rfl rfl (q_index (1) (d) rfl rfl Tryd.underlying29 ti33 (fun _ => rfl) (rfl) (rfl)), fun _ => StepOk.op rfl rfl rfl (q_index (1) (d) rfl rfl Tryd.underlying29 ti33 (fun _ => rfl) (rfl) (rfl))⟩ rfl rfl ?_
  refine Draw2.step rfl rfl rfl ⟨StepOk.op rfl rfl rfl (y_load rfl Tryd.underlying33 rfl), fun _ => StepOk.op rfl rfl rfl (y_load rfl Tryd.underlying33 rfl)⟩ rfl rfl ?_
  refine Draw2.step rfl rfl rfl ⟨StepOk.op rfl rfl rfl (q_buildS [(0, 1), (1, 1), (2, 1), (3, 1), (4, 1)] Tryd.underlying211 ti211 rfl (fun w => by simp [run_sizeOf ti29.siz, run_sizeOf ti3.siz, run_sizeOf ti33.siz]) (.cons rfl (Part.one' rfl) rfl (.cons rfl (Part.one' rfl) rfl (.cons rfl (Part.one' rfl) rfl (.cons rfl (Part.one' rfl) rfl (.cons rfl (Part.one' rfl) rfl .nil)))))), fun _ => StepOk.op rfl rfl rfl (q_buildS [(0, 1), (1, 1), (2, 1), (3, 1), (4, 1)] Tryd.underlying211 ti211 rfl (fun w => by simp [run_sizeOf ti29.siz, run_sizeOf ti3.siz, run_sizeOf ti33.siz]) (.cons rfl (Part.one' rfl) rfl (.cons rfl (Part.one' rfl) rfl (.cons rfl (Part.one' rfl) rfl (.cons rfl (Part.one' rfl) rfl (.cons rfl (Part.one' rfl) rfl .nil))))))⟩ rfl rfl ?_
  refine Draw2.new rfl ?_
  refine q_tail2 (m := 15) rfl rfl ti211 rfl rfl rfl rfl rfl rfl ?_
  intro b13
  refine Run.storeW 13 rfl rfl rfl ti211.siz rfl ?_
  refine Run.freezeB 13 13 rfl rfl ?_
  refine Run.nil ?_
  refine Run.nT ?_
  refine Run.seq ?_
  refine Run.seq ?_
  refine Run.region ?_
  refine Run.op rfl rfl rfl (y_field rfl Tryd.underlying66 rfl ti63.siz rfl) ?_
  refine Run.op rfl rfl rfl (y_load rfl Tryd.underlying63 rfl) ?_
  refine Run.op rfl rfl rfl (y_lenS rfl Tryd.underlying63) ?_
  refine Run.op rfl rfl rfl (y_move rfl) ?_
  refine Run.nil ?_
  refine Run.nT ?_
  refine Run.block ?_
  refine Run.loopK (ι := Nat × Value × List Int) (fun ⟨j, v, l⟩ => j ≤ 1 ∧ (j = 0 → l = []) ∧ (j = 1 → l = [total (fP 0) (z2 * rprod (fP 0) (mn, [ft]) c d perm14.2 % fP 0) [z * rprod (fP 0) (mn, [ft]) c d perm14.1 % fP 0], total (fP 0) z [1]])) (fun ⟨j, v, l⟩ => 1 - j) (fun ⟨j, v, l⟩ => [(40, .rows Ku v 33 1 l)]) [2, 3, 6, 13, 121, 122] (fun ⟨j, v, l⟩ => [(123, i64 j), (7, sval v)]) (0, v40, []) ⟨by omega, fun _ => rfl, fun h => (by cases h)⟩ rfl (Incl.same (t := 123) rfl (Incl.same (t := 7) rfl (Incl.pick [2, 3, 6, 13, 121, 122]))) ?_
  rintro ⟨j, v, l⟩ ⟨hj, hl0, hl1⟩
  refine Run.seq ?_
  refine Run.region ?_
  refine Run.op rfl rfl rfl (y_lss rfl rfl) ?_
  refine Run.nil ?_
  refine Run.nT ?_
  refine Run.seq ?_
  refine Run.cond rfl (fun hb => ?_) (fun hb => ?_)
  · obtain rfl : j = 0 := by have : (j : Int) < 1 := of_decide_eq_true hb; omega
    obtain rfl := hl0 rfl
    refine Run.skip ?_
    refine Run.nT ?_
    refine Run.seq ?_
    refine Run.block ?_
    refine Run.seq ?_
    refine Run.region ?_
    refine Run.op rfl rfl rfl (y_move rfl) ?_
    refine Run.op rfl rfl rfl (q_index (0) (perm14) rfl rfl Tryd.underlying63 ti133 (fun _ => rfl) (rfl) (rfl)) ?_
    refine Run.op rfl rfl rfl (y_loadW rfl Tryd.underlying133 rfl ti133.siz) ?_
    refine q_alloc ti133 rfl rfl ?_
    intro b15
    refine Run.op rfl rfl rfl (y_assign rfl) ?_
    refine Run.storeW 15 rfl rfl rfl ti133.siz rfl ?_
    refine Run.freezeB 15 15 rfl rfl ?_
    refine Run.nil ?_
    refine Run.nT ?_
    refine Run.seq ?_
    refine Run.weaken (Incl.same (t := 123) rfl (Incl.same (t := 7) rfl (Incl.same (t := 2) rfl (Incl.same (t := 3) rfl (Incl.same (t := 6) rfl (Incl.same (t := 13) rfl (Incl.same (t := 121) rfl (Incl.same (t := 122) rfl (Incl.same (t := 15) rfl (Incl.same (t := 14) rfl Incl.nil)))))))))) ?_
    refine q_draw ?_ rfl
    refine Draw.step rfl rfl rfl (StepOk.op rfl rfl rfl (y_field rfl Tryd.underlying152 rfl ti29.siz rfl)) rfl ?_
    refine Draw.step rfl rfl rfl (StepOk.op rfl rfl rfl (y_load rfl Tryd.underlying29 rfl)) rfl ?_
    refine Draw.step rfl rfl rfl (StepOk.op rfl rfl rfl (y_move rfl)) rfl ?_
    refine Draw.step rfl rfl rfl (StepOk.op rfl rfl rfl (q_index (0) (z) rfl rfl Tryd.underlying29 ti33 (fun _ => rfl) (rfl) (rfl))) rfl ?_
    refine Draw.step rfl rfl rfl (StepOk.op rfl rfl rfl (y_load rfl Tryd.underlying33 rfl)) rfl ?_
    refine Draw.step rfl rfl rfl (StepOk.op rfl rfl rfl (y_field rfl Tryd.underlying152 rfl ti29.siz rfl)) rfl ?_
    refine Draw.step rfl rfl rfl (StepOk.op rfl rfl rfl (y_load rfl Tryd.underlying29 rfl)) rfl ?_
    refine Draw.step rfl rfl rfl (StepOk.op rfl rfl rfl (y_move rfl)) rfl ?_
    refine Draw.step rfl rfl rfl (StepOk.op rfl rfl rfl (q_index (0) (z2) rfl rfl Tryd.underlying29 ti33 (fun _ => rfl) (rfl) (rfl))) rfl ?_
    refine Draw.step rfl rfl rfl (StepOk.op rfl rfl rfl (y_load rfl Tryd.underlying33 rfl)) rfl ?_
    refine Draw.step rfl rfl rfl (StepOk.op rfl rfl rfl (y_assign rfl)) rfl ?_
    refine Draw.step rfl rfl rfl (StepOk.op rfl rfl rfl (y_assign rfl)) rfl ?_
    refine Draw.tail (m := 12) rfl rfl rfl ?_
    refine Run.nil ?_
    refine Run.nT ?_
    refine Run.weaken (Incl.same (t := 123) rfl (Incl.same (t := 7) rfl (Incl.same (t := 2) rfl (Incl.same (t := 3) rfl (Incl.same (t := 6) rfl (Incl.same (t := 13) rfl (Incl.same (t := 121) rfl (Incl.same (t := 122) rfl (Incl.same (t := 15) rfl (Incl.same (t := 14) rfl (Incl.same (t := 16) rfl (Incl.same (t := 17) rfl Incl.nil)))))))))))) ?_
    refine q_draw ?_ rfl
    refine Draw.step rfl rfl rfl (StepOk.op rfl rfl rfl (y_move rfl)) rfl ?_
    refine Draw.step rfl rfl rfl (StepOk.op rfl rfl rfl (y_move rfl)) rfl ?_
    refine Draw.step rfl rfl rfl (StepOk.op rfl rfl rfl (y_move rfl)) rfl ?_
    refine Draw.step rfl rfl rfl (StepOk.op rfl rfl rfl (y_move rfl)) rfl ?_
    refine Draw.step rfl rfl rfl (StepOk.op rfl rfl rfl (y_loadW rfl Tryd.underlying211 rfl ti211.siz)) rfl ?_
    refine Draw.step rfl rfl rfl (StepOk.op rfl rfl rfl (y_field rfl Tryd.underlying133 rfl ti131.siz rfl)) rfl ?_
    refine Draw.step rfl rfl rfl (StepOk.op rfl rfl rfl (y_load rfl Tryd.underlying131 rfl)) rfl ?_
    refine Draw.step rfl rfl rfl (StepOk.op rfl rfl rfl (q_call en134 rfl (product_fn s 0 c d rfl hc.1 hd.1 (mn, [ft]) hmn rfl hm3 hm4 perm14.2 (by simp [perm14]) hP2))) rfl ?_
    refine Draw.step rfl rfl rfl (StepOk.op rfl rfl rfl (q_call en90 rfl (Mul_fn s 0 _ _ rfl hz2.1 hb2.1))) rfl ?_
    refine Draw.step rfl rfl rfl (StepOk.op rfl rfl rfl (y_move rfl)) rfl ?_
    refine Draw.step rfl rfl rfl (StepOk.op rfl rfl rfl (y_move rfl)) rfl ?_
    refine Draw.step rfl rfl rfl (StepOk.op rfl rfl rfl (y_loadW rfl Tryd.underlying211 rfl ti211.siz)) rfl ?_
    refine Draw.step rfl rfl rfl (StepOk.op rfl rfl rfl (y_field rfl Tryd.underlying133 rfl ti131.siz rfl)) rfl ?_
    refine Draw.step rfl rfl rfl (StepOk.op rfl rfl rfl (y_load rfl Tryd.underlying131 rfl)) rfl ?_
    refine Draw.step rfl rfl rfl (StepOk.op rfl rfl rfl (q_call en134 rfl (product_fn s 0 c d rfl hc.1 hd.1 (mn, [ft]) hmn rfl hm3 hm4 perm14.1 (by simp [perm14]) hP1))) rfl ?_
    refine Draw.step rfl rfl rfl (StepOk.op rfl rfl rfl (q_call en90 rfl (Mul_fn s 0 _ _ rfl hz.1 hb1.1))) rfl ?_
    refine Draw.step rfl rfl rfl (StepOk.op rfl rfl rfl (q_buildL (K := Ku) ([_]) Tryd.underlying29 ti33 rfl rfl rfl (.cons rfl (Part.one' rfl) rfl .nil) rfl)) rfl ?_
    refine Draw.step rfl rfl rfl (StepOk.op rfl rfl rfl (q_call en170 rfl (total_fn s 0 _ rfl hm1.1 [_] (by simp) (by simp; exact hm2.1)))) rfl ?_
    refine Draw.step rfl rfl rfl (StepOk.op rfl rfl rfl (y_move rfl)) rfl ?_
    refine Draw.step rfl rfl rfl (StepOk.op rfl rfl rfl (y_move rfl)) rfl ?_
    refine Draw.step rfl rfl rfl (StepOk.op rfl rfl rfl (q_buildL (K := Ku) ([1]) Tryd.underlying29 ti33 rfl rfl rfl (.cons rfl (Part.one' rfl) rfl .nil) rfl)) rfl ?_
    refine Draw.step rfl rfl rfl (StepOk.op rfl rfl rfl (q_call en170 rfl (total_fn s 0 _ rfl hz.1 [1] (by simp) (by simp)))) rfl ?_
    refine Draw.step rfl rfl rfl (StepOk.op rfl rfl rfl (q_buildL (K := Ku) ([_, _]) Tryd.underlying29 ti33 rfl rfl rfl (.cons rfl (Part.one' rfl) rfl (.cons rfl (Part.one' rfl) rfl .nil)) rfl)) rfl ?_
    refine Draw.tail (m := 23) rfl rfl rfl ?_
    refine q_append 40 rfl rfl rfl Tryd.underlying29 ti33 rfl rfl (fun _ => rfl) (by first | omega | (simp; done) | (simp; omega)) rfl ?_
    intro v161
    refine Run.op rfl rfl rfl (y_assign rfl) ?_
    refine Run.nil ?_
    refine Run.nB ?_
    refine Run.nT ?_
    refine Run.region ?_
    refine Run.op rfl rfl rfl (y_add rfl rfl (by first | exact wI_in (by omega) | rfl)) ?_
    refine Run.op rfl rfl rfl (y_move rfl) ?_
    refine Run.nil ?_
    refine Run.nT ?_
    refine Run.round (0 + 1, v161, [total (fP 0) (z2 * rprod (fP 0) (mn, [ft]) c d perm14.2 % fP 0) [z * rprod (fP 0) (mn, [ft]) c d perm14.1 % fP 0], total (fP 0) z [1]]) ?_ ?_ ?_ ?_
    · exact ⟨by omega, fun h => (by cases h), fun _ => rfl⟩
    · show 1 - (0 + 1) < 1 - 0; omega
    · rfl
    · exact (Incl.same (t := 123) rfl (Incl.same (t := 7) rfl (Incl.same (t := 2) rfl (Incl.same (t := 3) rfl (Incl.same (t := 6) rfl (Incl.same (t := 13) rfl (Incl.same (t := 121) rfl (Incl.same (t := 122) rfl Incl.nil))))))))
  · obtain rfl : j = 1 := by have : ¬ (j : Int) < 1 := of_decide_eq_false hb; omega
    obtain rfl := hl1 rfl
    refine Run.exit ?_
    refine Run.eT ?_
    refine Run.eT ?_
    refine Run.eB ?_
    refine Run.nT ?_
    refine Run.seq ?_
    refine Run.seq ?_
    refine Run.region ?_
    refine Run.op rfl rfl rfl (y_field rfl Tryd.underlying66 rfl ti64.siz rfl) ?_
    refine Run.op rfl rfl rfl (y_load rfl Tryd.underlying64 rfl) ?_
    refine Run.op rfl rfl rfl (y_lenS rfl Tryd.underlying64) ?_
    refine Run.op rfl rfl rfl (y_move rfl) ?_
    refine Run.nil ?_
    refine Run.nT ?_
    refine Run.block ?_
    refine Run.loopK (ι := Nat × Value × List Int) (fun ⟨j, v, l⟩ => j ≤ 1 ∧ (j = 0 → l = [total (fP 0) (z2 * rprod (fP 0) (mn, [ft]) c d perm14.2 % fP 0) [z * rprod (fP 0) (mn, [ft]) c d perm14.1 % fP 0], total (fP 0) z [1]]) ∧ (j = 1 → l = vals4 mn ft z y z2 y2 c d)) (fun ⟨j, v, l⟩ => 1 - j) (fun ⟨j, v, l⟩ => [(40, .rows Ku v 33 1 l)]) [2, 3, 6, 13, 164, 165] (fun ⟨j, v, l⟩ => [(166, i64 j), (7, sval v)]) (0, v, [total (fP 0) (z2 * rprod (fP 0) (mn, [ft]) c d perm14.2 % fP 0) [z * rprod (fP 0) (mn, [ft]) c d perm14.1 % fP 0], total (fP 0) z [1]]) ⟨by omega, fun _ => rfl, fun h => (by cases h)⟩ rfl (Incl.same (t := 166) rfl (Incl.same (t := 7) rfl (Incl.pick [2, 3, 6, 13, 164, 165]))) ?_
    rintro ⟨j, v, l⟩ ⟨hj, hl0, hl1⟩
    refine Run.seq ?_
    refine Run.region ?_
    refine Run.op rfl rfl rfl (y_lss rfl rfl) ?_
    refine Run.nil ?_
    refine Run.nT ?_
    refine Run.seq ?_
    refine Run.cond rfl (fun hb => ?_) (fun hb => ?_)
    · obtain rfl : j = 0 := by have : (j : Int) < 1 := of_decide_eq_true hb; omega
      obtain rfl := hl0 rfl
      refine Run.skip ?_
      refine Run.nT ?_
      refine Run.seq ?_
      refine Run.block ?_
      refine Run.seq ?_
      refine Run.region ?_
      refine Run.op rfl rfl rfl (y_move rfl) ?_
      refine Run.op rfl rfl rfl (q_index (0) (look14) rfl rfl Tryd.underlying64 ti135 (fun _ => rfl) (rfl) (rfl)) ?_
      refine Run.op rfl rfl rfl (y_loadW rfl Tryd.underlying135 rfl ti135.siz) ?_
      refine q_alloc ti135 rfl rfl ?_
      intro b19
      refine Run.op rfl rfl rfl (y_assign rfl) ?_
      refine Run.storeW 19 rfl rfl rfl ti135.siz rfl ?_
      refine Run.freezeB 19 19 rfl rfl ?_
      refine Run.nil ?_
      refine Run.nT ?_
      refine Run.seq ?_
      refine Run.weaken (Incl.same (t := 166) rfl (Incl.same (t := 7) rfl (Incl.same (t := 2) rfl (Incl.same (t := 3) rfl (Incl.same (t := 6) rfl (Incl.same (t := 13) rfl (Incl.same (t := 164) rfl (Incl.same (t := 165) rfl (Incl.same (t := 19) rfl (Incl.same (t := 18) rfl Incl.nil)))))))))) ?_
      refine q_draw ?_ rfl
      refine Draw.step rfl rfl rfl (StepOk.op rfl rfl rfl (y_field rfl Tryd.underlying152 rfl ti29.siz rfl)) rfl ?_
      refine Draw.step rfl rfl rfl (StepOk.op rfl rfl rfl (y_load rfl Tryd.underlying29 rfl)) rfl ?_
      refine Draw.step rfl rfl rfl (StepOk.op rfl rfl rfl (y_field rfl Tryd.underlying66 rfl ti63.siz rfl)) rfl ?_
      refine Draw.step rfl rfl rfl (StepOk.op rfl rfl rfl (y_load rfl Tryd.underlying63 rfl)) rfl ?_
      refine Draw.step rfl rfl rfl (StepOk.op rfl rfl rfl (y_lenS rfl Tryd.underlying63)) rfl ?_
      refine Draw.step rfl rfl rfl (StepOk.op rfl rfl rfl (y_move rfl)) rfl ?_
      refine Draw.step rfl rfl rfl (StepOk.op rfl rfl rfl (y_add (r := 1) rfl rfl rfl)) rfl ?_
      refine Draw.step rfl rfl rfl (StepOk.op rfl rfl rfl (q_index (1) (y) rfl rfl Tryd.underlying29 ti33 (fun _ => rfl) (rfl) (rfl))) rfl ?_
      refine Draw.step rfl rfl rfl (StepOk.op rfl rfl rfl (y_load rfl Tryd.underlying33 rfl)) rfl ?_
      refine Draw.step rfl rfl rfl (StepOk.op rfl rfl rfl (y_field rfl Tryd.underlying152 rfl ti29.siz rfl)) rfl ?_
      refine Draw.step rfl rfl rfl (StepOk.op rfl rfl rfl (y_load rfl Tryd.underlying29 rfl)) rfl ?_
      refine Draw.step rfl rfl rfl (StepOk.op rfl rfl rfl (y_field rfl Tryd.underlying66 rfl ti63.siz rfl)) rfl ?_
      refine Draw.step rfl rfl rfl (StepOk.op rfl rfl rfl (y_load rfl Tryd.underlying63 rfl)) rfl ?_
      refine Draw.step rfl rfl rfl (StepOk.op rfl rfl rfl (y_lenS rfl Tryd.underlying63)) rfl ?_
      refine Draw.step rfl rfl rfl (StepOk.op rfl rfl rfl (y_move rfl)) rfl ?_
      refine Draw.step rfl rfl rfl (StepOk.op rfl rfl rfl (y_add (r := 1) rfl rfl rfl)) rfl ?_
      refine Draw.step rfl rfl rfl (StepOk.op rfl rfl rfl (q_index (1) (y2) rfl rfl Tryd.underlying29 ti33 (fun _ => rfl) (rfl) (rfl))) rfl ?_
      refine Draw.step rfl rfl rfl (StepOk.op rfl rfl rfl (y_load rfl Tryd.underlying33 rfl)) rfl ?_
      refine Draw.step rfl rfl rfl (StepOk.op rfl rfl rfl (y_assign rfl)) rfl ?_
      refine Draw.step rfl rfl rfl (StepOk.op rfl rfl rfl (y_assign rfl)) rfl ?_
      refine Draw.tail (m := 20) rfl rfl rfl ?_
      refine Run.nil ?_
      refine Run.nT ?_
      refine Run.seq ?_
      refine Run.weaken (Incl.same (t := 166) rfl (Incl.same (t := 7) rfl (Incl.same (t := 2) rfl (Incl.same (t := 3) rfl (Incl.same (t := 6) rfl (Incl.same (t := 13) rfl (Incl.same (t := 164) rfl (Incl.same (t := 165) rfl (Incl.same (t := 19) rfl (Incl.same (t := 18) rfl (Incl.same (t := 20) rfl (Incl.same (t := 21) rfl Incl.nil)))))))))))) ?_
      refine q_draw ?_ rfl
      refine Draw.step rfl rfl rfl (StepOk.op rfl rfl rfl (y_loadW rfl Tryd.underlying211 rfl ti211.siz)) rfl ?_
      refine Draw.step rfl rfl rfl (StepOk.op rfl rfl rfl (y_field rfl Tryd.underlying135 rfl ti130.siz rfl)) rfl ?_
      refine Draw.step rfl rfl rfl (StepOk.op rfl rfl rfl (y_load rfl Tryd.underlying130 rfl)) rfl ?_
      refine Draw.step rfl rfl rfl (StepOk.op rfl rfl rfl (q_call en139 rfl (rowWeight_fn s 0 c d rfl hc.1 hd.1 (mn, [ft]) hmn rfl hm3 hm4 look14.1 (by simp [look14]) hL1))) rfl ?_
      refine Draw.step rfl rfl rfl (StepOk.op rfl rfl rfl (y_loadW rfl Tryd.underlying211 rfl ti211.siz)) rfl ?_
      refine Draw.step rfl rfl rfl (StepOk.op rfl rfl rfl (y_field rfl Tryd.underlying135 rfl ti130.siz rfl)) rfl ?_
      refine Draw.step rfl rfl rfl (StepOk.op rfl rfl rfl (y_load rfl Tryd.underlying130 rfl)) rfl ?_
      refine Draw.step rfl rfl rfl (StepOk.op rfl rfl rfl (q_call en139 rfl (rowWeight_fn s 0 c d rfl hc.1 hd.1 (mn, [ft]) hmn rfl hm3 hm4 look14.2.1 (by simp [look14]) hL2))) rfl ?_
      refine Draw.step rfl rfl rfl (StepOk.op rfl rfl rfl (y_assign rfl)) rfl ?_
      refine Draw.step rfl rfl rfl (StepOk.op rfl rfl rfl (y_assign rfl)) rfl ?_
      refine Draw.tail (m := 10) rfl rfl rfl ?_
      refine Run.nil ?_
      refine Run.nT ?_
      refine Run.seq ?_
      refine Run.region ?_
      refine Run.op rfl rfl rfl (y_move rfl) ?_
      refine Run.op rfl rfl rfl (y_move rfl) ?_
      refine Run.op rfl rfl rfl (y_move rfl) ?_
      refine Run.op rfl rfl rfl (y_move rfl) ?_
      refine Run.op rfl rfl rfl (q_buildL (K := Ku) ([y]) Tryd.underlying29 ti33 rfl rfl rfl (.cons rfl (Part.one' rfl) rfl .nil) rfl) ?_
      refine Run.op rfl rfl rfl (q_call en170 rfl (total_fn s 0 _ rfl hy2.1 [y] (by simp) (by simp; omega))) ?_
      refine Run.op rfl rfl rfl (y_move rfl) ?_
      refine Run.op rfl rfl rfl (y_move rfl) ?_
      refine Run.op rfl rfl rfl (y_move rfl) ?_
      refine Run.op rfl rfl rfl (q_call en90 rfl (Mul_fn s 0 _ _ rfl hu.1 hw.1)) ?_
      refine Run.op rfl rfl rfl (q_call en90 rfl (Mul_fn s 0 _ _ rfl hty huw.1)) ?_
      refine Run.op rfl rfl rfl (y_assign rfl) ?_
      refine Run.nil ?_
      refine Run.nT ?_
      refine Run.seq ?_
      refine Run.region ?_
      refine Run.op rfl rfl rfl (y_move rfl) ?_
      refine Run.op rfl rfl rfl (y_field rfl Tryd.underlying152 rfl ti29.siz rfl) ?_
      refine Run.op rfl rfl rfl (y_load rfl Tryd.underlying29 rfl) ?_
      refine Run.op rfl rfl rfl (y_field rfl Tryd.underlying135 rfl ti128.siz rfl) ?_
      refine Run.op rfl rfl rfl (y_field rfl Tryd.underlying128 rfl ti3.siz rfl) ?_
      refine Run.op rfl rfl rfl (y_load rfl Tryd.underlying3 rfl) ?_
      refine Run.op rfl rfl rfl (q_index (5) (_) rfl rfl Tryd.underlying29 ti33 (fun _ => rfl) (rfl) (getD_at (by omega))) ?_
      refine Run.op rfl rfl rfl (y_load rfl Tryd.underlying33 rfl) ?_
      refine Run.op rfl rfl rfl (y_move rfl) ?_
      refine Run.op rfl rfl rfl (q_call en90 rfl (Mul_fn s 0 _ _ rfl hn5.1 hu.1)) ?_
      refine Run.op rfl rfl rfl (y_assign rfl) ?_
      refine Run.nil ?_
      refine Run.nT ?_
      refine Run.region ?_
      refine Run.op rfl rfl rfl (y_move rfl) ?_
      refine Run.op rfl rfl rfl (y_move rfl) ?_
      refine Run.op rfl rfl rfl (y_move rfl) ?_
      refine Run.op rfl rfl rfl (y_move rfl) ?_
      refine Run.op rfl rfl rfl (y_move rfl) ?_
      refine Run.op rfl rfl rfl (q_call en106 rfl (Add_fn s 0 _ _ rfl hst.1 hus.1)) ?_
      refine Run.op rfl rfl rfl (y_move rfl) ?_
      refine Run.op rfl rfl rfl (q_buildL (K := Ku) ([_]) Tryd.underlying29 ti33 rfl rfl rfl (.cons rfl (Part.one' rfl) rfl .nil) rfl) ?_
      refine Run.op rfl rfl rfl (q_call en170 rfl (total_fn s 0 _ rfl hsu.1 [_] (by simp) (by simp; exact hw.1))) ?_
      refine Run.op rfl rfl rfl (y_move rfl) ?_
      refine Run.op rfl rfl rfl (y_move rfl) ?_
      refine Run.op rfl rfl rfl (q_buildL (K := Ku) ([0]) Tryd.underlying29 ti33 rfl rfl rfl (.cons rfl (Part.one' rfl) rfl .nil) rfl) ?_
      refine Run.op rfl rfl rfl (q_call en170 rfl (total_fn s 0 _ rfl hy.1 [0] (by simp) (by simp))) ?_
      refine Run.op rfl rfl rfl (q_buildL (K := Ku) ([_, _]) Tryd.underlying29 ti33 rfl rfl rfl (.cons rfl (Part.one' rfl) rfl (.cons rfl (Part.one' rfl) rfl .nil)) rfl) ?_
      refine q_append 40 rfl rfl rfl Tryd.underlying29 ti33 rfl rfl (fun _ => rfl) (by first | omega | (simp; done) | (simp; omega)) rfl ?_
      intro v232
      refine Run.op rfl rfl rfl (y_assign rfl) ?_
      refine Run.nil ?_
      refine Run.nB ?_
      refine Run.nT ?_
      refine Run.region ?_
      refine Run.op rfl rfl rfl (y_add rfl rfl (by first | exact wI_in (by omega) | rfl)) ?_
      refine Run.op rfl rfl rfl (y_move rfl) ?_
      refine Run.nil ?_
      refine Run.nT ?_
      refine Run.round (0 + 1, v232, vals4 mn ft z y z2 y2 c d) ?_ ?_ ?_ ?_
      · exact ⟨by omega, fun h => (by cases h), fun _ => rfl⟩
      · show 1 - (0 + 1) < 1 - 0; omega
      · rfl
      · exact (Incl.same (t := 166) rfl (Incl.same (t := 7) rfl (Incl.same (t := 2) rfl (Incl.same (t := 3) rfl (Incl.same (t := 6) rfl (Incl.same (t := 13) rfl (Incl.same (t := 164) rfl (Incl.same (t := 165) rfl Incl.nil))))))))
    · obtain rfl : j = 1 := by have : ¬ (j : Int) < 1 := of_decide_eq_false hb; omega
      obtain rfl := hl1 rfl
      refine Run.exit ?_
      refine Run.eT ?_
      refine Run.eT ?_
      refine Run.eB ?_
      refine Run.nT ?_
      refine Run.seq ?_
      refine Run.region ?_
      refine Run.op rfl rfl rfl (y_move rfl) ?_
      refine Run.op rfl rfl rfl (y_assign rfl) ?_
      refine Run.op rfl rfl rfl (y_assign rfl) ?_
      refine Run.nil ?_
      refine Run.nT ?_
      refine Run.ret ?_
      refine Run.freeze (K := Ku) (l := vals4 mn ft z y z2 y2 c d) 40 4 rfl rfl ?_
      exact Run.fin2 rfl rfl rfl (.tmp rfl) (.tmp rfl) (fun _ _ h => h) (fun _ _ h => h)

theorem avalues_fn (k : Nat) (hk : 1 ≤ k ∧ k ≤ 3) (t : List Int) (ht : t.length = 2 ^ k) (h97 : in97 t) (c d : Int) (hc : 0 ≤ c ∧ c < 97) (hd : 0 ≤ d ∧ d < 97) (mn nx : List Int) (ft z y z2 y2 : Int) (hmn : mn.length = 6) (hmx : in97 mn) (hft : 0 ≤ ft ∧ ft < 97) (hz : 0 ≤ z ∧ z < 97) (hy : 0 ≤ y ∧ y < 97) (hz2 : 0 ≤ z2 ∧ z2 < 97) (hy2 : 0 ≤ y2 ∧ y2 < 97) : Fn s.env 80 [sagg (Ksys k t), sagg (Kenv mn nx [ft] [z, y] [z2, y2] [c, d])] (stup [slc Ku (vals4 mn ft z y z2 y2 c d), i64 0]) := by
  refine Fn.of Tryd.func80 rfl Tryd.ntmps80 rfl ?_
  intro w0 F0
  refine Run.seq ?_
  refine Run.region ?_
  refine Run.boxA rfl rfl ?_
  intro b2
  refine Run.freezeB 2 2 rfl rfl ?_
  refine Run.boxA rfl rfl ?_
  intro b3
  refine Run.freezeB 3 3 rfl rfl ?_
  refine Run.op rfl rfl rfl (y_assign rfl) ?_
  refine Run.op rfl rfl rfl (y_assign rfl) ?_
  refine Run.nil ?_
  refine Run.nT ?_
  refine Run.seq ?_
  refine Run.seq ?_
  refine Run.region ?_
  refine Run.op rfl rfl rfl (y_loadW rfl Tryd.underlying66 rfl ti66.siz) ?_
  refine Run.op rfl rfl rfl (Yields.bool (c := true) (q_call en28 rfl (sysValid_fn s k hk t ht h97)) (rfl)) ?_
  refine Run.op rfl rfl rfl (y_not rfl) ?_
  refine Run.nil ?_
  refine Run.nT ?_
  refine Run.cond0 rfl ?_
  refine Run.skip ?_
  refine Run.nT ?_
  refine Run.seq ?_
  refine Run.region ?_
  refine Run.op rfl rfl rfl (y_loadW rfl Tryd.underlying66 rfl ti66.siz) ?_
  refine Run.op rfl rfl rfl (y_loadW rfl Tryd.underlying152 rfl ti152.siz) ?_
  refine Run.op rfl rfl rfl (q_call en142 rfl (cvalues_fn s k hk t c d hc hd mn nx ft z y z2 y2 hmn hmx hft hz hy hz2 hy2)) ?_
  refine Run.op rfl rfl rfl (y_extract rfl rfl) ?_
  refine Run.op rfl rfl rfl (y_extract rfl rfl) ?_
  refine Run.op rfl rfl rfl (y_assign rfl) ?_
  refine Run.op rfl rfl rfl (y_assign rfl) ?_
  refine Run.nil ?_
  refine Run.nT ?_
  refine Run.ret ?_
  exact Run.fin2 rfl rfl rfl (.tmp rfl) (.tmp rfl) (fun _ _ h => h) (fun _ _ h => h)

end

end Go.Vx
