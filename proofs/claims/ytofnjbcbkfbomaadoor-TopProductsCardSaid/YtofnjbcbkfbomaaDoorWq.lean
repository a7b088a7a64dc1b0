/- Walks: the statement: what holds. Conditions: as each says. Printed by a program of our own (wip/tools/gen2.py). -/
import Derived.Test.YtofnjbcbkfbomaaDoorWp
namespace Go.Vx
open Go Go.RowKit Go.Proofs
set_option maxRecDepth 100000
variable (s : Seat)

set_option maxHeartbeats 4000000 in
theorem holds14_fn (N : Nat) (hN : 2 ≤ N ∧ N ≤ 8) (x : T7) (hn : ∀ q, 0 ≤ x.n q ∧ x.n q ≤ 96) : Fn s.env 26 [sagg (Ktb N x)] (stup [sbool (permB N x N), sbool (lookB14 N x N)]) := by
  refine Fn.of Tryd.func26 rfl Tryd.ntmps26 rfl ?_
  intro w0 F0
  refine Run.seq ?_
  refine Run.region ?_
  refine Run.boxA rfl rfl ?_
  intro b1
  refine Run.freezeB 1 1 rfl rfl ?_
  refine Run.op rfl rfl rfl (y_assign rfl) ?_
  refine Run.op rfl rfl rfl (y_assign rfl) ?_
  refine Run.nil ?_
  refine Run.nT ?_
  refine Run.seq ?_
  refine Run.region ?_
  refine Run.op rfl rfl rfl (y_assign rfl) ?_
  refine Run.op rfl rfl rfl (y_assign rfl) ?_
  refine Run.nil ?_
  refine Run.nT ?_
  refine Run.seq ?_
  refine Run.seq ?_
  refine Run.region ?_
  refine Run.op rfl rfl rfl (y_assign rfl) ?_
  refine Run.nil ?_
  refine Run.nT ?_
  refine Run.block ?_
  refine Run.loopK (ι := Nat) (fun i => i ≤ N) (fun i => N - i) (fun i => []) [1, 2, 3] (fun i => [(4, sbool (permB N x i)), (5, sbool (lookB14 N x i)), (6, i64 i)]) 0 (by omega) rfl (Incl.same (t := 4) rfl (Incl.same (t := 5) rfl (Incl.same (t := 6) rfl (Incl.pick [1, 2, 3])))) ?_
  rintro i hi
  refine Run.seq ?_
  refine Run.seq ?_
  refine Run.region ?_
  refine Run.op rfl rfl rfl (y_move rfl) ?_
  refine Run.op rfl rfl rfl (y_field rfl Tryd.underlying31 rfl ti29.siz rfl) ?_
  refine Run.op rfl rfl rfl (y_load rfl Tryd.underlying29 rfl) ?_
  refine Run.op rfl rfl rfl (Yields.int (y_lenS rfl Tryd.underlying29) (show ((rng N x.a).length : Int) = (N : Int) by simp)) ?_
  refine Run.op rfl rfl rfl (y_lss rfl rfl) ?_
  refine Run.nil ?_
  refine Run.nT ?_
  refine Run.cond rfl (fun hb => ?_) (fun hb => ?_)
  · have hiN : i < N := by have := of_decide_eq_true hb; omega
    refine Run.skip ?_
    refine Run.nT ?_
    refine Run.seq ?_
    refine Run.block ?_
    refine Run.seq ?_
    refine Run.region ?_
    refine Run.op rfl rfl rfl (y_assign rfl) ?_
    refine Run.op rfl rfl rfl (y_assign rfl) ?_
    refine Run.op rfl rfl rfl (y_assign rfl) ?_
    refine Run.op rfl rfl rfl (y_assign rfl) ?_
    refine Run.op rfl rfl rfl (y_assign rfl) ?_
    refine Run.op rfl rfl rfl (y_assign rfl) ?_
    refine Run.nil ?_
    refine Run.nT ?_
    refine Run.seq ?_
    refine Run.seq ?_
    refine Run.region ?_
    refine Run.op rfl rfl rfl (y_assign rfl) ?_
    refine Run.nil ?_
    refine Run.nT ?_
    refine Run.block ?_
    refine Run.loopK (ι := Nat) (fun k => k ≤ N) (fun k => N - k) (fun k => []) [4, 5, 6, 1, 2, 3] (fun k => [(7, i64 (csum (fun q => decide (x.a q = x.a i) && decide (x.b q = x.b i)) (fun _ => 1) k)), (8, i64 (csum (fun q => decide (x.l q = x.a i) && decide (x.r q = x.b i)) (fun _ => 1) k)), (9, sbool (cany (fun q => decide (x.t q = x.e i)) k)), (10, u64 (csum2 (fun q => decide (x.t q = x.t i)) (fun q => decide (x.e q = x.t i)) x.n (fun _ => 96) k)), (11, u64 (csum (fun q => decide (x.e q = x.e i)) (fun _ => 1) k)), (12, u64 (csum (fun q => decide (x.t q = x.e i)) x.n k)), (13, i64 k)]) 0 (by omega) rfl (Incl.same (t := 7) rfl (Incl.same (t := 8) rfl (Incl.same (t := 9) rfl (Incl.same (t := 10) rfl (Incl.same (t := 11) rfl (Incl.same (t := 12) rfl (Incl.same (t := 13) rfl (Incl.pick [4, 5, 6, 1, 2, 3])))))))) ?_
    rintro k hk
    have b7 := csum_bnd (P := (fun q => decide (x.a q = x.a i) && decide (x.b q = x.b i))) (f := (fun _ => 1)) (c := 1) (fun _ => by omega) k
    have b8 := csum_bnd (P := (fun q => decide (x.l q = x.a i) && decide (x.r q = x.b i))) (f := (fun _ => 1)) (c := 1) (fun _ => by omega) k
    have b11 := csum_bnd (P := (fun q => decide (x.e q = x.e i))) (f := (fun _ => 1)) (c := 1) (fun _ => by omega) k
    have b12 := csum_bnd (P := (fun q => decide (x.t q = x.e i))) (f := x.n) (c := 96) hn k
    have b10 := csum2_bnd (P := (fun q => decide (x.t q = x.t i))) (P' := (fun q => decide (x.e q = x.t i))) (f := x.n) (f' := (fun _ => 96)) (c := 96) hn (fun _ => by omega) k
    refine Run.seq ?_
    refine Run.seq ?_
    refine Run.region ?_
    refine Run.op rfl rfl rfl (y_move rfl) ?_
    refine Run.op rfl rfl rfl (y_field rfl Tryd.underlying31 rfl ti29.siz rfl) ?_
    refine Run.op rfl rfl rfl (y_load rfl Tryd.underlying29 rfl) ?_
    refine Run.op rfl rfl rfl (Yields.int (y_lenS rfl Tryd.underlying29) (show ((rng N x.a).length : Int) = (N : Int) by simp)) ?_
    refine Run.op rfl rfl rfl (y_lss rfl rfl) ?_
    refine Run.nil ?_
    refine Run.nT ?_
    refine Run.cond rfl (fun hb => ?_) (fun hb => ?_)
    · have hkN : k < N := by have := of_decide_eq_true hb; omega
      have hnk := hn k
      refine Run.skip ?_
      refine Run.nT ?_
      refine Run.seq ?_
      refine Run.block ?_
      refine Run.seq ?_
      refine Run.seq ?_
      refine Run.weaken (Incl.same (t := 7) rfl (Incl.same (t := 8) rfl (Incl.same (t := 9) rfl (Incl.same (t := 10) rfl (Incl.same (t := 11) rfl (Incl.same (t := 12) rfl (Incl.same (t := 13) rfl (Incl.same (t := 4) rfl (Incl.same (t := 5) rfl (Incl.same (t := 6) rfl (Incl.same (t := 1) rfl (Incl.same (t := 2) rfl (Incl.same (t := 3) rfl Incl.nil))))))))))))) ?_
      refine q_draw ?_ rfl
      refine Draw.step rfl rfl rfl (StepOk.op rfl rfl rfl (y_field rfl Tryd.underlying31 rfl ti29.siz rfl)) rfl ?_
      refine Draw.step rfl rfl rfl (StepOk.op rfl rfl rfl (y_load rfl Tryd.underlying29 rfl)) rfl ?_
      refine Draw.step rfl rfl rfl (StepOk.op rfl rfl rfl (y_move rfl)) rfl ?_
      refine Draw.step rfl rfl rfl (StepOk.op rfl rfl rfl (q_index (k) (_) rfl rfl Tryd.underlying29 ti33 (fun _ => rfl) (rfl) (rng_get hkN))) rfl ?_
      refine Draw.step rfl rfl rfl (StepOk.op rfl rfl rfl (y_load rfl Tryd.underlying33 rfl)) rfl ?_
      refine Draw.step rfl rfl rfl (StepOk.op rfl rfl rfl (y_field rfl Tryd.underlying31 rfl ti29.siz rfl)) rfl ?_
      refine Draw.step rfl rfl rfl (StepOk.op rfl rfl rfl (y_load rfl Tryd.underlying29 rfl)) rfl ?_
      refine Draw.step rfl rfl rfl (StepOk.op rfl rfl rfl (y_move rfl)) rfl ?_
      refine Draw.step rfl rfl rfl (StepOk.op rfl rfl rfl (q_index (i) (_) rfl rfl Tryd.underlying29 ti33 (fun _ => rfl) (rfl) (rng_get hiN))) rfl ?_
      refine Draw.step rfl rfl rfl (StepOk.op rfl rfl rfl (y_load rfl Tryd.underlying33 rfl)) rfl ?_
      refine Draw.step rfl rfl rfl (StepOk.op rfl rfl rfl (y_eql rfl rfl)) rfl ?_
      refine Draw.step rfl rfl rfl (StepOk.op rfl rfl rfl (y_move rfl)) rfl ?_
      refine Draw.step rfl rfl rfl (StepOk.opC rfl rfl rfl rfl rfl (fun hg => Yields.incl (Incl.same (t := 1) rfl Incl.nil) (y_field rfl Tryd.underlying31 rfl ti29.siz rfl))) rfl ?_
      refine Draw.step rfl rfl rfl (StepOk.opC rfl rfl rfl rfl rfl (fun hg => Yields.incl (Incl.cond (t := 40) rfl hg Incl.nil) (y_load rfl Tryd.underlying29 rfl))) rfl ?_
      refine Draw.step rfl rfl rfl (StepOk.opC rfl rfl rfl rfl rfl (fun hg => Yields.incl (Incl.same (t := 13) rfl Incl.nil) (y_move rfl))) rfl ?_
      refine Draw.step rfl rfl rfl (StepOk.opC rfl rfl rfl rfl rfl (fun hg => Yields.incl (Incl.cond (t := 41) rfl hg (Incl.cond (t := 42) rfl hg Incl.nil)) (q_index (k) (_) rfl rfl Tryd.underlying29 ti33 (fun _ => rfl) (rfl) (rng_get hkN)))) rfl ?_
      refine Draw.step rfl rfl rfl (StepOk.opC rfl rfl rfl rfl rfl (fun hg => Yields.incl (Incl.cond (t := 43) rfl hg Incl.nil) (y_load rfl Tryd.underlying33 rfl))) rfl ?_
      refine Draw.step rfl rfl rfl (StepOk.opC rfl rfl rfl rfl rfl (fun hg => Yields.incl (Incl.same (t := 1) rfl Incl.nil) (y_field rfl Tryd.underlying31 rfl ti29.siz rfl))) rfl ?_
      refine Draw.step rfl rfl rfl (StepOk.opC rfl rfl rfl rfl rfl (fun hg => Yields.incl (Incl.cond (t := 45) rfl hg Incl.nil) (y_load rfl Tryd.underlying29 rfl))) rfl ?_
      refine Draw.step rfl rfl rfl (StepOk.opC rfl rfl rfl rfl rfl (fun hg => Yields.incl (Incl.same (t := 6) rfl Incl.nil) (y_move rfl))) rfl ?_
      refine Draw.step rfl rfl rfl (StepOk.opC rfl rfl rfl rfl rfl (fun hg => Yields.incl (Incl.cond (t := 46) rfl hg (Incl.cond (t := 47) rfl hg Incl.nil)) (q_index (i) (_) rfl rfl Tryd.underlying29 ti33 (fun _ => rfl) (rfl) (rng_get hiN)))) rfl ?_
      refine Draw.step rfl rfl rfl (StepOk.opC rfl rfl rfl rfl rfl (fun hg => Yields.incl (Incl.cond (t := 48) rfl hg Incl.nil) (y_load rfl Tryd.underlying33 rfl))) rfl ?_
      refine Draw.step rfl rfl rfl (StepOk.opC rfl rfl rfl rfl rfl (fun hg => Yields.incl (Incl.cond (t := 44) rfl hg (Incl.cond (t := 49) rfl hg Incl.nil)) (y_eql rfl rfl))) rfl ?_
      refine Draw.step rfl rfl rfl (StepOk.op rfl rfl rfl (y_pickAnd rfl rfl)) rfl ?_
      refine Draw.tail (m := 24) rfl rfl rfl ?_
      refine Run.nil ?_
      refine Run.nT ?_
      refine Run.cutK [8, 9, 10, 11, 12, 13, 4, 5, 6, 1, 2, 3] [(7, i64 (csum (fun q => decide (x.a q = x.a i) && decide (x.b q = x.b i)) (fun _ => 1) (k + 1)))] ?_ ?_
      · refine Run.cond rfl (fun hb => ?_) (fun hb => ?_)
        · skip
          refine Run.region ?_
          refine Run.op rfl rfl rfl (y_move rfl) ?_
          refine Run.op rfl rfl rfl (y_add rfl rfl (by first | exact wI_in (by omega) | rfl)) ?_
          refine Run.op rfl rfl rfl (y_assign rfl) ?_
          refine Run.nil ?_
          refine Run.nT ?_
          exact Run.meetK rfl (Incl.int (t := 7) rfl (csum_t (P := (fun q => decide (x.a q = x.a i) && decide (x.b q = x.b i))) (f := (fun _ => 1)) hb) (Incl.same (t := 8) rfl (Incl.same (t := 9) rfl (Incl.same (t := 10) rfl (Incl.same (t := 11) rfl (Incl.same (t := 12) rfl (Incl.same (t := 13) rfl (Incl.same (t := 4) rfl (Incl.same (t := 5) rfl (Incl.same (t := 6) rfl (Incl.same (t := 1) rfl (Incl.same (t := 2) rfl (Incl.same (t := 3) rfl Incl.nil)))))))))))))
        · skip
          refine Run.skip ?_
          refine Run.nT ?_
          exact Run.meetK rfl (Incl.int (t := 7) rfl (csum_f (P := (fun q => decide (x.a q = x.a i) && decide (x.b q = x.b i))) (f := (fun _ => 1)) hb) (Incl.same (t := 8) rfl (Incl.same (t := 9) rfl (Incl.same (t := 10) rfl (Incl.same (t := 11) rfl (Incl.same (t := 12) rfl (Incl.same (t := 13) rfl (Incl.same (t := 4) rfl (Incl.same (t := 5) rfl (Incl.same (t := 6) rfl (Incl.same (t := 1) rfl (Incl.same (t := 2) rfl (Incl.same (t := 3) rfl Incl.nil)))))))))))))
      · skip
        refine Run.seq ?_
        refine Run.seq ?_
        refine Run.weaken (Incl.same (t := 8) rfl (Incl.same (t := 9) rfl (Incl.same (t := 10) rfl (Incl.same (t := 11) rfl (Incl.same (t := 12) rfl (Incl.same (t := 13) rfl (Incl.same (t := 4) rfl (Incl.same (t := 5) rfl (Incl.same (t := 6) rfl (Incl.same (t := 1) rfl (Incl.same (t := 2) rfl (Incl.same (t := 3) rfl (Incl.same (t := 7) rfl Incl.nil))))))))))))) ?_
        refine q_draw ?_ rfl
        refine Draw.step rfl rfl rfl (StepOk.op rfl rfl rfl (y_field rfl Tryd.underlying31 rfl ti29.siz rfl)) rfl ?_
        refine Draw.step rfl rfl rfl (StepOk.op rfl rfl rfl (y_load rfl Tryd.underlying29 rfl)) rfl ?_
        refine Draw.step rfl rfl rfl (StepOk.op rfl rfl rfl (y_move rfl)) rfl ?_
        refine Draw.step rfl rfl rfl (StepOk.op rfl rfl rfl (q_index (k) (_) rfl rfl Tryd.underlying29 ti33 (fun _ => rfl) (rfl) (rng_get hkN))) rfl ?_
        refine Draw.step rfl rfl rfl (StepOk.op rfl rfl rfl (y_load rfl Tryd.underlying33 rfl)) rfl ?_
        refine Draw.step rfl rfl rfl (StepOk.op rfl rfl rfl (y_field rfl Tryd.underlying31 rfl ti29.siz rfl)) rfl ?_
        refine Draw.step rfl rfl rfl (StepOk.op rfl rfl rfl (y_load rfl Tryd.underlying29 rfl)) rfl ?_
        refine Draw.step rfl rfl rfl (StepOk.op rfl rfl rfl (y_move rfl)) rfl ?_
        refine Draw.step rfl rfl rfl (StepOk.op rfl rfl rfl (q_index (i) (_) rfl rfl Tryd.underlying29 ti33 (fun _ => rfl) (rfl) (rng_get hiN))) rfl ?_
        refine Draw.step rfl rfl rfl (StepOk.op rfl rfl rfl (y_load rfl Tryd.underlying33 rfl)) rfl ?_
        refine Draw.step rfl rfl rfl (StepOk.op rfl rfl rfl (y_eql rfl rfl)) rfl ?_
        refine Draw.step rfl rfl rfl (StepOk.op rfl rfl rfl (y_move rfl)) rfl ?_
        refine Draw.step rfl rfl rfl (StepOk.opC rfl rfl rfl rfl rfl (fun hg => Yields.incl (Incl.same (t := 1) rfl Incl.nil) (y_field rfl Tryd.underlying31 rfl ti29.siz rfl))) rfl ?_
        refine Draw.step rfl rfl rfl (StepOk.opC rfl rfl rfl rfl rfl (fun hg => Yields.incl (Incl.cond (t := 66) rfl hg Incl.nil) (y_load rfl Tryd.underlying29 rfl))) rfl ?_
        refine Draw.step rfl rfl rfl (StepOk.opC rfl rfl rfl rfl rfl (fun hg => Yields.incl (Incl.same (t := 13) rfl Incl.nil) (y_move rfl))) rfl ?_
        refine Draw.step rfl rfl rfl (StepOk.opC rfl rfl rfl rfl rfl (fun hg => Yields.incl (Incl.cond (t := 67) rfl hg (Incl.cond (t := 68) rfl hg Incl.nil)) (q_index (k) (_) rfl rfl Tryd.underlying29 ti33 (fun _ => rfl) (rfl) (rng_get hkN)))) rfl ?_
        refine Draw.step rfl rfl rfl (StepOk.opC rfl rfl rfl rfl rfl (fun hg => Yields.incl (Incl.cond (t := 69) rfl hg Incl.nil) (y_load rfl Tryd.underlying33 rfl))) rfl ?_
        refine Draw.step rfl rfl rfl (StepOk.opC rfl rfl rfl rfl rfl (fun hg => Yields.incl (Incl.same (t := 1) rfl Incl.nil) (y_field rfl Tryd.underlying31 rfl ti29.siz rfl))) rfl ?_
        refine Draw.step rfl rfl rfl (StepOk.opC rfl rfl rfl rfl rfl (fun hg => Yields.incl (Incl.cond (t := 71) rfl hg Incl.nil) (y_load rfl Tryd.underlying29 rfl))) rfl ?_
        refine Draw.step rfl rfl rfl (StepOk.opC rfl rfl rfl rfl rfl (fun hg => Yields.incl (Incl.same (t := 6) rfl Incl.nil) (y_move rfl))) rfl ?_
        refine Draw.step rfl rfl rfl (StepOk.opC rfl rfl rfl rfl rfl (fun hg => Yields.incl (Incl.cond (t := 72) rfl hg (Incl.cond (t := 73) rfl hg Incl.nil)) (q_index (i) (_) rfl rfl Tryd.underlying29 ti33 (fun _ => rfl) (rfl) (rng_get hiN)))) rfl ?_
        refine Draw.step rfl rfl rfl (StepOk.opC rfl rfl rfl rfl rfl (fun hg => Yields.incl (Incl.cond (t := 74) rfl hg Incl.nil) (y_load rfl Tryd.underlying33 rfl))) rfl ?_
        refine Draw.step rfl rfl rfl (StepOk.opC rfl rfl rfl rfl rfl (fun hg => Yields.incl (Incl.cond (t := 70) rfl hg (Incl.cond (t := 75) rfl hg Incl.nil)) (y_eql rfl rfl))) rfl ?_
        refine Draw.step rfl rfl rfl (StepOk.op rfl rfl rfl (y_pickAnd rfl rfl)) rfl ?_
        refine Draw.tail (m := 24) rfl rfl rfl ?_
        refine Run.nil ?_
        refine Run.nT ?_
        refine Run.cutK [9, 10, 11, 12, 13, 4, 5, 6, 1, 2, 3, 7] [(8, i64 (csum (fun q => decide (x.l q = x.a i) && decide (x.r q = x.b i)) (fun _ => 1) (k + 1)))] ?_ ?_
        · refine Run.cond rfl (fun hb => ?_) (fun hb => ?_)
          · skip
            refine Run.region ?_
            refine Run.op rfl rfl rfl (y_move rfl) ?_
            refine Run.op rfl rfl rfl (y_add rfl rfl (by first | exact wI_in (by omega) | rfl)) ?_
            refine Run.op rfl rfl rfl (y_assign rfl) ?_
            refine Run.nil ?_
            refine Run.nT ?_
            exact Run.meetK rfl (Incl.int (t := 8) rfl (csum_t (P := (fun q => decide (x.l q = x.a i) && decide (x.r q = x.b i))) (f := (fun _ => 1)) hb) (Incl.same (t := 9) rfl (Incl.same (t := 10) rfl (Incl.same (t := 11) rfl (Incl.same (t := 12) rfl (Incl.same (t := 13) rfl (Incl.same (t := 4) rfl (Incl.same (t := 5) rfl (Incl.same (t := 6) rfl (Incl.same (t := 1) rfl (Incl.same (t := 2) rfl (Incl.same (t := 3) rfl (Incl.same (t := 7) rfl Incl.nil)))))))))))))
          · skip
            refine Run.skip ?_
            refine Run.nT ?_
            exact Run.meetK rfl (Incl.int (t := 8) rfl (csum_f (P := (fun q => decide (x.l q = x.a i) && decide (x.r q = x.b i))) (f := (fun _ => 1)) hb) (Incl.same (t := 9) rfl (Incl.same (t := 10) rfl (Incl.same (t := 11) rfl (Incl.same (t := 12) rfl (Incl.same (t := 13) rfl (Incl.same (t := 4) rfl (Incl.same (t := 5) rfl (Incl.same (t := 6) rfl (Incl.same (t := 1) rfl (Incl.same (t := 2) rfl (Incl.same (t := 3) rfl (Incl.same (t := 7) rfl Incl.nil)))))))))))))
        · skip
          refine Run.seq ?_
          refine Run.weaken (Incl.same (t := 9) rfl (Incl.same (t := 10) rfl (Incl.same (t := 11) rfl (Incl.same (t := 12) rfl (Incl.same (t := 13) rfl (Incl.same (t := 4) rfl (Incl.same (t := 5) rfl (Incl.same (t := 6) rfl (Incl.same (t := 1) rfl (Incl.same (t := 2) rfl (Incl.same (t := 3) rfl (Incl.same (t := 7) rfl (Incl.same (t := 8) rfl Incl.nil))))))))))))) ?_
          refine q_draw ?_ rfl
          refine Draw.step rfl rfl rfl (StepOk.op rfl rfl rfl (y_move rfl)) rfl ?_
          refine Draw.step rfl rfl rfl (StepOk.op rfl rfl rfl (y_move rfl)) rfl ?_
          refine Draw.step rfl rfl rfl (StepOk.opC rfl rfl rfl rfl rfl (fun hg => Yields.incl (Incl.same (t := 1) rfl Incl.nil) (y_field rfl Tryd.underlying31 rfl ti29.siz rfl))) rfl ?_
          refine Draw.step rfl rfl rfl (StepOk.opC rfl rfl rfl rfl rfl (fun hg => Yields.incl (Incl.cond (t := 82) rfl hg Incl.nil) (y_load rfl Tryd.underlying29 rfl))) rfl ?_
          refine Draw.step rfl rfl rfl (StepOk.opC rfl rfl rfl rfl rfl (fun hg => Yields.incl (Incl.same (t := 13) rfl Incl.nil) (y_move rfl))) rfl ?_
          refine Draw.step rfl rfl rfl (StepOk.opC rfl rfl rfl rfl rfl (fun hg => Yields.incl (Incl.cond (t := 83) rfl hg (Incl.cond (t := 84) rfl hg Incl.nil)) (q_index (k) (_) rfl rfl Tryd.underlying29 ti33 (fun _ => rfl) (rfl) (rng_get hkN)))) rfl ?_
          refine Draw.step rfl rfl rfl (StepOk.opC rfl rfl rfl rfl rfl (fun hg => Yields.incl (Incl.cond (t := 85) rfl hg Incl.nil) (y_load rfl Tryd.underlying33 rfl))) rfl ?_
          refine Draw.step rfl rfl rfl (StepOk.opC rfl rfl rfl rfl rfl (fun hg => Yields.incl (Incl.same (t := 1) rfl Incl.nil) (y_field rfl Tryd.underlying31 rfl ti29.siz rfl))) rfl ?_
          refine Draw.step rfl rfl rfl (StepOk.opC rfl rfl rfl rfl rfl (fun hg => Yields.incl (Incl.cond (t := 87) rfl hg Incl.nil) (y_load rfl Tryd.underlying29 rfl))) rfl ?_
          refine Draw.step rfl rfl rfl (StepOk.opC rfl rfl rfl rfl rfl (fun hg => Yields.incl (Incl.same (t := 6) rfl Incl.nil) (y_move rfl))) rfl ?_
          refine Draw.step rfl rfl rfl (StepOk.opC rfl rfl rfl rfl rfl (fun hg => Yields.incl (Incl.cond (t := 88) rfl hg (Incl.cond (t := 89) rfl hg Incl.nil)) (q_index (i) (_) rfl rfl Tryd.underlying29 ti33 (fun _ => rfl) (rfl) (rng_get hiN)))) rfl ?_
          refine Draw.step rfl rfl rfl (StepOk.opC rfl rfl rfl rfl rfl (fun hg => Yields.incl (Incl.cond (t := 90) rfl hg Incl.nil) (y_load rfl Tryd.underlying33 rfl))) rfl ?_
          refine Draw.step rfl rfl rfl (StepOk.opC rfl rfl rfl rfl rfl (fun hg => Yields.incl (Incl.cond (t := 86) rfl hg (Incl.cond (t := 91) rfl hg Incl.nil)) (y_eql rfl rfl))) rfl ?_
          refine Draw.step rfl rfl rfl (StepOk.op rfl rfl rfl (y_pickOr rfl rfl)) rfl ?_
          refine Draw.tail (m := 14) rfl rfl rfl ?_
          refine Run.op rfl rfl rfl (y_assign rfl) ?_
          refine Run.nil ?_
          refine Run.nT ?_
          refine Run.seq ?_
          refine Run.seq ?_
          refine Run.weaken (Incl.same (t := 9) rfl (Incl.same (t := 10) rfl (Incl.same (t := 11) rfl (Incl.same (t := 12) rfl (Incl.same (t := 13) rfl (Incl.same (t := 4) rfl (Incl.same (t := 5) rfl (Incl.same (t := 6) rfl (Incl.same (t := 1) rfl (Incl.same (t := 2) rfl (Incl.same (t := 3) rfl (Incl.same (t := 7) rfl (Incl.same (t := 8) rfl Incl.nil))))))))))))) ?_
          refine q_draw ?_ rfl
          refine Draw.step rfl rfl rfl (StepOk.op rfl rfl rfl (y_field rfl Tryd.underlying31 rfl ti29.siz rfl)) rfl ?_
          refine Draw.step rfl rfl rfl (StepOk.op rfl rfl rfl (y_load rfl Tryd.underlying29 rfl)) rfl ?_
          refine Draw.step rfl rfl rfl (StepOk.op rfl rfl rfl (y_move rfl)) rfl ?_
          refine Draw.step rfl rfl rfl (StepOk.op rfl rfl rfl (q_index (k) (_) rfl rfl Tryd.underlying29 ti33 (fun _ => rfl) (rfl) (rng_get hkN))) rfl ?_
          refine Draw.step rfl rfl rfl (StepOk.op rfl rfl rfl (y_load rfl Tryd.underlying33 rfl)) rfl ?_
          refine Draw.step rfl rfl rfl (StepOk.op rfl rfl rfl (y_field rfl Tryd.underlying31 rfl ti29.siz rfl)) rfl ?_
          refine Draw.step rfl rfl rfl (StepOk.op rfl rfl rfl (y_load rfl Tryd.underlying29 rfl)) rfl ?_
          refine Draw.step rfl rfl rfl (StepOk.op rfl rfl rfl (y_move rfl)) rfl ?_
          refine Draw.step rfl rfl rfl (StepOk.op rfl rfl rfl (q_index (i) (_) rfl rfl Tryd.underlying29 ti33 (fun _ => rfl) (rfl) (rng_get hiN))) rfl ?_
          refine Draw.step rfl rfl rfl (StepOk.op rfl rfl rfl (y_load rfl Tryd.underlying33 rfl)) rfl ?_
          refine Draw.step rfl rfl rfl (StepOk.op rfl rfl rfl (y_eql rfl rfl)) rfl ?_
          refine Draw.tail (m := 11) rfl rfl rfl ?_
          refine Run.nil ?_
          refine Run.nT ?_
          refine Run.cutK [9, 10, 12, 13, 4, 5, 6, 1, 2, 3, 7, 8] [(11, u64 (csum (fun q => decide (x.e q = x.e i)) (fun _ => 1) (k + 1)))] ?_ ?_
          · refine Run.cond rfl (fun hb => ?_) (fun hb => ?_)
            · skip
              refine Run.region ?_
              refine Run.op rfl rfl rfl (y_move rfl) ?_
              refine Run.op rfl rfl rfl (y_add rfl rfl (by first | exact wU_in (by omega) | rfl)) ?_
              refine Run.op rfl rfl rfl (y_assign rfl) ?_
              refine Run.nil ?_
              refine Run.nT ?_
              exact Run.meetK rfl (Incl.int (t := 11) rfl (csum_t (P := (fun q => decide (x.e q = x.e i))) (f := (fun _ => 1)) hb) (Incl.same (t := 9) rfl (Incl.same (t := 10) rfl (Incl.same (t := 12) rfl (Incl.same (t := 13) rfl (Incl.same (t := 4) rfl (Incl.same (t := 5) rfl (Incl.same (t := 6) rfl (Incl.same (t := 1) rfl (Incl.same (t := 2) rfl (Incl.same (t := 3) rfl (Incl.same (t := 7) rfl (Incl.same (t := 8) rfl Incl.nil)))))))))))))
            · skip
              refine Run.skip ?_
              refine Run.nT ?_
              exact Run.meetK rfl (Incl.int (t := 11) rfl (csum_f (P := (fun q => decide (x.e q = x.e i))) (f := (fun _ => 1)) hb) (Incl.same (t := 9) rfl (Incl.same (t := 10) rfl (Incl.same (t := 12) rfl (Incl.same (t := 13) rfl (Incl.same (t := 4) rfl (Incl.same (t := 5) rfl (Incl.same (t := 6) rfl (Incl.same (t := 1) rfl (Incl.same (t := 2) rfl (Incl.same (t := 3) rfl (Incl.same (t := 7) rfl (Incl.same (t := 8) rfl Incl.nil)))))))))))))
          · skip
            refine Run.seq ?_
            refine Run.seq ?_
            refine Run.weaken (Incl.same (t := 9) rfl (Incl.same (t := 10) rfl (Incl.same (t := 12) rfl (Incl.same (t := 13) rfl (Incl.same (t := 4) rfl (Incl.same (t := 5) rfl (Incl.same (t := 6) rfl (Incl.same (t := 1) rfl (Incl.same (t := 2) rfl (Incl.same (t := 3) rfl (Incl.same (t := 7) rfl (Incl.same (t := 8) rfl (Incl.same (t := 11) rfl Incl.nil))))))))))))) ?_
            refine q_draw ?_ rfl
            refine Draw.step rfl rfl rfl (StepOk.op rfl rfl rfl (y_field rfl Tryd.underlying31 rfl ti29.siz rfl)) rfl ?_
            refine Draw.step rfl rfl rfl (StepOk.op rfl rfl rfl (y_load rfl Tryd.underlying29 rfl)) rfl ?_
            refine Draw.step rfl rfl rfl (StepOk.op rfl rfl rfl (y_move rfl)) rfl ?_
            refine Draw.step rfl rfl rfl (StepOk.op rfl rfl rfl (q_index (k) (_) rfl rfl Tryd.underlying29 ti33 (fun _ => rfl) (rfl) (rng_get hkN))) rfl ?_
            refine Draw.step rfl rfl rfl (StepOk.op rfl rfl rfl (y_load rfl Tryd.underlying33 rfl)) rfl ?_
            refine Draw.step rfl rfl rfl (StepOk.op rfl rfl rfl (y_field rfl Tryd.underlying31 rfl ti29.siz rfl)) rfl ?_
            refine Draw.step rfl rfl rfl (StepOk.op rfl rfl rfl (y_load rfl Tryd.underlying29 rfl)) rfl ?_
            refine Draw.step rfl rfl rfl (StepOk.op rfl rfl rfl (y_move rfl)) rfl ?_
            refine Draw.step rfl rfl rfl (StepOk.op rfl rfl rfl (q_index (i) (_) rfl rfl Tryd.underlying29 ti33 (fun _ => rfl) (rfl) (rng_get hiN))) rfl ?_
            refine Draw.step rfl rfl rfl (StepOk.op rfl rfl rfl (y_load rfl Tryd.underlying33 rfl)) rfl ?_
            refine Draw.step rfl rfl rfl (StepOk.op rfl rfl rfl (y_eql rfl rfl)) rfl ?_
            refine Draw.tail (m := 11) rfl rfl rfl ?_
            refine Run.nil ?_
            refine Run.nT ?_
            refine Run.cutK [9, 10, 13, 4, 5, 6, 1, 2, 3, 7, 8, 11] [(12, u64 (csum (fun q => decide (x.t q = x.e i)) x.n (k + 1)))] ?_ ?_
            · refine Run.cond rfl (fun hb => ?_) (fun hb => ?_)
              · skip
                refine Run.region ?_
                refine Run.op rfl rfl rfl (y_move rfl) ?_
                refine Run.op rfl rfl rfl (y_field rfl Tryd.underlying31 rfl ti29.siz rfl) ?_
                refine Run.op rfl rfl rfl (y_load rfl Tryd.underlying29 rfl) ?_
                refine Run.op rfl rfl rfl (y_move rfl) ?_
                refine Run.op rfl rfl rfl (q_index (k) (_) rfl rfl Tryd.underlying29 ti33 (fun _ => rfl) (rfl) (rng_get hkN)) ?_
                refine Run.op rfl rfl rfl (y_load rfl Tryd.underlying33 rfl) ?_
                refine Run.op rfl rfl rfl (y_add rfl rfl (by first | exact wU_in (by omega) | rfl)) ?_
                refine Run.op rfl rfl rfl (y_assign rfl) ?_
                refine Run.nil ?_
                refine Run.nT ?_
                exact Run.meetK rfl (Incl.int (t := 12) rfl (csum_t (P := (fun q => decide (x.t q = x.e i))) (f := x.n) hb) (Incl.same (t := 9) rfl (Incl.same (t := 10) rfl (Incl.same (t := 13) rfl (Incl.same (t := 4) rfl (Incl.same (t := 5) rfl (Incl.same (t := 6) rfl (Incl.same (t := 1) rfl (Incl.same (t := 2) rfl (Incl.same (t := 3) rfl (Incl.same (t := 7) rfl (Incl.same (t := 8) rfl (Incl.same (t := 11) rfl Incl.nil)))))))))))))
              · skip
                refine Run.skip ?_
                refine Run.nT ?_
                exact Run.meetK rfl (Incl.int (t := 12) rfl (csum_f (P := (fun q => decide (x.t q = x.e i))) (f := x.n) hb) (Incl.same (t := 9) rfl (Incl.same (t := 10) rfl (Incl.same (t := 13) rfl (Incl.same (t := 4) rfl (Incl.same (t := 5) rfl (Incl.same (t := 6) rfl (Incl.same (t := 1) rfl (Incl.same (t := 2) rfl (Incl.same (t := 3) rfl (Incl.same (t := 7) rfl (Incl.same (t := 8) rfl (Incl.same (t := 11) rfl Incl.nil)))))))))))))
            · skip
              refine Run.seq ?_
              refine Run.seq ?_
              refine Run.weaken (Incl.same (t := 9) rfl (Incl.same (t := 10) rfl (Incl.same (t := 13) rfl (Incl.same (t := 4) rfl (Incl.same (t := 5) rfl (Incl.same (t := 6) rfl (Incl.same (t := 1) rfl (Incl.same (t := 2) rfl (Incl.same (t := 3) rfl (Incl.same (t := 7) rfl (Incl.same (t := 8) rfl (Incl.same (t := 11) rfl (Incl.same (t := 12) rfl Incl.nil))))))))))))) ?_
              refine q_draw ?_ rfl
              refine Draw.step rfl rfl rfl (StepOk.op rfl rfl rfl (y_field rfl Tryd.underlying31 rfl ti29.siz rfl)) rfl ?_
              refine Draw.step rfl rfl rfl (StepOk.op rfl rfl rfl (y_load rfl Tryd.underlying29 rfl)) rfl ?_
              refine Draw.step rfl rfl rfl (StepOk.op rfl rfl rfl (y_move rfl)) rfl ?_
              refine Draw.step rfl rfl rfl (StepOk.op rfl rfl rfl (q_index (k) (_) rfl rfl Tryd.underlying29 ti33 (fun _ => rfl) (rfl) (rng_get hkN))) rfl ?_
              refine Draw.step rfl rfl rfl (StepOk.op rfl rfl rfl (y_load rfl Tryd.underlying33 rfl)) rfl ?_
              refine Draw.step rfl rfl rfl (StepOk.op rfl rfl rfl (y_field rfl Tryd.underlying31 rfl ti29.siz rfl)) rfl ?_
              refine Draw.step rfl rfl rfl (StepOk.op rfl rfl rfl (y_load rfl Tryd.underlying29 rfl)) rfl ?_
              refine Draw.step rfl rfl rfl (StepOk.op rfl rfl rfl (y_move rfl)) rfl ?_
              refine Draw.step rfl rfl rfl (StepOk.op rfl rfl rfl (q_index (i) (_) rfl rfl Tryd.underlying29 ti33 (fun _ => rfl) (rfl) (rng_get hiN))) rfl ?_
              refine Draw.step rfl rfl rfl (StepOk.op rfl rfl rfl (y_load rfl Tryd.underlying33 rfl)) rfl ?_
              refine Draw.step rfl rfl rfl (StepOk.op rfl rfl rfl (y_eql rfl rfl)) rfl ?_
              refine Draw.tail (m := 11) rfl rfl rfl ?_
              refine Run.nil ?_
              refine Run.nT ?_
              refine Run.cutK [9, 13, 4, 5, 6, 1, 2, 3, 7, 8, 11, 12] [(10, u64 (csum2 (fun q => decide (x.t q = x.t i)) (fun q => decide (x.e q = x.t i)) x.n (fun _ => 96) k + if (fun q => decide (x.t q = x.t i)) k = true then x.n k else 0))] ?_ ?_
              · refine Run.cond rfl (fun hb => ?_) (fun hb => ?_)
                · skip
                  refine Run.region ?_
                  refine Run.op rfl rfl rfl (y_move rfl) ?_
                  refine Run.op rfl rfl rfl (y_field rfl Tryd.underlying31 rfl ti29.siz rfl) ?_
                  refine Run.op rfl rfl rfl (y_load rfl Tryd.underlying29 rfl) ?_
                  refine Run.op rfl rfl rfl (y_move rfl) ?_
                  refine Run.op rfl rfl rfl (q_index (k) (_) rfl rfl Tryd.underlying29 ti33 (fun _ => rfl) (rfl) (rng_get hkN)) ?_
                  refine Run.op rfl rfl rfl (y_load rfl Tryd.underlying33 rfl) ?_
                  refine Run.op rfl rfl rfl (y_add rfl rfl (by first | exact wU_in (by omega) | rfl)) ?_
                  refine Run.op rfl rfl rfl (y_assign rfl) ?_
                  refine Run.nil ?_
                  refine Run.nT ?_
                  exact Run.meetK rfl (Incl.int (t := 10) rfl (by rw [if_pos hb]) (Incl.same (t := 9) rfl (Incl.same (t := 13) rfl (Incl.same (t := 4) rfl (Incl.same (t := 5) rfl (Incl.same (t := 6) rfl (Incl.same (t := 1) rfl (Incl.same (t := 2) rfl (Incl.same (t := 3) rfl (Incl.same (t := 7) rfl (Incl.same (t := 8) rfl (Incl.same (t := 11) rfl (Incl.same (t := 12) rfl Incl.nil)))))))))))))
                · skip
                  refine Run.skip ?_
                  refine Run.nT ?_
                  exact Run.meetK rfl (Incl.int (t := 10) rfl (by have hb2 : (fun q => decide (x.t q = x.t i)) k = false := hb; rw [if_neg (by rw [hb2]; decide), Int.add_zero]) (Incl.same (t := 9) rfl (Incl.same (t := 13) rfl (Incl.same (t := 4) rfl (Incl.same (t := 5) rfl (Incl.same (t := 6) rfl (Incl.same (t := 1) rfl (Incl.same (t := 2) rfl (Incl.same (t := 3) rfl (Incl.same (t := 7) rfl (Incl.same (t := 8) rfl (Incl.same (t := 11) rfl (Incl.same (t := 12) rfl Incl.nil)))))))))))))
              · skip
                refine Run.seq ?_
                refine Run.weaken (Incl.same (t := 9) rfl (Incl.same (t := 13) rfl (Incl.same (t := 4) rfl (Incl.same (t := 5) rfl (Incl.same (t := 6) rfl (Incl.same (t := 1) rfl (Incl.same (t := 2) rfl (Incl.same (t := 3) rfl (Incl.same (t := 7) rfl (Incl.same (t := 8) rfl (Incl.same (t := 11) rfl (Incl.same (t := 12) rfl (Incl.same (t := 10) rfl Incl.nil))))))))))))) ?_
                refine q_draw ?_ rfl
                refine Draw.step rfl rfl rfl (StepOk.op rfl rfl rfl (y_field rfl Tryd.underlying31 rfl ti29.siz rfl)) rfl ?_
                refine Draw.step rfl rfl rfl (StepOk.op rfl rfl rfl (y_load rfl Tryd.underlying29 rfl)) rfl ?_
                refine Draw.step rfl rfl rfl (StepOk.op rfl rfl rfl (y_move rfl)) rfl ?_
                refine Draw.step rfl rfl rfl (StepOk.op rfl rfl rfl (q_index (k) (_) rfl rfl Tryd.underlying29 ti33 (fun _ => rfl) (rfl) (rng_get hkN))) rfl ?_
                refine Draw.step rfl rfl rfl (StepOk.op rfl rfl rfl (y_load rfl Tryd.underlying33 rfl)) rfl ?_
                refine Draw.step rfl rfl rfl (StepOk.op rfl rfl rfl (y_field rfl Tryd.underlying31 rfl ti29.siz rfl)) rfl ?_
                refine Draw.step rfl rfl rfl (StepOk.op rfl rfl rfl (y_load rfl Tryd.underlying29 rfl)) rfl ?_
                refine Draw.step rfl rfl rfl (StepOk.op rfl rfl rfl (y_move rfl)) rfl ?_
                refine Draw.step rfl rfl rfl (StepOk.op rfl rfl rfl (q_index (i) (_) rfl rfl Tryd.underlying29 ti33 (fun _ => rfl) (rfl) (rng_get hiN))) rfl ?_
                refine Draw.step rfl rfl rfl (StepOk.op rfl rfl rfl (y_load rfl Tryd.underlying33 rfl)) rfl ?_
                refine Draw.step rfl rfl rfl (StepOk.op rfl rfl rfl (y_eql rfl rfl)) rfl ?_
                refine Draw.tail (m := 11) rfl rfl rfl ?_
                refine Run.nil ?_
                refine Run.nT ?_
                refine Run.cond rfl (fun hb => ?_) (fun hb => ?_)
                · skip
                  refine Run.region ?_
                  refine Run.op rfl rfl rfl (y_move rfl) ?_
                  have hif : 0 ≤ (if (decide (x.t k = x.t i)) = true then x.n k else 0) ∧ (if (decide (x.t k = x.t i)) = true then x.n k else 0) ≤ 96 := by split <;> omega
                  refine Run.op rfl rfl rfl (y_add rfl rfl (by first | exact wU_in (by omega) | rfl)) ?_
                  refine Run.op rfl rfl rfl (y_assign rfl) ?_
                  refine Run.nil ?_
                  refine Run.nB ?_
                  refine Run.nT ?_
                  refine Run.region ?_
                  refine Run.op rfl rfl rfl (y_move rfl) ?_
                  refine Run.op rfl rfl rfl (y_add rfl rfl (by first | exact wI_in (by omega) | rfl)) ?_
                  refine Run.op rfl rfl rfl (y_assign rfl) ?_
                  refine Run.nil ?_
                  refine Run.nT ?_
                  refine Run.round (k + 1) ?_ ?_ ?_ ?_
                  · show k + 1 ≤ N; omega
                  · show N - (k + 1) < N - k; omega
                  · rfl
                  · exact (Incl.same (t := 7) rfl (Incl.same (t := 8) rfl (Incl.same (t := 9) rfl (Incl.int (t := 10) rfl (csum2_t (P := (fun q => decide (x.t q = x.t i))) (P' := (fun q => decide (x.e q = x.t i))) (f := x.n) (f' := (fun _ => 96)) hb) (Incl.same (t := 11) rfl (Incl.same (t := 12) rfl (Incl.int (t := 13) rfl (by omega) (Incl.same (t := 4) rfl (Incl.same (t := 5) rfl (Incl.same (t := 6) rfl (Incl.same (t := 1) rfl (Incl.same (t := 2) rfl (Incl.same (t := 3) rfl Incl.nil)))))))))))))
                · skip
                  refine Run.skip ?_
                  refine Run.nB ?_
                  refine Run.nT ?_
                  refine Run.region ?_
                  refine Run.op rfl rfl rfl (y_move rfl) ?_
                  refine Run.op rfl rfl rfl (y_add rfl rfl (by first | exact wI_in (by omega) | rfl)) ?_
                  refine Run.op rfl rfl rfl (y_assign rfl) ?_
                  refine Run.nil ?_
                  refine Run.nT ?_
                  refine Run.round (k + 1) ?_ ?_ ?_ ?_
                  · show k + 1 ≤ N; omega
                  · show N - (k + 1) < N - k; omega
                  · rfl
                  · exact (Incl.same (t := 7) rfl (Incl.same (t := 8) rfl (Incl.same (t := 9) rfl (Incl.int (t := 10) rfl (csum2_f (P := (fun q => decide (x.t q = x.t i))) (P' := (fun q => decide (x.e q = x.t i))) (f := x.n) (f' := (fun _ => 96)) hb) (Incl.same (t := 11) rfl (Incl.same (t := 12) rfl (Incl.int (t := 13) rfl (by omega) (Incl.same (t := 4) rfl (Incl.same (t := 5) rfl (Incl.same (t := 6) rfl (Incl.same (t := 1) rfl (Incl.same (t := 2) rfl (Incl.same (t := 3) rfl Incl.nil)))))))))))))
    · obtain rfl : N = k := by have := of_decide_eq_false hb; omega
      refine Run.exit ?_
      refine Run.eT ?_
      refine Run.eT ?_
      refine Run.eB ?_
      refine Run.nT ?_
      refine Run.seq ?_
      refine Run.region ?_
      refine Run.op rfl rfl rfl (y_move rfl) ?_
      refine Run.op rfl rfl rfl (y_move rfl) ?_
      refine Run.opC rfl rfl rfl rfl rfl (fun hg => Yields.incl (Incl.same (t := 7) rfl Incl.nil) (y_move rfl)) ?_
      refine Run.opC rfl rfl rfl rfl rfl (fun hg => Yields.incl (Incl.same (t := 8) rfl Incl.nil) (y_move rfl)) ?_
      refine Run.opC rfl rfl rfl rfl rfl (fun hg => Yields.incl (Incl.cond (t := 158) rfl hg (Incl.cond (t := 159) rfl hg Incl.nil)) (y_eql rfl rfl)) ?_
      refine Run.op rfl rfl rfl (y_pickAnd rfl rfl) ?_
      refine Run.op rfl rfl rfl (y_assign rfl) ?_
      refine Run.nil ?_
      refine Run.nT ?_
      refine Run.region ?_
      refine Run.op rfl rfl rfl (y_move rfl) ?_
      refine Run.op rfl rfl rfl (y_move rfl) ?_
      refine Run.opC rfl rfl rfl rfl rfl (fun hg => Yields.incl (Incl.same (t := 9) rfl Incl.nil) (y_move rfl)) ?_
      refine Run.op rfl rfl rfl (y_pickAnd rfl rfl) ?_
      refine Run.op rfl rfl rfl (y_move rfl) ?_
      refine Run.opC rfl rfl rfl rfl rfl (fun hg => Yields.incl (Incl.same (t := 12) rfl Incl.nil) (y_move rfl)) ?_
      refine Run.opC rfl rfl rfl rfl rfl (fun hg => Yields.incl (Incl.same (t := 11) rfl Incl.nil) (y_move rfl)) ?_
      refine Run.opC rfl rfl rfl rfl rfl (fun hg => Yields.incl (Incl.cond (t := 168) rfl hg Incl.nil) (y_mul rfl rfl (by first | exact wU_in (by omega) | rfl))) ?_
      refine Run.opC rfl rfl rfl rfl rfl (fun hg => Yields.incl (Incl.cond (t := 167) rfl hg (Incl.cond (t := 169) rfl hg Incl.nil)) (y_add rfl rfl (by first | exact wU_in (by omega) | rfl))) ?_
      refine Run.opC rfl rfl rfl rfl rfl (fun hg => Yields.incl (Incl.cond (t := 170) rfl hg Incl.nil) (y_rem rfl rfl (by omega) (by first | exact tmod_of (by omega) | rfl))) ?_
      refine Run.opC rfl rfl rfl rfl rfl (fun hg => Yields.incl (Incl.cond (t := 171) rfl hg Incl.nil) (y_eql rfl rfl)) ?_
      refine Run.op rfl rfl rfl (y_pickAnd rfl rfl) ?_
      refine Run.op rfl rfl rfl (y_move rfl) ?_
      refine Run.opC rfl rfl rfl rfl rfl (fun hg => Yields.incl (Incl.same (t := 10) rfl Incl.nil) (y_move rfl)) ?_
      refine Run.opC rfl rfl rfl rfl rfl (fun hg => Yields.incl (Incl.cond (t := 175) rfl hg Incl.nil) (y_rem rfl rfl (by omega) (by first | exact tmod_of (by omega) | rfl))) ?_
      refine Run.opC rfl rfl rfl rfl rfl (fun hg => Yields.incl (Incl.cond (t := 176) rfl hg Incl.nil) (y_eql rfl rfl)) ?_
      refine Run.op rfl rfl rfl (y_pickAnd rfl rfl) ?_
      refine Run.op rfl rfl rfl (y_assign rfl) ?_
      refine Run.nil ?_
      refine Run.nB ?_
      refine Run.nT ?_
      refine Run.region ?_
      refine Run.op rfl rfl rfl (y_move rfl) ?_
      refine Run.op rfl rfl rfl (y_add rfl rfl (by first | exact wI_in (by omega) | rfl)) ?_
      refine Run.op rfl rfl rfl (y_assign rfl) ?_
      refine Run.nil ?_
      refine Run.nT ?_
      refine Run.round (i + 1) ?_ ?_ ?_ ?_
      · show i + 1 ≤ N; omega
      · show N - (i + 1) < N - i; omega
      · rfl
      · exact (Incl.same (t := 4) rfl (Incl.same (t := 5) rfl (Incl.int (t := 6) rfl (by omega) (Incl.same (t := 1) rfl (Incl.same (t := 2) rfl (Incl.same (t := 3) rfl Incl.nil))))))
  · obtain rfl : N = i := by have := of_decide_eq_false hb; omega
    refine Run.exit ?_
    refine Run.eT ?_
    refine Run.eT ?_
    refine Run.eB ?_
    refine Run.nT ?_
    refine Run.seq ?_
    refine Run.region ?_
    refine Run.op rfl rfl rfl (y_move rfl) ?_
    refine Run.op rfl rfl rfl (y_move rfl) ?_
    refine Run.op rfl rfl rfl (y_assign rfl) ?_
    refine Run.op rfl rfl rfl (y_assign rfl) ?_
    refine Run.nil ?_
    refine Run.nT ?_
    refine Run.ret ?_
    exact Run.fin2 rfl rfl rfl (.tmp rfl) (.tmp rfl) (fun _ _ h => h) (fun _ _ h => h)

end Go.Vx
