/- Walks of the program's functions: the trees. Conditions: as each says. Printed by a program of our own (wip/tools/gen.py). -/
import Derived.Test.YtofnjbcbkfbomaaDoorVu
namespace Go.Vx
open Go Go.RowKit Go.Proofs
set_option maxRecDepth 100000
attribute [local irreducible] nd
variable (s : Seat)

section
variable [hB : HasB s] [hF : HasF s] [hT : HasT7 s]

theorem forged_fn (f : Int) (hf : fv f = true) (i : Nat) (hi : i < 4611686018427387904) (cap : Lv) (c : Nat) (hcap : cap.length = 2 ^ c) (hci : inL (fP f) cap) (a b : Dg) (ha : inD (fP f) a) (hb0 : inD (fP f) b) (p q : Lv) (hcl : c + p.length ≤ 18) (hpi : inL (fP f) p) (hq : q.length = p.length) (hqi : inL (fP f) q) (hlt : i / 2 ^ p.length < cap.length) (hleaf : climb f i a p = cap.getD (i / 2 ^ p.length) (0, 0)) : Fn s.env 21 [i64 f, i64 i, slc Kd cap, dig a, dig b, slc Kd p, slc Kd q] (sbool true) := by
  have hlp : p.length ≤ 18 := by omega
  have hlq : q.length ≤ 18 := by omega
  have hqt : i / 2 ^ q.length < cap.length := by rw [hq]; exact hlt
  have hin := clash_in (i := i) hf ha hb0 hpi hqi hq
  refine Fn.of Tryd.func21 rfl Tryd.ntmps21 rfl ?_
  intro w0 F0
  refine Run.seq ?_
  refine Run.region ?_
  refine Run.boxA rfl rfl ?_
  intro b10
  refine Run.boxA rfl rfl ?_
  intro b11
  refine Run.op rfl rfl rfl (y_assign rfl) ?_
  refine Run.nil ?_
  refine Run.nT ?_
  refine Run.seq ?_
  refine Run.weaken (Incl.same (t := 0) rfl (Incl.same (t := 1) rfl (Incl.same (t := 2) rfl (Incl.same (t := 3) rfl (Incl.same (t := 4) rfl (Incl.same (t := 5) rfl (Incl.same (t := 6) rfl (Incl.same (t := 10) rfl (Incl.same (t := 11) rfl (Incl.same (t := 14) rfl Incl.nil)))))))))) ?_
  refine q_draw ?_ rfl
  refine Draw.step rfl rfl rfl (StepOk.op rfl rfl rfl (y_move rfl)) rfl ?_
  refine Draw.step rfl rfl rfl (StepOk.op rfl rfl rfl (y_move rfl)) rfl ?_
  refine Draw.step rfl rfl rfl (StepOk.op rfl rfl rfl (y_loadPW 11 rfl rfl Tryd.underlying42 rfl ti42.siz)) rfl ?_
  refine Draw.step rfl rfl rfl (StepOk.op rfl rfl rfl (y_move rfl)) rfl ?_
  refine Draw.step rfl rfl rfl (StepOk.op rfl rfl rfl (q_call en19 rfl (climbed_fn s f hf i hi b hb0 q hlq hqi))) rfl ?_
  refine Draw.step rfl rfl rfl (StepOk.op rfl rfl rfl (y_move rfl)) rfl ?_
  refine Draw.step rfl rfl rfl (StepOk.op rfl rfl rfl (y_move rfl)) rfl ?_
  refine Draw.step rfl rfl rfl (StepOk.op rfl rfl rfl (y_move rfl)) rfl ?_
  refine Draw.step rfl rfl rfl (StepOk.op rfl rfl rfl (y_lenS rfl Tryd.underlying40)) rfl ?_
  refine Draw.step rfl rfl rfl (StepOk.op rfl rfl rfl (y_shr rfl rfl (by omega) (shr_nat (by omega)))) rfl ?_
  refine Draw.step rfl rfl rfl (StepOk.op rfl rfl rfl (q_index (i / 2 ^ q.length) (cap.getD (i / 2 ^ q.length) (0, 0)) rfl rfl Tryd.underlying40 ti42 (fun _ => rfl) (rfl) (getD_some _ hqt))) rfl ?_
  refine Draw.step rfl rfl rfl (StepOk.op rfl rfl rfl (y_loadW rfl Tryd.underlying42 rfl ti42.siz)) rfl ?_
  refine Draw.step rfl rfl rfl (StepOk.op rfl rfl rfl (y_eqD rfl rfl rfl)) rfl ?_
  refine Draw.step rfl rfl rfl (StepOk.op rfl rfl rfl (y_assign rfl)) rfl ?_
  refine Draw.tail (m := 14) rfl rfl rfl ?_
  refine Run.nil ?_
  refine Run.nT ?_
  refine Run.seq ?_
  refine Run.seq ?_
  refine Run.weaken (Incl.same (t := 0) rfl (Incl.same (t := 1) rfl (Incl.same (t := 2) rfl (Incl.same (t := 3) rfl (Incl.same (t := 4) rfl (Incl.same (t := 5) rfl (Incl.same (t := 6) rfl (Incl.same (t := 10) rfl (Incl.same (t := 11) rfl (Incl.same (t := 14) rfl (Incl.same (t := 15) rfl Incl.nil))))))))))) ?_
  refine q_draw ?_ rfl
  refine Draw.step rfl rfl rfl (StepOk.op rfl rfl rfl (y_move rfl)) rfl ?_
  refine Draw.step rfl rfl rfl (StepOk.op rfl rfl rfl (y_move rfl)) rfl ?_
  refine Draw.step rfl rfl rfl (StepOk.op rfl rfl rfl (y_move rfl)) rfl ?_
  refine Draw.step rfl rfl rfl (StepOk.op rfl rfl rfl (y_loadPW 11 rfl rfl Tryd.underlying42 rfl ti42.siz)) rfl ?_
  refine Draw.step rfl rfl rfl (StepOk.op rfl rfl rfl (y_move rfl)) rfl ?_
  refine Draw.step rfl rfl rfl (StepOk.op rfl rfl rfl (q_call en20 rfl (check_fn s f hf q hlq i hi cap c hcap (by omega) hci b hb0 hqi))) rfl ?_
  refine Draw.step rfl rfl rfl (StepOk.op rfl rfl rfl (y_move rfl)) rfl ?_
  refine Draw.step rfl rfl rfl (StepOk.op rfl rfl rfl (Yields.bool (c := false) (y_eqB true rfl rfl Tryd.underlying4) (by unfold chk; rw [if_pos hqt]; simp))) rfl ?_
  refine Draw.step rfl rfl rfl (StepOk.op rfl rfl rfl (y_move rfl)) rfl ?_
  refine Draw.step rfl rfl rfl (StepOk.opG rfl rfl rfl rfl rfl (y_move rfl)) rfl ?_
  refine Draw.step rfl rfl rfl (StepOk.opG rfl rfl rfl rfl rfl (y_move rfl)) rfl ?_
  refine Draw.step rfl rfl rfl (StepOk.opG rfl rfl rfl rfl rfl (y_loadPW 11 rfl rfl Tryd.underlying42 rfl ti42.siz)) rfl ?_
  refine Draw.step rfl rfl rfl (StepOk.opG rfl rfl rfl rfl rfl (y_move rfl)) rfl ?_
  refine Draw.step rfl rfl rfl (StepOk.opG rfl rfl rfl rfl rfl (q_call en64 rfl (Climb_fn s f hf i hi b hb0 q hlq hqi))) rfl ?_
  refine Draw.step rfl rfl rfl (StepOk.opG rfl rfl rfl rfl rfl (y_move rfl)) rfl ?_
  refine Draw.step rfl rfl rfl (StepOk.opG rfl rfl rfl rfl rfl (y_move rfl)) rfl ?_
  refine Draw.step rfl rfl rfl (StepOk.opG rfl rfl rfl rfl rfl (y_loadPW 11 rfl rfl Tryd.underlying42 rfl ti42.siz)) rfl ?_
  refine Draw.step rfl rfl rfl (StepOk.opG rfl rfl rfl rfl rfl (y_move rfl)) rfl ?_
  refine Draw.step rfl rfl rfl (StepOk.opG rfl rfl rfl rfl rfl (q_call en19 rfl (climbed_fn s f hf i hi b hb0 q hlq hqi))) rfl ?_
  refine Draw.step rfl rfl rfl (StepOk.opG rfl rfl rfl rfl rfl (Yields.bool (c := false) (y_neD rfl rfl rfl) (by simp))) rfl ?_
  refine Draw.step rfl rfl rfl (StepOk.op rfl rfl rfl (y_pickF rfl rfl)) rfl ?_
  refine Draw.tail (m := 21) rfl rfl rfl ?_
  refine Run.nil ?_
  refine Run.nT ?_
  refine Run.cond0 rfl ?_
  refine Run.skip ?_
  refine Run.nT ?_
  refine Run.seq ?_
  refine Run.region ?_
  refine Run.op rfl rfl rfl (y_move rfl) ?_
  refine Run.op rfl rfl rfl (y_move rfl) ?_
  refine Run.op rfl rfl rfl (y_loadPW 10 rfl rfl Tryd.underlying42 rfl ti42.siz) ?_
  refine Run.op rfl rfl rfl (y_loadPW 11 rfl rfl Tryd.underlying42 rfl ti42.siz) ?_
  refine Run.op rfl rfl rfl (y_move rfl) ?_
  refine Run.op rfl rfl rfl (y_move rfl) ?_
  refine Run.op rfl rfl rfl (q_call en65 rfl (clash_fn s f hf i hi a ha b hb0 p hlp hpi q hq hqi)) ?_
  refine Run.op rfl rfl rfl (y_move rfl) ?_
  refine Run.op rfl rfl rfl (y_extract rfl rfl) ?_
  refine Run.op rfl rfl rfl (y_extract rfl rfl) ?_
  refine Run.op rfl rfl rfl (y_extract rfl rfl) ?_
  refine q_alloc ti120 rfl rfl ?_
  intro b16
  refine q_alloc ti120 rfl rfl ?_
  intro b17
  refine Run.storeW 16 rfl rfl rfl ti120.siz rfl ?_
  refine Run.storeW 17 rfl rfl rfl ti120.siz rfl ?_
  refine Run.op rfl rfl rfl (y_assign rfl) ?_
  refine Run.nil ?_
  refine Run.nT ?_
  refine Run.seq ?_
  refine Run.seq ?_
  refine Run.cases 15 rfl (fun hb => ?_) (fun hb => ?_)
  · skip
    have he : climb f i a p = climb f i b q := by have := of_decide_eq_true hb; rw [this, hleaf, hq]
    refine Run.region ?_
    refine Run.op rfl rfl rfl (y_move rfl) ?_
    refine Run.op rfl rfl rfl (y_not rfl) ?_
    refine Run.op rfl rfl rfl (y_move rfl) ?_
    refine Run.opG rfl rfl rfl rfl rfl (y_loadPW 10 rfl rfl Tryd.underlying42 rfl ti42.siz) ?_
    refine Run.opG rfl rfl rfl rfl rfl (y_loadPW 11 rfl rfl Tryd.underlying42 rfl ti42.siz) ?_
    refine Run.opG rfl rfl rfl rfl rfl (y_eqD rfl rfl rfl) ?_
    refine Run.opG rfl rfl rfl rfl rfl (y_move rfl) ?_
    refine Run.opC rfl rfl rfl rfl rfl (fun hg => Yields.incl (Incl.same (t := 5) rfl Incl.nil) (y_move rfl)) ?_
    refine Run.opC rfl rfl rfl rfl rfl (fun hg => Yields.incl (Incl.same (t := 6) rfl Incl.nil) (y_move rfl)) ?_
    refine Run.opC rfl rfl rfl rfl rfl (fun hg => Yields.incl (Incl.cond (t := 71) rfl hg (Incl.cond (t := 72) rfl hg Incl.nil)) (q_call en18 rfl (same_fn s p q (by omega)))) ?_
    refine Run.opG rfl rfl rfl rfl rfl (y_pickAnd rfl rfl) ?_
    refine Run.op rfl rfl rfl (y_pickF rfl rfl) ?_
    refine Run.nil ?_
    refine Run.nT ?_
    refine Run.cond rfl (fun hb => ?_) (fun hb => ?_)
    · rw [Bool.and_eq_true, decide_eq_true_eq, decide_eq_true_eq] at hb
      have hno := clash_none (f := f) (i := i) hq (.inr hb)
      refine Run.seq ?_
      refine Run.region ?_
      refine Run.op rfl rfl rfl (y_move rfl) ?_
      refine Run.op rfl rfl rfl (y_not rfl) ?_
      refine Run.op rfl rfl rfl (y_assign rfl) ?_
      refine Run.nil ?_
      refine Run.nT ?_
      refine Run.ret ?_
      refine Run.rT ?_
      exact Run.fin1 rfl rfl rfl (.tmp rfl) (fun _ _ h => by rw [hno] at h; exact h)
    · have hne : ¬ (a = b ∧ p = q) := fun h => by rw [decide_eq_true h.1, decide_eq_true h.2] at hb; cases hb
      obtain ⟨hok, hxy, hnn⟩ := clash_two hq he hne
      refine Run.skip ?_
      refine Run.nT ?_
      refine Run.seq ?_
      refine Run.weaken (Incl.same (t := 0) rfl (Incl.same (t := 1) rfl (Incl.same (t := 2) rfl (Incl.same (t := 3) rfl (Incl.same (t := 4) rfl (Incl.same (t := 5) rfl (Incl.same (t := 6) rfl (Incl.same (t := 10) rfl (Incl.same (t := 11) rfl (Incl.same (t := 15) rfl (Incl.same (t := 16) rfl (Incl.same (t := 17) rfl (Incl.same (t := 18) rfl Incl.nil))))))))))))) ?_
      refine q_draw ?_ rfl
      refine Draw.step rfl rfl rfl (StepOk.op rfl rfl rfl (Yields.bool (c := true) (y_move rfl) (hok))) rfl ?_
      refine Draw.step rfl rfl rfl (StepOk.op rfl rfl rfl (y_move rfl)) rfl ?_
      refine Draw.step rfl rfl rfl (StepOk.opG rfl rfl rfl rfl rfl (y_loadPW 16 rfl rfl Tryd.underlying120 rfl ti120.siz)) rfl ?_
      refine Draw.step rfl rfl rfl (StepOk.opG rfl rfl rfl rfl rfl (y_loadPW 17 rfl rfl Tryd.underlying120 rfl ti120.siz)) rfl ?_
      refine Draw.step rfl rfl rfl (StepOk.opG rfl rfl rfl rfl rfl (Yields.bool (c := true) (y_neP rfl rfl rfl) (by rw [decide_eq_false hxy]; rfl))) rfl ?_
      refine Draw.step rfl rfl rfl (StepOk.op rfl rfl rfl (y_pickT rfl rfl)) rfl ?_
      refine Draw.step rfl rfl rfl (StepOk.op rfl rfl rfl (y_move rfl)) rfl ?_
      refine Draw.step rfl rfl rfl (StepOk.opG rfl rfl rfl rfl rfl (y_move rfl)) rfl ?_
      refine Draw.step rfl rfl rfl (StepOk.opG rfl rfl rfl rfl rfl (y_indexP 0 rfl rfl Tryd.underlying120 ti42.siz rfl (by decide))) rfl ?_
      refine Draw.step rfl rfl rfl (StepOk.opG rfl rfl rfl rfl rfl (y_loadPA 16 rfl rfl rfl rfl Tryd.underlying42 rfl ti42.siz)) rfl ?_
      refine Draw.step rfl rfl rfl (StepOk.opG rfl rfl rfl rfl rfl (y_indexP 1 rfl rfl Tryd.underlying120 ti42.siz rfl (by decide))) rfl ?_
      refine Draw.step rfl rfl rfl (StepOk.opG rfl rfl rfl rfl rfl (y_loadPA 16 rfl rfl rfl rfl Tryd.underlying42 rfl ti42.siz)) rfl ?_
      refine Draw.step rfl rfl rfl (StepOk.opG rfl rfl rfl rfl rfl (q_call en23 rfl (node07_fn s f hf (clash f i a b p q).1.1 (clash f i a b p q).1.2 hin.1.1 hin.1.2))) rfl ?_
      refine Draw.step rfl rfl rfl (StepOk.opG rfl rfl rfl rfl rfl (y_move rfl)) rfl ?_
      refine Draw.step rfl rfl rfl (StepOk.opG rfl rfl rfl rfl rfl (y_indexP 0 rfl rfl Tryd.underlying120 ti42.siz rfl (by decide))) rfl ?_
      refine Draw.step rfl rfl rfl (StepOk.opG rfl rfl rfl rfl rfl (y_loadPA 17 rfl rfl rfl rfl Tryd.underlying42 rfl ti42.siz)) rfl ?_
      refine Draw.step rfl rfl rfl (StepOk.opG rfl rfl rfl rfl rfl (y_indexP 1 rfl rfl Tryd.underlying120 ti42.siz rfl (by decide))) rfl ?_
      refine Draw.step rfl rfl rfl (StepOk.opG rfl rfl rfl rfl rfl (y_loadPA 17 rfl rfl rfl rfl Tryd.underlying42 rfl ti42.siz)) rfl ?_
      refine Draw.step rfl rfl rfl (StepOk.opG rfl rfl rfl rfl rfl (q_call en23 rfl (node07_fn s f hf (clash f i a b p q).2.1.1 (clash f i a b p q).2.1.2 hin.2.1 hin.2.2))) rfl ?_
      refine Draw.step rfl rfl rfl (StepOk.opG rfl rfl rfl rfl rfl (Yields.bool (c := true) (y_eqD rfl rfl rfl) (decide_eq_true hnn))) rfl ?_
      refine Draw.step rfl rfl rfl (StepOk.op rfl rfl rfl (y_pickT rfl rfl)) rfl ?_
      refine Draw.step rfl rfl rfl (StepOk.op rfl rfl rfl (y_assign rfl)) rfl ?_
      refine Draw.tail (m := 22) rfl rfl rfl ?_
      refine Run.nil ?_
      refine Run.nT ?_
      refine Run.ret ?_
      exact Run.fin1 rfl rfl rfl (.tmp rfl) (fun _ _ h => h)
  · skip
    have he : climb f i a p ≠ climb f i b q := by have := of_decide_eq_false hb; rw [hleaf, ← hq]; exact fun e => this e.symm
    have hno := clash_none hq (.inl he)
    refine Run.region ?_
    refine Run.op rfl rfl rfl (y_move rfl) ?_
    refine Run.op rfl rfl rfl (y_not rfl) ?_
    refine Run.op rfl rfl rfl (y_move rfl) ?_
    refine Run.opSU rfl rfl rfl rfl rfl rfl ?_
    refine Run.opSU rfl rfl rfl rfl rfl rfl ?_
    refine Run.opSU rfl rfl rfl rfl rfl rfl ?_
    refine Run.opSU rfl rfl rfl rfl rfl rfl ?_
    refine Run.opUU rfl rfl rfl rfl rfl ?_
    refine Run.opUU rfl rfl rfl rfl rfl ?_
    refine Run.opUU rfl rfl rfl rfl rfl ?_
    refine Run.opSU rfl rfl rfl rfl rfl rfl ?_
    refine Run.op rfl rfl rfl (y_pickT rfl rfl) ?_
    refine Run.nil ?_
    refine Run.nT ?_
    refine Run.cond1 rfl ?_
    refine Run.seq ?_
    refine Run.region ?_
    refine Run.op rfl rfl rfl (y_move rfl) ?_
    refine Run.op rfl rfl rfl (y_not rfl) ?_
    refine Run.op rfl rfl rfl (y_assign rfl) ?_
    refine Run.nil ?_
    refine Run.nT ?_
    refine Run.ret ?_
    refine Run.rT ?_
    exact Run.fin1 rfl rfl rfl (.tmp rfl) (fun _ _ h => by rw [hno] at h; exact h)

end

end Go.Vx
