/- Walks: searches in lists; systems are valid. Conditions: as each says. Printed by a program of our own (wip/tools/gen2.py). -/
import Derived.Test.YtofnjbcbkfbomaaDoorWc
namespace Go.Vx
open Go Go.RowKit Go.Proofs
set_option maxRecDepth 100000
variable (s : Seat)

theorem idxU_fn (q : Int → Bool) (g : FuncId) (Cs : List Spec) (hg : Enters s.env.P g) (l : List (Int)) (hq : ∀ x, x ∈ l → Fn s.env g (u64 x :: Cs) (sbool (q x))) (hl : l.length ≤ 1048576) : Fn s.env 178 [slc Ku l, sfun g Cs] (i64 (fix q l)) := by
  refine Fn.of Tryd.func178 rfl Tryd.ntmps178 rfl ?_
  intro w0 F0
  refine Run.seq ?_
  refine Run.region ?_
  refine Run.op rfl rfl rfl (y_assign rfl) ?_
  refine Run.nil ?_
  refine Run.nT ?_
  refine Run.seq ?_
  refine Run.seq ?_
  refine Run.region ?_
  refine Run.op rfl rfl rfl (y_move rfl) ?_
  refine Run.op rfl rfl rfl (y_lenS rfl Tryd.underlying29) ?_
  refine Run.op rfl rfl rfl (y_move rfl) ?_
  refine Run.nil ?_
  refine Run.nT ?_
  refine Run.block ?_
  refine Run.loopK (ι := Nat) (fun j => j ≤ l.length ∧ ∀ i y, i < j → l[i]? = some y → q y = false) (fun j => l.length - j) (fun j => []) [0, 1, 7] (fun j => [(8, i64 j)]) 0 ⟨by omega, fun i y hi => by omega⟩ rfl (Incl.same (t := 8) rfl (Incl.pick [0, 1, 7])) ?_
  rintro j ⟨hj, hI⟩
  refine Run.seq ?_
  refine Run.region ?_
  refine Run.op rfl rfl rfl (y_lss rfl rfl) ?_
  refine Run.nil ?_
  refine Run.nT ?_
  refine Run.seq ?_
  refine Run.cond rfl (fun hb => ?_) (fun hb => ?_)
  · have hjl : j < l.length := by have := of_decide_eq_true hb; omega
    refine Run.skip ?_
    refine Run.nT ?_
    refine Run.seq ?_
    refine Run.block ?_
    refine Run.seq ?_
    refine Run.region ?_
    refine Run.op rfl rfl rfl (y_move rfl) ?_
    refine Run.op rfl rfl rfl (y_assign rfl) ?_
    refine Run.nil ?_
    refine Run.nT ?_
    refine Run.seq ?_
    refine Run.region ?_
    refine Run.op rfl rfl rfl (y_move rfl) ?_
    refine Run.op rfl rfl rfl (y_move rfl) ?_
    refine Run.op rfl rfl rfl (y_move rfl) ?_
    refine Run.op rfl rfl rfl (q_index j l[j] rfl rfl Tryd.underlying29 ti33 (fun _ => rfl) (rfl) (get_some hjl)) ?_
    refine Run.op rfl rfl rfl (y_load rfl Tryd.underlying33 rfl) ?_
    refine Run.op rfl rfl rfl (q_callV hg rfl rfl (hq _ (List.getElem_mem hjl))) ?_
    refine Run.nil ?_
    refine Run.nT ?_
    refine Run.cond rfl (fun hb => ?_) (fun hb => ?_)
    · have hq1 : q l[j] = true := hb
      refine Run.seq ?_
      refine Run.region ?_
      refine Run.op rfl rfl rfl (y_move rfl) ?_
      refine Run.op rfl rfl rfl (y_assign rfl) ?_
      refine Run.nil ?_
      refine Run.nT ?_
      refine Run.ret ?_
      refine Run.rB ?_
      refine Run.rT ?_
      refine Run.rT ?_
      refine Run.rB ?_
      refine Run.rT ?_
      refine Run.fin1 rfl rfl rfl (.tmp rfl) (fun _ _ h => ?_)
      rw [fix_found (get_some hjl) hq1 hI]
      exact h
    · have hq0 : q l[j] = false := hb
      refine Run.skip ?_
      refine Run.nB ?_
      refine Run.nT ?_
      refine Run.region ?_
      refine Run.op rfl rfl rfl (y_add rfl rfl (by first | exact wI_in (by omega) | rfl)) ?_
      refine Run.op rfl rfl rfl (y_move rfl) ?_
      refine Run.nil ?_
      refine Run.nT ?_
      refine Run.round (j + 1) ?_ ?_ ?_ ?_
      · refine ⟨by omega, fun i y hi hy => ?_⟩
        by_cases e : i = j
        · subst e; rw [get_some hjl] at hy; cases hy; exact hq0
        · exact hI i y (by omega) hy
      · show l.length - (j + 1) < l.length - j; omega
      · rfl
      · exact (Incl.int (t := 8) rfl (by omega) (Incl.same (t := 0) rfl (Incl.same (t := 1) rfl (Incl.same (t := 7) rfl Incl.nil))))
  · obtain rfl : j = l.length := by have := of_decide_eq_false hb; omega
    refine Run.exit ?_
    refine Run.eT ?_
    refine Run.eT ?_
    refine Run.eB ?_
    refine Run.nT ?_
    refine Run.seq ?_
    refine Run.region ?_
    refine Run.op rfl rfl rfl (y_assign rfl) ?_
    refine Run.nil ?_
    refine Run.nT ?_
    refine Run.ret ?_
    refine Run.fin1 rfl rfl rfl (.tmp rfl) (fun _ _ h => ?_)
    rw [fix_none hI]
    exact h

theorem hasU_fn (q : Int → Bool) (g : FuncId) (Cs : List Spec) (hg : Enters s.env.P g) (l : List (Int)) (hq : ∀ x, x ∈ l → Fn s.env g (u64 x :: Cs) (sbool (q x))) (hl : l.length ≤ 1048576) : Fn s.env 163 [slc Ku l, sfun g Cs] (sbool (l.any q)) := by
  refine Fn.of Tryd.func163 rfl Tryd.ntmps163 rfl ?_
  intro w0 F0
  refine Run.seq ?_
  refine Run.region ?_
  refine Run.op rfl rfl rfl (y_assign rfl) ?_
  refine Run.nil ?_
  refine Run.nT ?_
  refine Run.seq ?_
  refine Run.region ?_
  refine Run.op rfl rfl rfl (y_move rfl) ?_
  refine Run.op rfl rfl rfl (y_move rfl) ?_
  refine Run.op rfl rfl rfl (q_call en178 rfl (idxU_fn s q g Cs hg l hq hl)) ?_
  refine Run.op rfl rfl rfl (y_geq rfl rfl) ?_
  refine Run.op rfl rfl rfl (y_assign rfl) ?_
  refine Run.nil ?_
  refine Run.nT ?_
  refine Run.ret ?_
  refine Run.fin1 rfl rfl rfl (.tmp rfl) (fun _ _ h => ?_)
  rw [← (fix_ge q l).2]
  exact h

theorem idxC_fn (q : List Int → Bool) (g : FuncId) (Cs : List Spec) (hg : Enters s.env.P g) (l : List (List Int)) (hq : ∀ x, x ∈ l → Fn s.env g (slc Ku x :: Cs) (sbool (q x))) (hl : l.length ≤ 1048576) : Fn s.env 162 [slc Kc l, sfun g Cs] (i64 (fix q l)) := by
  refine Fn.of Tryd.func162 rfl Tryd.ntmps162 rfl ?_
  intro w0 F0
  refine Run.seq ?_
  refine Run.region ?_
  refine Run.op rfl rfl rfl (y_assign rfl) ?_
  refine Run.nil ?_
  refine Run.nT ?_
  refine Run.seq ?_
  refine Run.seq ?_
  refine Run.region ?_
  refine Run.op rfl rfl rfl (y_move rfl) ?_
  refine Run.op rfl rfl rfl (y_lenS rfl Tryd.underlying61) ?_
  refine Run.op rfl rfl rfl (y_move rfl) ?_
  refine Run.nil ?_
  refine Run.nT ?_
  refine Run.block ?_
  refine Run.loopK (ι := Nat) (fun j => j ≤ l.length ∧ ∀ i y, i < j → l[i]? = some y → q y = false) (fun j => l.length - j) (fun j => []) [0, 1, 7] (fun j => [(8, i64 j)]) 0 ⟨by omega, fun i y hi => by omega⟩ rfl (Incl.same (t := 8) rfl (Incl.pick [0, 1, 7])) ?_
  rintro j ⟨hj, hI⟩
  refine Run.seq ?_
  refine Run.region ?_
  refine Run.op rfl rfl rfl (y_lss rfl rfl) ?_
  refine Run.nil ?_
  refine Run.nT ?_
  refine Run.seq ?_
  refine Run.cond rfl (fun hb => ?_) (fun hb => ?_)
  · have hjl : j < l.length := by have := of_decide_eq_true hb; omega
    refine Run.skip ?_
    refine Run.nT ?_
    refine Run.seq ?_
    refine Run.block ?_
    refine Run.seq ?_
    refine Run.region ?_
    refine Run.op rfl rfl rfl (y_move rfl) ?_
    refine Run.op rfl rfl rfl (y_assign rfl) ?_
    refine Run.nil ?_
    refine Run.nT ?_
    refine Run.seq ?_
    refine Run.region ?_
    refine Run.op rfl rfl rfl (y_move rfl) ?_
    refine Run.op rfl rfl rfl (y_move rfl) ?_
    refine Run.op rfl rfl rfl (y_move rfl) ?_
    refine Run.op rfl rfl rfl (q_index j l[j] rfl rfl Tryd.underlying61 ti29 (fun _ => rfl) (rfl) (get_some hjl)) ?_
    refine Run.op rfl rfl rfl (y_load rfl Tryd.underlying29 rfl) ?_
    refine Run.op rfl rfl rfl (q_callV hg rfl rfl (hq _ (List.getElem_mem hjl))) ?_
    refine Run.nil ?_
    refine Run.nT ?_
    refine Run.cond rfl (fun hb => ?_) (fun hb => ?_)
    · have hq1 : q l[j] = true := hb
      refine Run.seq ?_
      refine Run.region ?_
      refine Run.op rfl rfl rfl (y_move rfl) ?_
      refine Run.op rfl rfl rfl (y_assign rfl) ?_
      refine Run.nil ?_
      refine Run.nT ?_
      refine Run.ret ?_
      refine Run.rB ?_
      refine Run.rT ?_
      refine Run.rT ?_
      refine Run.rB ?_
      refine Run.rT ?_
      refine Run.fin1 rfl rfl rfl (.tmp rfl) (fun _ _ h => ?_)
      rw [fix_found (get_some hjl) hq1 hI]
      exact h
    · have hq0 : q l[j] = false := hb
      refine Run.skip ?_
      refine Run.nB ?_
      refine Run.nT ?_
      refine Run.region ?_
      refine Run.op rfl rfl rfl (y_add rfl rfl (by first | exact wI_in (by omega) | rfl)) ?_
      refine Run.op rfl rfl rfl (y_move rfl) ?_
      refine Run.nil ?_
      refine Run.nT ?_
      refine Run.round (j + 1) ?_ ?_ ?_ ?_
      · refine ⟨by omega, fun i y hi hy => ?_⟩
        by_cases e : i = j
        · subst e; rw [get_some hjl] at hy; cases hy; exact hq0
        · exact hI i y (by omega) hy
      · show l.length - (j + 1) < l.length - j; omega
      · rfl
      · exact (Incl.int (t := 8) rfl (by omega) (Incl.same (t := 0) rfl (Incl.same (t := 1) rfl (Incl.same (t := 7) rfl Incl.nil))))
  · obtain rfl : j = l.length := by have := of_decide_eq_false hb; omega
    refine Run.exit ?_
    refine Run.eT ?_
    refine Run.eT ?_
    refine Run.eB ?_
    refine Run.nT ?_
    refine Run.seq ?_
    refine Run.region ?_
    refine Run.op rfl rfl rfl (y_assign rfl) ?_
    refine Run.nil ?_
    refine Run.nT ?_
    refine Run.ret ?_
    refine Run.fin1 rfl rfl rfl (.tmp rfl) (fun _ _ h => ?_)
    rw [fix_none hI]
    exact h

theorem hasC_fn (q : List Int → Bool) (g : FuncId) (Cs : List Spec) (hg : Enters s.env.P g) (l : List (List Int)) (hq : ∀ x, x ∈ l → Fn s.env g (slc Ku x :: Cs) (sbool (q x))) (hl : l.length ≤ 1048576) : Fn s.env 124 [slc Kc l, sfun g Cs] (sbool (l.any q)) := by
  refine Fn.of Tryd.func124 rfl Tryd.ntmps124 rfl ?_
  intro w0 F0
  refine Run.seq ?_
  refine Run.region ?_
  refine Run.op rfl rfl rfl (y_assign rfl) ?_
  refine Run.nil ?_
  refine Run.nT ?_
  refine Run.seq ?_
  refine Run.region ?_
  refine Run.op rfl rfl rfl (y_move rfl) ?_
  refine Run.op rfl rfl rfl (y_move rfl) ?_
  refine Run.op rfl rfl rfl (q_call en162 rfl (idxC_fn s q g Cs hg l hq hl)) ?_
  refine Run.op rfl rfl rfl (y_geq rfl rfl) ?_
  refine Run.op rfl rfl rfl (y_assign rfl) ?_
  refine Run.nil ?_
  refine Run.nT ?_
  refine Run.ret ?_
  refine Run.fin1 rfl rfl rfl (.tmp rfl) (fun _ _ h => ?_)
  rw [← (fix_ge q l).2]
  exact h

theorem idxV_fn (q : Var → Bool) (g : FuncId) (Cs : List Spec) (hg : Enters s.env.P g) (l : List (Var)) (hq : ∀ x, x ∈ l → Fn s.env g (sagg (Kv x) :: Cs) (sbool (q x))) (hl : l.length ≤ 1048576) : Fn s.env 165 [slc Kv l, sfun g Cs] (i64 (fix q l)) := by
  refine Fn.of Tryd.func165 rfl Tryd.ntmps165 rfl ?_
  intro w0 F0
  refine Run.seq ?_
  refine Run.region ?_
  refine Run.op rfl rfl rfl (y_assign rfl) ?_
  refine Run.nil ?_
  refine Run.nT ?_
  refine Run.seq ?_
  refine Run.seq ?_
  refine Run.region ?_
  refine Run.op rfl rfl rfl (y_move rfl) ?_
  refine Run.op rfl rfl rfl (y_lenS rfl Tryd.underlying130) ?_
  refine Run.op rfl rfl rfl (y_move rfl) ?_
  refine Run.nil ?_
  refine Run.nT ?_
  refine Run.block ?_
  refine Run.loopK (ι := Nat) (fun j => j ≤ l.length ∧ ∀ i y, i < j → l[i]? = some y → q y = false) (fun j => l.length - j) (fun j => []) [0, 1, 7] (fun j => [(8, i64 j)]) 0 ⟨by omega, fun i y hi => by omega⟩ rfl (Incl.same (t := 8) rfl (Incl.pick [0, 1, 7])) ?_
  rintro j ⟨hj, hI⟩
  refine Run.seq ?_
  refine Run.region ?_
  refine Run.op rfl rfl rfl (y_lss rfl rfl) ?_
  refine Run.nil ?_
  refine Run.nT ?_
  refine Run.seq ?_
  refine Run.cond rfl (fun hb => ?_) (fun hb => ?_)
  · have hjl : j < l.length := by have := of_decide_eq_true hb; omega
    refine Run.skip ?_
    refine Run.nT ?_
    refine Run.seq ?_
    refine Run.block ?_
    refine Run.seq ?_
    refine Run.region ?_
    refine Run.op rfl rfl rfl (y_move rfl) ?_
    refine Run.op rfl rfl rfl (y_assign rfl) ?_
    refine Run.nil ?_
    refine Run.nT ?_
    refine Run.seq ?_
    refine Run.region ?_
    refine Run.op rfl rfl rfl (y_move rfl) ?_
    refine Run.op rfl rfl rfl (y_move rfl) ?_
    refine Run.op rfl rfl rfl (y_move rfl) ?_
    refine Run.op rfl rfl rfl (q_index j l[j] rfl rfl Tryd.underlying130 ti128 (fun _ => rfl) (rfl) (get_some hjl)) ?_
    refine Run.op rfl rfl rfl (y_loadW rfl Tryd.underlying128 rfl ti128.siz) ?_
    refine Run.op rfl rfl rfl (q_callV hg rfl rfl (hq _ (List.getElem_mem hjl))) ?_
    refine Run.nil ?_
    refine Run.nT ?_
    refine Run.cond rfl (fun hb => ?_) (fun hb => ?_)
    · have hq1 : q l[j] = true := hb
      refine Run.seq ?_
      refine Run.region ?_
      refine Run.op rfl rfl rfl (y_move rfl) ?_
      refine Run.op rfl rfl rfl (y_assign rfl) ?_
      refine Run.nil ?_
      refine Run.nT ?_
      refine Run.ret ?_
      refine Run.rB ?_
      refine Run.rT ?_
      refine Run.rT ?_
      refine Run.rB ?_
      refine Run.rT ?_
      refine Run.fin1 rfl rfl rfl (.tmp rfl) (fun _ _ h => ?_)
      rw [fix_found (get_some hjl) hq1 hI]
      exact h
    · have hq0 : q l[j] = false := hb
      refine Run.skip ?_
      refine Run.nB ?_
      refine Run.nT ?_
      refine Run.region ?_
      refine Run.op rfl rfl rfl (y_add rfl rfl (by first | exact wI_in (by omega) | rfl)) ?_
      refine Run.op rfl rfl rfl (y_move rfl) ?_
      refine Run.nil ?_
      refine Run.nT ?_
      refine Run.round (j + 1) ?_ ?_ ?_ ?_
      · refine ⟨by omega, fun i y hi hy => ?_⟩
        by_cases e : i = j
        · subst e; rw [get_some hjl] at hy; cases hy; exact hq0
        · exact hI i y (by omega) hy
      · show l.length - (j + 1) < l.length - j; omega
      · rfl
      · exact (Incl.int (t := 8) rfl (by omega) (Incl.same (t := 0) rfl (Incl.same (t := 1) rfl (Incl.same (t := 7) rfl Incl.nil))))
  · obtain rfl : j = l.length := by have := of_decide_eq_false hb; omega
    refine Run.exit ?_
    refine Run.eT ?_
    refine Run.eT ?_
    refine Run.eB ?_
    refine Run.nT ?_
    refine Run.seq ?_
    refine Run.region ?_
    refine Run.op rfl rfl rfl (y_assign rfl) ?_
    refine Run.nil ?_
    refine Run.nT ?_
    refine Run.ret ?_
    refine Run.fin1 rfl rfl rfl (.tmp rfl) (fun _ _ h => ?_)
    rw [fix_none hI]
    exact h

theorem hasV_fn (q : Var → Bool) (g : FuncId) (Cs : List Spec) (hg : Enters s.env.P g) (l : List (Var)) (hq : ∀ x, x ∈ l → Fn s.env g (sagg (Kv x) :: Cs) (sbool (q x))) (hl : l.length ≤ 1048576) : Fn s.env 130 [slc Kv l, sfun g Cs] (sbool (l.any q)) := by
  refine Fn.of Tryd.func130 rfl Tryd.ntmps130 rfl ?_
  intro w0 F0
  refine Run.seq ?_
  refine Run.region ?_
  refine Run.op rfl rfl rfl (y_assign rfl) ?_
  refine Run.nil ?_
  refine Run.nT ?_
  refine Run.seq ?_
  refine Run.region ?_
  refine Run.op rfl rfl rfl (y_move rfl) ?_
  refine Run.op rfl rfl rfl (y_move rfl) ?_
  refine Run.op rfl rfl rfl (q_call en165 rfl (idxV_fn s q g Cs hg l hq hl)) ?_
  refine Run.op rfl rfl rfl (y_geq rfl rfl) ?_
  refine Run.op rfl rfl rfl (y_assign rfl) ?_
  refine Run.nil ?_
  refine Run.nT ?_
  refine Run.ret ?_
  refine Run.fin1 rfl rfl rfl (.tmp rfl) (fun _ _ h => ?_)
  rw [← (fix_ge q l).2]
  exact h

theorem idx_fn (v : Int) (l : List Int) (hl : l.length ≤ 1048576) : Fn s.env 169 [slc Ku l, u64 v] (i64 (fix (fun y => decide (v = y)) l)) := by
  refine Fn.of Tryd.func169 rfl Tryd.ntmps169 rfl ?_
  intro w0 F0
  refine Run.seq ?_
  refine Run.region ?_
  refine Run.op rfl rfl rfl (y_assign rfl) ?_
  refine Run.nil ?_
  refine Run.nT ?_
  refine Run.seq ?_
  refine Run.seq ?_
  refine Run.region ?_
  refine Run.op rfl rfl rfl (y_move rfl) ?_
  refine Run.op rfl rfl rfl (y_lenS rfl Tryd.underlying29) ?_
  refine Run.op rfl rfl rfl (y_move rfl) ?_
  refine Run.nil ?_
  refine Run.nT ?_
  refine Run.block ?_
  refine Run.loopK (ι := Nat) (fun j => j ≤ l.length ∧ ∀ i y, i < j → l[i]? = some y → decide (v = y) = false) (fun j => l.length - j) (fun j => []) [0, 1, 7] (fun j => [(8, i64 j)]) 0 ⟨by omega, fun i y hi => by omega⟩ rfl (Incl.same (t := 8) rfl (Incl.pick [0, 1, 7])) ?_
  rintro j ⟨hj, hI⟩
  refine Run.seq ?_
  refine Run.region ?_
  refine Run.op rfl rfl rfl (y_lss rfl rfl) ?_
  refine Run.nil ?_
  refine Run.nT ?_
  refine Run.seq ?_
  refine Run.cond rfl (fun hb => ?_) (fun hb => ?_)
  · have hjl : j < l.length := by have := of_decide_eq_true hb; omega
    refine Run.skip ?_
    refine Run.nT ?_
    refine Run.seq ?_
    refine Run.block ?_
    refine Run.seq ?_
    refine Run.region ?_
    refine Run.op rfl rfl rfl (y_move rfl) ?_
    refine Run.op rfl rfl rfl (y_assign rfl) ?_
    refine Run.nil ?_
    refine Run.nT ?_
    refine Run.seq ?_
    refine Run.region ?_
    refine Run.op rfl rfl rfl (y_move rfl) ?_
    refine Run.op rfl rfl rfl (y_move rfl) ?_
    refine Run.op rfl rfl rfl (y_move rfl) ?_
    refine Run.op rfl rfl rfl (q_index j l[j] rfl rfl Tryd.underlying29 ti33 (fun _ => rfl) (rfl) (get_some hjl)) ?_
    refine Run.op rfl rfl rfl (y_load rfl Tryd.underlying33 rfl) ?_
    refine Run.op rfl rfl rfl (y_eql rfl rfl) ?_
    refine Run.nil ?_
    refine Run.nT ?_
    refine Run.cond rfl (fun hb => ?_) (fun hb => ?_)
    · have hq1 : decide (v = l[j]) = true := hb
      refine Run.seq ?_
      refine Run.region ?_
      refine Run.op rfl rfl rfl (y_move rfl) ?_
      refine Run.op rfl rfl rfl (y_assign rfl) ?_
      refine Run.nil ?_
      refine Run.nT ?_
      refine Run.ret ?_
      refine Run.rB ?_
      refine Run.rT ?_
      refine Run.rT ?_
      refine Run.rB ?_
      refine Run.rT ?_
      refine Run.fin1 rfl rfl rfl (.tmp rfl) (fun _ _ h => ?_)
      rw [fix_found (q := fun y => decide (v = y)) (get_some hjl) hq1 hI]
      exact h
    · have hq0 : decide (v = l[j]) = false := hb
      refine Run.skip ?_
      refine Run.nB ?_
      refine Run.nT ?_
      refine Run.region ?_
      refine Run.op rfl rfl rfl (y_add rfl rfl (by first | exact wI_in (by omega) | rfl)) ?_
      refine Run.op rfl rfl rfl (y_move rfl) ?_
      refine Run.nil ?_
      refine Run.nT ?_
      refine Run.round (j + 1) ?_ ?_ ?_ ?_
      · refine ⟨by omega, fun i y hi hy => ?_⟩
        by_cases e : i = j
        · subst e; rw [get_some hjl] at hy; cases hy; exact hq0
        · exact hI i y (by omega) hy
      · show l.length - (j + 1) < l.length - j; omega
      · rfl
      · exact (Incl.int (t := 8) rfl (by omega) (Incl.same (t := 0) rfl (Incl.same (t := 1) rfl (Incl.same (t := 7) rfl Incl.nil))))
  · obtain rfl : j = l.length := by have := of_decide_eq_false hb; omega
    refine Run.exit ?_
    refine Run.eT ?_
    refine Run.eT ?_
    refine Run.eB ?_
    refine Run.nT ?_
    refine Run.seq ?_
    refine Run.region ?_
    refine Run.op rfl rfl rfl (y_assign rfl) ?_
    refine Run.nil ?_
    refine Run.nT ?_
    refine Run.ret ?_
    refine Run.fin1 rfl rfl rfl (.tmp rfl) (fun _ _ h => ?_)
    rw [fix_none (q := fun y => decide (v = y)) hI]
    exact h

theorem idxK_fn (v : Int) (l : List Int) (hl : l.length ≤ 1048576) : Fn s.env 179 [slc Kk8 l, u8 v] (i64 (fix (fun y => decide (v = y)) l)) := by
  refine Fn.of Tryd.func179 rfl Tryd.ntmps179 rfl ?_
  intro w0 F0
  refine Run.seq ?_
  refine Run.region ?_
  refine Run.op rfl rfl rfl (y_assign rfl) ?_
  refine Run.nil ?_
  refine Run.nT ?_
  refine Run.seq ?_
  refine Run.seq ?_
  refine Run.region ?_
  refine Run.op rfl rfl rfl (y_move rfl) ?_
  refine Run.op rfl rfl rfl (y_lenS rfl Tryd.underlying239) ?_
  refine Run.op rfl rfl rfl (y_move rfl) ?_
  refine Run.nil ?_
  refine Run.nT ?_
  refine Run.block ?_
  refine Run.loopK (ι := Nat) (fun j => j ≤ l.length ∧ ∀ i y, i < j → l[i]? = some y → decide (v = y) = false) (fun j => l.length - j) (fun j => []) [0, 1, 7] (fun j => [(8, i64 j)]) 0 ⟨by omega, fun i y hi => by omega⟩ rfl (Incl.same (t := 8) rfl (Incl.pick [0, 1, 7])) ?_
  rintro j ⟨hj, hI⟩
  refine Run.seq ?_
  refine Run.region ?_
  refine Run.op rfl rfl rfl (y_lss rfl rfl) ?_
  refine Run.nil ?_
  refine Run.nT ?_
  refine Run.seq ?_
  refine Run.cond rfl (fun hb => ?_) (fun hb => ?_)
  · have hjl : j < l.length := by have := of_decide_eq_true hb; omega
    refine Run.skip ?_
    refine Run.nT ?_
    refine Run.seq ?_
    refine Run.block ?_
    refine Run.seq ?_
    refine Run.region ?_
    refine Run.op rfl rfl rfl (y_move rfl) ?_
    refine Run.op rfl rfl rfl (y_assign rfl) ?_
    refine Run.nil ?_
    refine Run.nT ?_
    refine Run.seq ?_
    refine Run.region ?_
    refine Run.op rfl rfl rfl (y_move rfl) ?_
    refine Run.op rfl rfl rfl (y_move rfl) ?_
    refine Run.op rfl rfl rfl (y_move rfl) ?_
    refine Run.op rfl rfl rfl (q_index j l[j] rfl rfl Tryd.underlying239 ti126 (fun _ => rfl) (rfl) (get_some hjl)) ?_
    refine Run.op rfl rfl rfl (y_load rfl Tryd.underlying126 rfl) ?_
    refine Run.op rfl rfl rfl (y_eql rfl rfl) ?_
    refine Run.nil ?_
    refine Run.nT ?_
    refine Run.cond rfl (fun hb => ?_) (fun hb => ?_)
    · have hq1 : decide (v = l[j]) = true := hb
      refine Run.seq ?_
      refine Run.region ?_
      refine Run.op rfl rfl rfl (y_move rfl) ?_
      refine Run.op rfl rfl rfl (y_assign rfl) ?_
      refine Run.nil ?_
      refine Run.nT ?_
      refine Run.ret ?_
      refine Run.rB ?_
      refine Run.rT ?_
      refine Run.rT ?_
      refine Run.rB ?_
      refine Run.rT ?_
      refine Run.fin1 rfl rfl rfl (.tmp rfl) (fun _ _ h => ?_)
      rw [fix_found (q := fun y => decide (v = y)) (get_some hjl) hq1 hI]
      exact h
    · have hq0 : decide (v = l[j]) = false := hb
      refine Run.skip ?_
      refine Run.nB ?_
      refine Run.nT ?_
      refine Run.region ?_
      refine Run.op rfl rfl rfl (y_add rfl rfl (by first | exact wI_in (by omega) | rfl)) ?_
      refine Run.op rfl rfl rfl (y_move rfl) ?_
      refine Run.nil ?_
      refine Run.nT ?_
      refine Run.round (j + 1) ?_ ?_ ?_ ?_
      · refine ⟨by omega, fun i y hi hy => ?_⟩
        by_cases e : i = j
        · subst e; rw [get_some hjl] at hy; cases hy; exact hq0
        · exact hI i y (by omega) hy
      · show l.length - (j + 1) < l.length - j; omega
      · rfl
      · exact (Incl.int (t := 8) rfl (by omega) (Incl.same (t := 0) rfl (Incl.same (t := 1) rfl (Incl.same (t := 7) rfl Incl.nil))))
  · obtain rfl : j = l.length := by have := of_decide_eq_false hb; omega
    refine Run.exit ?_
    refine Run.eT ?_
    refine Run.eT ?_
    refine Run.eB ?_
    refine Run.nT ?_
    refine Run.seq ?_
    refine Run.region ?_
    refine Run.op rfl rfl rfl (y_assign rfl) ?_
    refine Run.nil ?_
    refine Run.nT ?_
    refine Run.ret ?_
    refine Run.fin1 rfl rfl rfl (.tmp rfl) (fun _ _ h => ?_)
    rw [fix_none (q := fun y => decide (v = y)) hI]
    exact h

theorem has_fn (v : Int) (l : List Int) (hl : l.length ≤ 1048576) : Fn s.env 135 [slc Ku l, u64 v] (sbool (l.any fun y => decide (v = y))) := by
  refine Fn.of Tryd.func135 rfl Tryd.ntmps135 rfl ?_
  intro w0 F0
  refine Run.seq ?_
  refine Run.region ?_
  refine Run.op rfl rfl rfl (y_assign rfl) ?_
  refine Run.nil ?_
  refine Run.nT ?_
  refine Run.seq ?_
  refine Run.region ?_
  refine Run.op rfl rfl rfl (y_move rfl) ?_
  refine Run.op rfl rfl rfl (y_move rfl) ?_
  refine Run.op rfl rfl rfl (q_call en169 rfl (idx_fn s v l hl)) ?_
  refine Run.op rfl rfl rfl (y_geq rfl rfl) ?_
  refine Run.op rfl rfl rfl (y_assign rfl) ?_
  refine Run.nil ?_
  refine Run.nT ?_
  refine Run.ret ?_
  refine Run.fin1 rfl rfl rfl (.tmp rfl) (fun _ _ h => ?_)
  rw [← (fix_ge (fun y => decide (v = y)) l).2]
  exact h

theorem hasK_fn (v : Int) (l : List Int) (hl : l.length ≤ 1048576) : Fn s.env 168 [slc Kk8 l, u8 v] (sbool (l.any fun y => decide (v = y))) := by
  refine Fn.of Tryd.func168 rfl Tryd.ntmps168 rfl ?_
  intro w0 F0
  refine Run.seq ?_
  refine Run.region ?_
  refine Run.op rfl rfl rfl (y_assign rfl) ?_
  refine Run.nil ?_
  refine Run.nT ?_
  refine Run.seq ?_
  refine Run.region ?_
  refine Run.op rfl rfl rfl (y_move rfl) ?_
  refine Run.op rfl rfl rfl (y_move rfl) ?_
  refine Run.op rfl rfl rfl (q_call en179 rfl (idxK_fn s v l hl)) ?_
  refine Run.op rfl rfl rfl (y_geq rfl rfl) ?_
  refine Run.op rfl rfl rfl (y_assign rfl) ?_
  refine Run.nil ?_
  refine Run.nT ?_
  refine Run.ret ?_
  refine Run.fin1 rfl rfl rfl (.tmp rfl) (fun _ _ h => ?_)
  rw [← (fix_ge (fun y => decide (v = y)) l).2]
  exact h

theorem between_fn (n a b : Int) : Fn s.env 72 [i64 n, i64 a, i64 b] (sbool (decide (n ≥ a) && decide (n ≤ b))) := by
  refine Fn.of Tryd.func72 rfl Tryd.ntmps72 rfl ?_
  intro w0 F0
  refine Run.seq ?_
  refine Run.region ?_
  refine Run.op rfl rfl rfl (y_assign rfl) ?_
  refine Run.nil ?_
  refine Run.nT ?_
  refine Run.seq ?_
  refine Run.region ?_
  refine Run.op rfl rfl rfl (y_move rfl) ?_
  refine Run.op rfl rfl rfl (y_move rfl) ?_
  refine Run.op rfl rfl rfl (y_geq rfl rfl) ?_
  refine Run.op rfl rfl rfl (y_move rfl) ?_
  refine Run.opC rfl rfl rfl rfl rfl (fun hg => Yields.incl (Incl.same (t := 0) rfl Incl.nil) (y_move rfl)) ?_
  refine Run.opC rfl rfl rfl rfl rfl (fun hg => Yields.incl (Incl.same (t := 2) rfl Incl.nil) (y_move rfl)) ?_
  refine Run.opC rfl rfl rfl rfl rfl (fun hg => Yields.incl (Incl.cond (t := 11) rfl hg (Incl.cond (t := 12) rfl hg Incl.nil)) (y_leq rfl rfl)) ?_
  refine Run.op rfl rfl rfl (y_pickAnd rfl rfl) ?_
  refine Run.op rfl rfl rfl (y_assign rfl) ?_
  refine Run.nil ?_
  refine Run.nT ?_
  refine Run.ret ?_
  exact Run.fin1 rfl rfl rfl (.tmp rfl) (fun _ _ h => h)

theorem el1_fn (p x : Int) : Fn s.env 164 [u64 x, spts [u64 p]] (sbool (decide (x ≥ p))) := by
  refine Fn.of Tryd.func164 rfl Tryd.ntmps164 rfl ?_
  intro w0 F0
  refine Run.seq ?_
  refine Run.region ?_
  refine Run.op rfl rfl rfl (y_assign rfl) ?_
  refine Run.nil ?_
  refine Run.nT ?_
  refine Run.seq ?_
  refine Run.region ?_
  refine Run.op rfl rfl rfl (y_move rfl) ?_
  refine Run.op rfl rfl rfl (y_load rfl Tryd.underlying33 rfl) ?_
  refine Run.op rfl rfl rfl (y_geq rfl rfl) ?_
  refine Run.op rfl rfl rfl (y_assign rfl) ?_
  refine Run.nil ?_
  refine Run.nT ?_
  refine Run.ret ?_
  exact Run.fin1 rfl rfl rfl (.tmp rfl) (fun _ _ h => h)

section
variable [hF : HasF s]

theorem elements_fn (f : Int) (l : List Int) (hl : l.length ≤ 1048576) (h : ∀ x ∈ l, x < fP f) : Fn s.env 126 [i64 f, slc Ku l] (sbool true) := by
  refine Fn.of Tryd.func126 rfl Tryd.ntmps126 rfl ?_
  intro w0 F0
  refine Run.seq ?_
  refine Run.region ?_
  refine Run.op rfl rfl rfl (y_assign rfl) ?_
  refine Run.nil ?_
  refine Run.nT ?_
  refine Run.seq ?_
  refine Run.region ?_
  refine Run.op rfl rfl rfl (y_move rfl) ?_
  refine Run.op rfl rfl rfl (q_call en109 rfl (P_fn s _)) ?_
  refine q_alloc ti33 rfl rfl ?_
  intro b5
  refine q_store1 5 rfl rfl rfl ti33 (Nat.le_of_ble_eq_true rfl) ?_
  refine Run.freezeB 5 5 rfl rfl ?_
  refine Run.nil ?_
  refine Run.nT ?_
  refine Run.seq ?_
  refine Run.region ?_
  refine Run.op rfl rfl rfl (y_move rfl) ?_
  refine Run.op rfl rfl rfl (q_makeFunc rfl) ?_
  refine Run.op rfl rfl rfl (Yields.bool (c := false) (q_call en163 rfl (hasU_fn s (fun x => decide (x ≥ fP f)) 164 [spts [u64 (fP f)]] en164 l (fun x _ => el1_fn s _ x) hl)) (by rw [List.any_eq_false]; intro x hx; have := h x hx; simp; omega)) ?_
  refine Run.op rfl rfl rfl (y_not rfl) ?_
  refine Run.op rfl rfl rfl (y_assign rfl) ?_
  refine Run.nil ?_
  refine Run.nT ?_
  refine Run.ret ?_
  exact Run.fin1 rfl rfl rfl (.tmp rfl) (fun _ _ h => h)

theorem col1_fn (f : Int) (n : Nat) (hn : n ≤ 1048576) (c : List Int) (hc : c.length = n) (h : ∀ x ∈ c, x < fP f) : Fn s.env 125 [slc Ku c, spts [i64 n], spts [i64 f]] (sbool false) := by
  refine Fn.of Tryd.func125 rfl Tryd.ntmps125 rfl ?_
  intro w0 F0
  refine Run.seq ?_
  refine Run.region ?_
  refine Run.op rfl rfl rfl (y_assign rfl) ?_
  refine Run.nil ?_
  refine Run.nT ?_
  refine Run.seq ?_
  refine Run.region ?_
  refine Run.op rfl rfl rfl (y_move rfl) ?_
  refine Run.op rfl rfl rfl (y_lenS rfl Tryd.underlying29) ?_
  refine Run.op rfl rfl rfl (y_load rfl Tryd.underlying3 rfl) ?_
  refine Run.op rfl rfl rfl (Yields.bool (c := false) (y_neq rfl rfl) (by rw [hc]; simp)) ?_
  refine Run.op rfl rfl rfl (y_move rfl) ?_
  refine Run.opG rfl rfl rfl rfl rfl (y_load rfl Tryd.underlying3 rfl) ?_
  refine Run.opG rfl rfl rfl rfl rfl (y_move rfl) ?_
  refine Run.opG rfl rfl rfl rfl rfl (q_call en126 rfl (elements_fn s f c (by omega) h)) ?_
  refine Run.opG rfl rfl rfl rfl rfl (y_not rfl) ?_
  refine Run.op rfl rfl rfl (y_pickF rfl rfl) ?_
  refine Run.op rfl rfl rfl (y_assign rfl) ?_
  refine Run.nil ?_
  refine Run.nT ?_
  refine Run.ret ?_
  exact Run.fin1 rfl rfl rfl (.tmp rfl) (fun _ _ h => h)

theorem columns_fn (f : Int) (n : Nat) (hn : n ≤ 1048576) (l : List (List Int)) (hl : l.length ≤ 1048576) (h : ∀ c ∈ l, c.length = n ∧ ∀ x ∈ c, x < fP f) : Fn s.env 74 [i64 f, i64 n, slc Kc l] (sbool true) := by
  refine Fn.of Tryd.func74 rfl Tryd.ntmps74 rfl ?_
  intro w0 F0
  refine Run.seq ?_
  refine Run.region ?_
  refine q_box rfl rfl ?_
  intro b3
  refine Run.freezeB 3 3 rfl rfl ?_
  refine q_box rfl rfl ?_
  intro b4
  refine Run.freezeB 4 4 rfl rfl ?_
  refine Run.op rfl rfl rfl (y_assign rfl) ?_
  refine Run.nil ?_
  refine Run.nT ?_
  refine Run.seq ?_
  refine Run.region ?_
  refine Run.op rfl rfl rfl (y_move rfl) ?_
  refine Run.op rfl rfl rfl (q_makeFunc rfl) ?_
  refine Run.op rfl rfl rfl (Yields.bool (c := false) (q_call en124 rfl (hasC_fn s (fun _ => false) 125 [spts [i64 n], spts [i64 f]] en125 l (fun c hc => col1_fn s f n hn c (h c hc).1 (h c hc).2) hl)) (by simp)) ?_
  refine Run.op rfl rfl rfl (y_not rfl) ?_
  refine Run.op rfl rfl rfl (y_assign rfl) ?_
  refine Run.nil ?_
  refine Run.nT ?_
  refine Run.ret ?_
  exact Run.fin1 rfl rfl rfl (.tmp rfl) (fun _ _ h => h)

end

theorem knows1_fn (k : Int) (t : List Int) (j : Int) : Fn s.env 129 [sagg (Ksys k t), sagg (Kv (1, j))] (sbool (decide (j ≥ 0) && decide (j < 6))) := by
  refine Fn.of Tryd.func129 rfl Tryd.ntmps129 rfl ?_
  intro w0 F0
  refine Run.seq ?_
  refine Run.region ?_
  refine Run.boxA rfl rfl ?_
  intro b2
  refine Run.freezeB 2 2 rfl rfl ?_
  refine Run.boxA rfl rfl ?_
  intro b3
  refine Run.freezeB 3 3 rfl rfl ?_
  refine Run.op rfl rfl rfl (y_assign rfl) ?_
  refine Run.nil ?_
  refine Run.nT ?_
  refine Run.seq ?_
  refine Run.region ?_
  refine Run.op rfl rfl rfl (y_assign rfl) ?_
  refine Run.nil ?_
  refine Run.nT ?_
  refine Run.seq ?_
  refine Run.seq ?_
  refine Run.region ?_
  refine Run.op rfl rfl rfl (y_field rfl Tryd.underlying128 rfl ti126.siz rfl) ?_
  refine Run.op rfl rfl rfl (y_load rfl Tryd.underlying126 rfl) ?_
  refine Run.nil ?_
  refine Run.nT ?_
  refine Run.block ?_
  refine Run.seq ?_
  refine Run.seq ?_
  refine Run.region ?_
  refine Run.op rfl rfl rfl (Yields.bool (c := true) (y_eql rfl rfl) (rfl)) ?_
  refine Run.op rfl rfl rfl (y_assign rfl) ?_
  refine Run.nil ?_
  refine Run.nT ?_
  refine Run.cond1 rfl ?_
  refine Run.skip ?_
  refine Run.nT ?_
  refine Run.cond1 rfl ?_
  refine Run.region ?_
  refine Run.op rfl rfl rfl (y_field rfl Tryd.underlying66 rfl ti3.siz rfl) ?_
  refine Run.op rfl rfl rfl (y_load rfl Tryd.underlying3 rfl) ?_
  refine Run.op rfl rfl rfl (y_assign rfl) ?_
  refine Run.nil ?_
  refine Run.nB ?_
  refine Run.nT ?_
  refine Run.seq ?_
  refine Run.region ?_
  refine Run.op rfl rfl rfl (y_field rfl Tryd.underlying128 rfl ti3.siz rfl) ?_
  refine Run.op rfl rfl rfl (y_load rfl Tryd.underlying3 rfl) ?_
  refine Run.op rfl rfl rfl (y_geq rfl rfl) ?_
  refine Run.op rfl rfl rfl (y_move rfl) ?_
  refine Run.opC rfl rfl rfl rfl rfl (fun hg => Yields.incl (Incl.same (t := 3) rfl Incl.nil) (y_field rfl Tryd.underlying128 rfl ti3.siz rfl)) ?_
  refine Run.opC rfl rfl rfl rfl rfl (fun hg => Yields.incl (Incl.cond (t := 26) rfl hg Incl.nil) (y_load rfl Tryd.underlying3 rfl)) ?_
  refine Run.opC rfl rfl rfl rfl rfl (fun hg => Yields.incl (Incl.same (t := 5) rfl Incl.nil) (y_move rfl)) ?_
  refine Run.opC rfl rfl rfl rfl rfl (fun hg => Yields.incl (Incl.cond (t := 27) rfl hg (Incl.cond (t := 28) rfl hg Incl.nil)) (y_lss rfl rfl)) ?_
  refine Run.op rfl rfl rfl (y_pickAnd rfl rfl) ?_
  refine Run.op rfl rfl rfl (y_assign rfl) ?_
  refine Run.nil ?_
  refine Run.nT ?_
  refine Run.ret ?_
  exact Run.fin1 rfl rfl rfl (.tmp rfl) (fun _ _ h => h)

theorem knows3_fn (k : Int) (t : List Int) (j : Int) : Fn s.env 129 [sagg (Ksys k t), sagg (Kv (3, j))] (sbool (decide (j ≥ 0) && decide (j < 1))) := by
  refine Fn.of Tryd.func129 rfl Tryd.ntmps129 rfl ?_
  intro w0 F0
  refine Run.seq ?_
  refine Run.region ?_
  refine Run.boxA rfl rfl ?_
  intro b2
  refine Run.freezeB 2 2 rfl rfl ?_
  refine Run.boxA rfl rfl ?_
  intro b3
  refine Run.freezeB 3 3 rfl rfl ?_
  refine Run.op rfl rfl rfl (y_assign rfl) ?_
  refine Run.nil ?_
  refine Run.nT ?_
  refine Run.seq ?_
  refine Run.region ?_
  refine Run.op rfl rfl rfl (y_assign rfl) ?_
  refine Run.nil ?_
  refine Run.nT ?_
  refine Run.seq ?_
  refine Run.seq ?_
  refine Run.region ?_
  refine Run.op rfl rfl rfl (y_field rfl Tryd.underlying128 rfl ti126.siz rfl) ?_
  refine Run.op rfl rfl rfl (y_load rfl Tryd.underlying126 rfl) ?_
  refine Run.nil ?_
  refine Run.nT ?_
  refine Run.block ?_
  refine Run.seq ?_
  refine Run.seq ?_
  refine Run.region ?_
  refine Run.op rfl rfl rfl (Yields.bool (c := false) (y_eql rfl rfl) (rfl)) ?_
  refine Run.op rfl rfl rfl (y_assign rfl) ?_
  refine Run.nil ?_
  refine Run.nT ?_
  refine Run.cond0 rfl ?_
  refine Run.region ?_
  refine Run.op rfl rfl rfl (Yields.bool (c := false) (y_eql rfl rfl) (rfl)) ?_
  refine Run.op rfl rfl rfl (y_assign rfl) ?_
  refine Run.nil ?_
  refine Run.nT ?_
  refine Run.cond0 rfl ?_
  refine Run.seq ?_
  refine Run.region ?_
  refine Run.op rfl rfl rfl (Yields.bool (c := true) (y_eql rfl rfl) (rfl)) ?_
  refine Run.op rfl rfl rfl (y_assign rfl) ?_
  refine Run.nil ?_
  refine Run.nT ?_
  refine Run.cond1 rfl ?_
  refine Run.region ?_
  refine Run.op rfl rfl rfl (y_field rfl Tryd.underlying66 rfl ti61.siz rfl) ?_
  refine Run.op rfl rfl rfl (y_load rfl Tryd.underlying61 rfl) ?_
  refine Run.op rfl rfl rfl (y_lenS rfl Tryd.underlying61) ?_
  refine Run.op rfl rfl rfl (y_assign rfl) ?_
  refine Run.nil ?_
  refine Run.nB ?_
  refine Run.nT ?_
  refine Run.seq ?_
  refine Run.region ?_
  refine Run.op rfl rfl rfl (y_field rfl Tryd.underlying128 rfl ti3.siz rfl) ?_
  refine Run.op rfl rfl rfl (y_load rfl Tryd.underlying3 rfl) ?_
  refine Run.op rfl rfl rfl (y_geq rfl rfl) ?_
  refine Run.op rfl rfl rfl (y_move rfl) ?_
  refine Run.opC rfl rfl rfl rfl rfl (fun hg => Yields.incl (Incl.same (t := 3) rfl Incl.nil) (y_field rfl Tryd.underlying128 rfl ti3.siz rfl)) ?_
  refine Run.opC rfl rfl rfl rfl rfl (fun hg => Yields.incl (Incl.cond (t := 26) rfl hg Incl.nil) (y_load rfl Tryd.underlying3 rfl)) ?_
  refine Run.opC rfl rfl rfl rfl rfl (fun hg => Yields.incl (Incl.same (t := 5) rfl Incl.nil) (y_move rfl)) ?_
  refine Run.opC rfl rfl rfl rfl rfl (fun hg => Yields.incl (Incl.cond (t := 27) rfl hg (Incl.cond (t := 28) rfl hg Incl.nil)) (y_lss rfl rfl)) ?_
  refine Run.op rfl rfl rfl (y_pickAnd rfl rfl) ?_
  refine Run.op rfl rfl rfl (y_assign rfl) ?_
  refine Run.nil ?_
  refine Run.nT ?_
  refine Run.ret ?_
  exact Run.fin1 rfl rfl rfl (.tmp rfl) (fun _ _ h => h)

def vok (v : Var) : Prop := (v.1 = 1 ∧ 0 ≤ v.2 ∧ v.2 < 6) ∨ (v.1 = 3 ∧ v.2 = 0)
theorem knows_fn (k : Int) (t : List Int) (v : Var) (hv : vok v) : Fn s.env 129 [sagg (Ksys k t), sagg (Kv v)] (sbool true) := by
  obtain ⟨a, j⟩ := v
  rcases hv with ⟨h1, h2, h3⟩ | ⟨h1, h2⟩
  · simp only at h1 h2 h3
    subst h1
    have := knows1_fn s k t j
    rwa [show (decide (j ≥ 0) && decide (j < 6)) = true by simp; omega] at this
  · simp only at h1 h2
    subst h1 h2
    exact knows3_fn s k t 0

theorem tup1_fn (k : Int) (t : List Int) (ks : List Int) (hks : ks.length ≤ 1048576) (v : Var) (hv : vok v) (hk : v.1 ∈ ks) : Fn s.env 167 [sagg (Kv v), spts (Ksys k t), spts [slc Kk8 ks]] (sbool false) := by
  refine Fn.of Tryd.func167 rfl Tryd.ntmps167 rfl ?_
  intro w0 F0
  refine Run.seq ?_
  refine Run.region ?_
  refine Run.boxA rfl rfl ?_
  intro b3
  refine Run.freezeB 3 3 rfl rfl ?_
  refine Run.op rfl rfl rfl (y_assign rfl) ?_
  refine Run.nil ?_
  refine Run.nT ?_
  refine Run.seq ?_
  refine Run.region ?_
  refine Run.op rfl rfl rfl (y_loadW rfl Tryd.underlying66 rfl ti66.siz) ?_
  refine Run.op rfl rfl rfl (y_loadW rfl Tryd.underlying128 rfl ti128.siz) ?_
  refine Run.op rfl rfl rfl (q_call en129 rfl (knows_fn s k t v hv)) ?_
  refine Run.op rfl rfl rfl (y_not rfl) ?_
  refine Run.op rfl rfl rfl (y_move rfl) ?_
  refine Run.opC rfl rfl rfl rfl rfl (fun hg => Yields.incl (Incl.same (t := 2) rfl Incl.nil) (y_load rfl Tryd.underlying239 rfl)) ?_
  refine Run.opC rfl rfl rfl rfl rfl (fun hg => Yields.incl (Incl.same (t := 3) rfl Incl.nil) (y_field rfl Tryd.underlying128 rfl ti126.siz rfl)) ?_
  refine Run.opC rfl rfl rfl rfl rfl (fun hg => Yields.incl (Incl.cond (t := 11) rfl hg Incl.nil) (y_load rfl Tryd.underlying126 rfl)) ?_
  refine Run.opC rfl rfl rfl rfl rfl (fun hg => Yields.incl (Incl.cond (t := 10) rfl hg (Incl.cond (t := 12) rfl hg Incl.nil)) (Yields.bool (c := true) (q_call en168 rfl (hasK_fn s v.1 ks hks)) (by rw [List.any_eq_true]; exact ⟨_, hk, by simp⟩))) ?_
  refine Run.opC rfl rfl rfl rfl rfl (fun hg => Yields.incl (Incl.cond (t := 13) rfl hg Incl.nil) (y_not rfl)) ?_
  refine Run.op rfl rfl rfl (y_pickOr rfl rfl) ?_
  refine Run.op rfl rfl rfl (y_assign rfl) ?_
  refine Run.nil ?_
  refine Run.nT ?_
  refine Run.ret ?_
  exact Run.fin1 rfl rfl rfl (.tmp rfl) (fun _ _ h => h)

theorem tupled_fn (k : Int) (t : List Int) (l : List Var) (n : Nat) (hn : l.length = n) (hl : n ≤ 1048576) (ks : List Int) (hks : ks.length ≤ 1048576) (hv : ∀ v ∈ l, vok v ∧ v.1 ∈ ks) : Fn s.env 132 [sagg (Ksys k t), slc Kv l, i64 n, slc Kk8 ks] (sbool true) := by
  refine Fn.of Tryd.func132 rfl Tryd.ntmps132 rfl ?_
  intro w0 F0
  refine Run.seq ?_
  refine Run.region ?_
  refine Run.boxA rfl rfl ?_
  intro b4
  refine Run.freezeB 4 4 rfl rfl ?_
  refine q_box rfl rfl ?_
  intro b7
  refine Run.freezeB 7 7 rfl rfl ?_
  refine Run.op rfl rfl rfl (y_assign rfl) ?_
  refine Run.nil ?_
  refine Run.nT ?_
  refine Run.seq ?_
  refine Run.region ?_
  refine Run.op rfl rfl rfl (y_move rfl) ?_
  refine Run.op rfl rfl rfl (y_lenS rfl Tryd.underlying130) ?_
  refine Run.op rfl rfl rfl (y_move rfl) ?_
  refine Run.op rfl rfl rfl (Yields.bool (c := true) (y_eql rfl rfl) (by rw [hn]; simp)) ?_
  refine Run.op rfl rfl rfl (y_move rfl) ?_
  refine Run.opG rfl rfl rfl rfl rfl (y_move rfl) ?_
  refine Run.opG rfl rfl rfl rfl rfl (q_makeFunc rfl) ?_
  refine Run.opG rfl rfl rfl rfl rfl (Yields.bool (c := false) (q_call en130 rfl (hasV_fn s (fun _ => false) 167 [spts (Ksys k t), spts [slc Kk8 ks]] en167 l (fun v hv' => tup1_fn s k t ks hks v (hv v hv').1 (hv v hv').2) (by omega))) (by simp)) ?_
  refine Run.opG rfl rfl rfl rfl rfl (y_not rfl) ?_
  refine Run.op rfl rfl rfl (y_pickT rfl rfl) ?_
  refine Run.op rfl rfl rfl (y_assign rfl) ?_
  refine Run.nil ?_
  refine Run.nT ?_
  refine Run.ret ?_
  exact Run.fin1 rfl rfl rfl (.tmp rfl) (fun _ _ h => h)

end Go.Vx
