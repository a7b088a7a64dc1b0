/- Walks of the program's functions: the trees. Conditions: as each says. Printed by a program of our own (wip/tools/gen.py). -/
import Derived.Test.YtofnjbcbkfbomaaDoorVr
namespace Go.Vx
open Go Go.RowKit Go.Proofs
set_option maxRecDepth 100000
attribute [local irreducible] nd
variable (s : Seat)

theorem rising_fn (f : Int) (l : Lv) (top : Int) : Fn s.env 60 [i64 f, slc Kd l, i64 top] (sfun 112 [spts [slc Kd l], spts [i64 top], spts [i64 f]]) := by
  refine Fn.of Tryd.func60 rfl Tryd.ntmps60 rfl ?_
  intro w0 F0
  refine Run.seq ?_
  refine Run.region ?_
  refine q_box rfl rfl ?_
  intro b3
  refine Run.freezeB 3 3 rfl rfl ?_
  refine q_box rfl rfl ?_
  intro b4
  refine Run.freezeB 4 4 rfl rfl ?_
  refine q_box rfl rfl ?_
  intro b5
  refine Run.freezeB 5 5 rfl rfl ?_
  refine Run.op rfl rfl rfl (y_assign rfl) ?_
  refine Run.nil ?_
  refine Run.nT ?_
  refine Run.seq ?_
  refine Run.region ?_
  refine Run.op rfl rfl rfl (q_makeFunc rfl) ?_
  refine Run.op rfl rfl rfl (y_assign rfl) ?_
  refine Run.nil ?_
  refine Run.nT ?_
  refine Run.ret ?_
  exact Run.fin1 rfl rfl rfl (.tmp rfl) (fun _ _ h => h)

section
variable [hF : HasF s]

theorem rising1_fx (f : Int) (hf : fv f = true) (l D bt : Nat) (r : Loop) (h c : Nat) (hc : c ≤ h) (h18 : h ≤ 18) (leaves : Lv) (hlen : leaves.length = 2 ^ h) (hin : inL (fP f) leaves) (HR : ∀ (j : Nat) (v : Value), j ≤ h - c → RndX s.env l [slc Kd (lev f j leaves)] (bst l D bt r f h c leaves j v) (fun _ : Value => sbool true) (fun v => bst l D bt r f h c leaves (j + 1) v)) : FnX s.env 112 [sval (.func (.yield l) #[] #[]), spts [slc Kd leaves], spts [i64 ((2 ^ c : Nat) : Int)], spts [i64 f]] (bst l D bt r f h c leaves 0 (.slice none 0 0)) (fun _ : Value => sany) (fun v => bst l D bt r f h c leaves (h - c + 1) v) := by
  have hp18 := pow18 h18
  refine FnX.of [500, 501, 502, 503] rfl Tryd.func112 rfl Tryd.ntmps112 rfl ?_
  intro w0 F0
  refine Run.seq ?_
  refine Run.region ?_
  refine Run.op rfl rfl rfl (y_load rfl Tryd.underlying40 rfl) ?_
  refine Run.op rfl rfl rfl (q_call en67 rfl (clone_fn s leaves (by omega))) ?_
  refine Run.op rfl rfl rfl (y_assign rfl) ?_
  refine Run.nil ?_
  refine Run.nT ?_
  refine Run.block ?_
  refine Run.loop (ι := Nat × Value) (fun ⟨j, v⟩ => j ≤ h - c) (fun ⟨j, v⟩ => h - c - j) (fun ⟨j, v⟩ => [(500, .obj l (.loop r)), (501, .obj D (.deferred (some []))), (502, .blk bt 46 [i64 f, i64 h, i64 c, sval v]), (503, Ent.rows Kl v 40 1 (lvp f leaves j))]) (fun ⟨j, v⟩ => [(0, sval (.func (.yield l) #[] #[])), (1, spts [slc Kd leaves]), (2, spts [i64 ((2 ^ c : Nat) : Int)]), (3, spts [i64 f]), (5, slc Kd (lev f j leaves))]) (0, .slice none 0 0) (by omega) rfl (Incl.same (t := 0) rfl (Incl.same (t := 1) rfl (Incl.same (t := 2) rfl (Incl.same (t := 3) rfl (Incl.same (t := 5) rfl Incl.nil))))) ?_
  rintro ⟨j, v⟩ hj
  change Run _ _ [(500, .obj l (.loop r)), (501, .obj D (.deferred (some []))), (502, .blk bt 46 [i64 f, i64 h, i64 c, sval v]), (503, Ent.rows Kl v 40 1 (lvp f leaves j))] [(0, sval (.func (.yield l) #[] #[])), (1, spts [slc Kd leaves]), (2, spts [i64 ((2 ^ c : Nat) : Int)]), (3, spts [i64 f]), (5, slc Kd (lev f j leaves))] _
  have hll : (lev f j leaves).length = 2 ^ (h - j) := lev_len hlen (by omega)
  have hjb : (lev f j leaves).length ≤ 262144 := by rw [hll]; exact pow18 (by omega)
  have hji : inL (fP f) (lev f j leaves) := lev_in hf hin j
  have hpl := pairs_len f (lev f j leaves)
  refine Run.seq ?_
  refine Run.seq ?_
  refine Run.regionW ?_
  refine Run.opW rfl rfl rfl rfl (y_move rfl) ?_
  refine Run.opW rfl rfl rfl rfl (y_move rfl) ?_
  refine Run.yieldX [500, 501, 502, 503] [500, 501, 502, 503] rfl rfl (HR j v hj) rfl (fun _ => rfl) rfl ?_
  intro w
  refine Run.listW (ro := none) (fun _ _ h => by obtain ⟨_, _, h, _⟩ := h; cases h) rfl ?_
  refine Run.op rfl rfl rfl (y_move rfl) ?_
  refine Run.opG rfl rfl rfl rfl rfl (y_move rfl) ?_
  refine Run.opG rfl rfl rfl rfl rfl (y_lenS rfl Tryd.underlying40) ?_
  refine Run.opG rfl rfl rfl rfl rfl (y_load rfl Tryd.underlying3 rfl) ?_
  refine Run.opG rfl rfl rfl rfl rfl (y_gtr rfl rfl) ?_
  refine Run.op rfl rfl rfl (y_pickT rfl rfl) ?_
  refine Run.nil ?_
  refine Run.nT ?_
  refine Run.cond rfl (fun hb => ?_) (fun hb => ?_)
  · have hjc : c < h - j := pow_lt_ (by have := of_decide_eq_true hb; rw [hll] at this; exact Int.ofNat_lt.1 this)
    refine Run.skip ?_
    refine Run.nT ?_
    refine Run.block ?_
    refine Run.seq ?_
    refine Run.region ?_
    refine Run.op rfl rfl rfl (y_move rfl) ?_
    refine Run.op rfl rfl rfl (y_lenS rfl Tryd.underlying40) ?_
    refine Run.op rfl rfl rfl (y_quo rfl rfl (by omega) (by first | exact wI_tdiv (by omega) (by omega) | rfl)) ?_
    refine q_make (K := Kd) ((0, 0)) rfl rfl (show _ = (((pairs f (lev f j leaves)).length : Nat) : Int) by rw [hpl]; omega) (show _ = (((pairs f (lev f j leaves)).length : Nat) : Int) by rw [hpl]; omega) Tryd.underlying40 ti42 rfl rfl rfl (by omega) rfl ?_
    intro v22
    refine Run.op rfl rfl rfl (y_assign rfl) ?_
    refine Run.nil ?_
    refine Run.nT ?_
    refine Run.seq ?_
    refine Run.seq ?_
    refine Run.region ?_
    refine Run.op rfl rfl rfl (y_move rfl) ?_
    refine Run.op rfl rfl rfl (y_lenR 22 rfl rfl Tryd.underlying40) ?_
    refine Run.op rfl rfl rfl (y_move rfl) ?_
    refine Run.nil ?_
    refine Run.nT ?_
    refine Run.block ?_
    refine Run.loop (ι := Nat) (fun m => m ≤ (pairs f (lev f j leaves)).length) (fun m => (pairs f (lev f j leaves)).length - m) (fun m => [(22, Ent.rows Kd v22 42 2 (fill f (lev f j leaves) m)), (500, .obj l (.loop r)), (501, .obj D (.deferred (some []))), (502, .blk bt 46 [i64 f, i64 h, i64 c, sval w]), (503, Ent.rows Kl w 40 1 (lvp f leaves (j + 1)))]) (fun m => [(0, sval (.func (.yield l) #[] #[])), (1, spts [slc Kd leaves]), (2, spts [i64 ((2 ^ c : Nat) : Int)]), (3, spts [i64 f]), (5, slc Kd (lev f j leaves)), (6, sval v22), (24, i64 (pairs f (lev f j leaves)).length), (25, i64 m)]) 0 (by omega) (by rw [fill_zero] <;> rfl) (Incl.same (t := 0) rfl (Incl.same (t := 1) rfl (Incl.same (t := 2) rfl (Incl.same (t := 3) rfl (Incl.same (t := 5) rfl (Incl.same (t := 6) rfl (Incl.int (t := 24) rfl (by rw [List.length_replicate]) (Incl.int (t := 25) rfl rfl Incl.nil)))))))) ?_
    rintro m hm
    change Run _ _ [(22, Ent.rows Kd v22 42 2 (fill f (lev f j leaves) m)), (500, .obj l (.loop r)), (501, .obj D (.deferred (some []))), (502, .blk bt 46 [i64 f, i64 h, i64 c, sval w]), (503, Ent.rows Kl w 40 1 (lvp f leaves (j + 1)))] [(0, sval (.func (.yield l) #[] #[])), (1, spts [slc Kd leaves]), (2, spts [i64 ((2 ^ c : Nat) : Int)]), (3, spts [i64 f]), (5, slc Kd (lev f j leaves)), (6, sval v22), (24, i64 (pairs f (lev f j leaves)).length), (25, i64 m)] _
    refine Run.seq ?_
    refine Run.region ?_
    refine Run.op rfl rfl rfl (y_lss rfl rfl) ?_
    refine Run.nil ?_
    refine Run.nT ?_
    refine Run.seq ?_
    refine Run.cond rfl (fun hb => ?_) (fun hb => ?_)
    · have hmN : m < (pairs f (lev f j leaves)).length := by have := of_decide_eq_true hb; omega
      refine Run.skip ?_
      refine Run.nT ?_
      refine Run.seq ?_
      refine Run.block ?_
      refine Run.seq ?_
      refine Run.region ?_
      refine Run.op rfl rfl rfl (y_move rfl) ?_
      refine Run.op rfl rfl rfl (y_assign rfl) ?_
      refine Run.nil ?_
      refine Run.nT ?_
      refine Run.weaken (Incl.same (t := 0) rfl (Incl.same (t := 1) rfl (Incl.same (t := 2) rfl (Incl.same (t := 3) rfl (Incl.same (t := 5) rfl (Incl.same (t := 6) rfl (Incl.same (t := 24) rfl (Incl.same (t := 25) rfl (Incl.same (t := 7) rfl Incl.nil))))))))) ?_
      refine q_draw ?_ rfl
      refine Draw.step rfl rfl rfl (StepOk.op rfl rfl rfl (y_move rfl)) rfl ?_
      refine Draw.step rfl rfl rfl (StepOk.op rfl rfl rfl (y_move rfl)) rfl ?_
      refine Draw.step rfl rfl rfl (StepOk.op rfl rfl rfl (y_load rfl Tryd.underlying3 rfl)) rfl ?_
      refine Draw.step rfl rfl rfl (StepOk.op rfl rfl rfl (y_move rfl)) rfl ?_
      refine Draw.step rfl rfl rfl (StepOk.op rfl rfl rfl (y_move rfl)) rfl ?_
      refine Draw.step rfl rfl rfl (StepOk.op rfl rfl rfl (y_mul (r := ((2 * m : Nat) : Int)) rfl rfl (mul2_nat (by omega)))) rfl ?_
      refine Draw.step rfl rfl rfl (StepOk.op rfl rfl rfl (q_index (2 * m) ((lev f j leaves).getD (2 * m) (0, 0)) rfl rfl Tryd.underlying40 ti42 (fun _ => rfl) (rfl) (getD_some _ (by omega)))) rfl ?_
      refine Draw.step rfl rfl rfl (StepOk.op rfl rfl rfl (y_loadW rfl Tryd.underlying42 rfl ti42.siz)) rfl ?_
      refine Draw.step rfl rfl rfl (StepOk.op rfl rfl rfl (y_move rfl)) rfl ?_
      refine Draw.step rfl rfl rfl (StepOk.op rfl rfl rfl (y_move rfl)) rfl ?_
      refine Draw.step rfl rfl rfl (StepOk.op rfl rfl rfl (y_mul (r := ((2 * m : Nat) : Int)) rfl rfl (mul2_nat (by omega)))) rfl ?_
      refine Draw.step rfl rfl rfl (StepOk.op rfl rfl rfl (y_add (r := ((2 * m + 1 : Nat) : Int)) rfl rfl (add1_nat (by omega)))) rfl ?_
      refine Draw.step rfl rfl rfl (StepOk.op rfl rfl rfl (q_index (2 * m + 1) ((lev f j leaves).getD (2 * m + 1) (0, 0)) rfl rfl Tryd.underlying40 ti42 (fun _ => rfl) (rfl) (getD_some _ (by omega)))) rfl ?_
      refine Draw.step rfl rfl rfl (StepOk.op rfl rfl rfl (y_loadW rfl Tryd.underlying42 rfl ti42.siz)) rfl ?_
      refine Draw.step rfl rfl rfl (StepOk.op rfl rfl rfl (q_call en68 rfl (Node_fn s f hf ((lev f j leaves).getD (2 * m) (0, 0)) ((lev f j leaves).getD (2 * m + 1) (0, 0)) (inL_get hji (by omega)) (inL_get hji (by omega))))) rfl ?_
      refine Draw.step rfl rfl rfl (StepOk.op rfl rfl rfl (y_indexR 22 m rfl rfl rfl Tryd.underlying40 ti42.siz (rfl) (by rw [fill_len (by omega)]; exact hmN))) rfl ?_
      refine Draw.tail (m := 16) rfl rfl rfl ?_
      refine Run.storeRA 22 rfl rfl rfl ti42.siz (by rw [flatD_len, fill_len (by omega)]; show _ + 2 ≤ _; omega) ?_
      refine Run.own (t := 22) rfl (row_fill hmN) ?_
      refine Run.nil ?_
      refine Run.nB ?_
      refine Run.nT ?_
      refine Run.region ?_
      refine Run.op rfl rfl rfl (y_add rfl rfl (by first | exact wI_in (by omega) | rfl)) ?_
      refine Run.op rfl rfl rfl (y_move rfl) ?_
      refine Run.nil ?_
      refine Run.nT ?_
      refine Run.round (m + 1) ?_ ?_ ?_ ?_
      · show m + 1 ≤ (pairs f (lev f j leaves)).length; omega
      · show (pairs f (lev f j leaves)).length - (m + 1) < (pairs f (lev f j leaves)).length - m; omega
      · rfl
      · exact (Incl.same (t := 0) rfl (Incl.same (t := 1) rfl (Incl.same (t := 2) rfl (Incl.same (t := 3) rfl (Incl.same (t := 5) rfl (Incl.same (t := 6) rfl (Incl.same (t := 24) rfl (Incl.int (t := 25) rfl (by omega) Incl.nil))))))))
    · obtain rfl : m = (pairs f (lev f j leaves)).length := by have := of_decide_eq_false hb; omega
      refine Run.exit ?_
      refine Run.eT ?_
      refine Run.eT ?_
      refine Run.eB ?_
      refine Run.nT ?_
      refine Run.region ?_
      refine Run.op rfl rfl rfl (y_move rfl) ?_
      refine Run.op rfl rfl rfl (y_assign rfl) ?_
      refine Run.nil ?_
      refine Run.nB ?_
      refine Run.nT ?_
      refine Run.own (t := 22) rfl row_all ?_
      refine Run.freeze (K := Kd) (l := lev f (j + 1) leaves) 22 5 rfl rfl ?_
      refine Run.round (j + 1, w) ?_ ?_ ?_ ?_
      · show j + 1 ≤ h - c; omega
      · show h - c - (j + 1) < h - c - j; omega
      · rfl
      · exact (Incl.same (t := 0) rfl (Incl.same (t := 1) rfl (Incl.same (t := 2) rfl (Incl.same (t := 3) rfl (Incl.same (t := 5) rfl Incl.nil)))))
  · obtain rfl : j = h - c := by have h1 : h - j ≤ c := pow_le_ (by have := of_decide_eq_false hb; rw [hll] at this; exact Nat.le_of_not_lt fun h => this (Int.ofNat_lt.2 h)); omega
    refine Run.exit ?_
    refine Run.eT ?_
    refine Run.eT ?_
    refine Run.eB ?_
    refine Run.norm ?_
    exact Run.finX w [500, 501, 502, 503] rfl (Outs.none rfl) rfl (fun _ _ _ _ => trivial)

end

end Go.Vx
