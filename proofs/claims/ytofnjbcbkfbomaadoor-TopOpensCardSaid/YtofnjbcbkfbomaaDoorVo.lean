/- Walks of the program's functions: the trees. Conditions: as each says. Printed by a program of our own (wip/tools/gen.py). -/
import Derived.Test.YtofnjbcbkfbomaaDoorVn
namespace Go.Vx
open Go Go.RowKit Go.Proofs
set_option maxRecDepth 100000
attribute [local irreducible] nd
variable (s : Seat)

section
variable [hB : HasB s]

theorem tz64_fn (k : Nat) (hk : k ≤ 18) : Fn s.env 152 [u64 ((2 ^ k : Nat) : Int)] (i64 (k : Int)) := by
  obtain ⟨h1, h2, h3, h4, h5, h6, h7, h8⟩ := hgt_facts ⟨k, by omega⟩
  simp only at h1 h2 h3 h4 h5 h6 h7 h8
  refine Fn.of Tryd.func152 rfl Tryd.ntmps152 rfl ?_
  intro w0 F0
  refine Run.seq ?_
  refine Run.region ?_
  refine Run.op rfl rfl rfl (y_assign rfl) ?_
  refine Run.nil ?_
  refine Run.nT ?_
  refine Run.seq ?_
  refine Run.seq ?_
  refine Run.region ?_
  refine Run.op rfl rfl rfl (y_move rfl) ?_
  refine Run.op rfl rfl rfl (Yields.bool (c := false) (y_eql rfl rfl) (by rw [decide_eq_false_iff_not]; omega)) ?_
  refine Run.nil ?_
  refine Run.nT ?_
  refine Run.cond0 rfl ?_
  refine Run.skip ?_
  refine Run.nT ?_
  refine Run.seq ?_
  refine Run.region ?_
  refine Run.op rfl rfl rfl (y_move rfl) ?_
  refine Run.op rfl rfl rfl (y_move rfl) ?_
  refine Run.op rfl rfl rfl (y_neg rfl h2) ?_
  refine Run.op rfl rfl rfl (y_and rfl rfl h3) ?_
  refine Run.op rfl rfl rfl (y_mul rfl rfl h4) ?_
  refine Run.op rfl rfl rfl (y_shr rfl rfl (by omega) h5) ?_
  refine Run.op rfl rfl rfl (q_indexG (tzi k) _ hB.mem rfl Tryd.underlying250 ti5 (fun _ => rfl) rfl (rfl) (h6)) ?_
  refine Run.op rfl rfl rfl (y_load rfl Tryd.underlying5 rfl) ?_
  refine Run.op rfl rfl rfl (y_conv Tryd.underlying5 Tryd.underlying3 rfl (by first | exact wI_in (by omega) | rfl)) ?_
  refine Run.op rfl rfl rfl (y_assign rfl) ?_
  refine Run.nil ?_
  refine Run.nT ?_
  refine Run.ret ?_
  exact Run.fin1 rfl rfl rfl (.tmp rfl) (fun _ _ h => h)

theorem tz_fn (k : Nat) (hk : k ≤ 18) : Fn s.env 108 [u64 ((2 ^ k : Nat) : Int)] (i64 (k : Int)) := by
  refine Fn.of Tryd.func108 rfl Tryd.ntmps108 rfl ?_
  intro w0 F0
  refine Run.seq ?_
  refine Run.region ?_
  refine Run.op rfl rfl rfl (y_assign rfl) ?_
  refine Run.nil ?_
  refine Run.nT ?_
  refine Run.seq ?_
  refine Run.cond0 rfl ?_
  refine Run.skip ?_
  refine Run.nT ?_
  refine Run.seq ?_
  refine Run.region ?_
  refine Run.op rfl rfl rfl (y_move rfl) ?_
  refine Run.op rfl rfl rfl (q_call en152 rfl (tz64_fn s k hk)) ?_
  refine Run.op rfl rfl rfl (y_assign rfl) ?_
  refine Run.nil ?_
  refine Run.nT ?_
  refine Run.ret ?_
  exact Run.fin1 rfl rfl rfl (.tmp rfl) (fun _ _ h => h)

theorem height_fn (k : Nat) (hk : k ≤ 18) : Fn s.env 57 [i64 ((2 ^ k : Nat) : Int)] (i64 (k : Int)) := by
  obtain ⟨h1, h2, h3, h4, h5, h6, h7, h8⟩ := hgt_facts ⟨k, by omega⟩
  simp only at h1 h2 h3 h4 h5 h6 h7 h8
  refine Fn.of Tryd.func57 rfl Tryd.ntmps57 rfl ?_
  intro w0 F0
  refine Run.seq ?_
  refine Run.region ?_
  refine Run.op rfl rfl rfl (y_assign rfl) ?_
  refine Run.nil ?_
  refine Run.nT ?_
  refine Run.seq ?_
  refine Run.seq ?_
  refine Run.region ?_
  refine Run.op rfl rfl rfl (y_move rfl) ?_
  refine Run.op rfl rfl rfl (Yields.bool (c := false) (y_lss rfl rfl) (by rw [decide_eq_false_iff_not]; omega)) ?_
  refine Run.op rfl rfl rfl (y_move rfl) ?_
  refine Run.opG rfl rfl rfl rfl rfl (y_move rfl) ?_
  refine Run.opG rfl rfl rfl rfl rfl (Yields.bool (c := false) (y_gtr rfl rfl) (by rw [decide_eq_false_iff_not]; omega)) ?_
  refine Run.op rfl rfl rfl (y_pickF rfl rfl) ?_
  refine Run.op rfl rfl rfl (y_move rfl) ?_
  refine Run.opG rfl rfl rfl rfl rfl (y_move rfl) ?_
  refine Run.opG rfl rfl rfl rfl rfl (y_move rfl) ?_
  refine Run.opG rfl rfl rfl rfl rfl (y_sub rfl rfl (by first | exact wI_in (by omega) | rfl)) ?_
  refine Run.opG rfl rfl rfl rfl rfl (y_and rfl rfl h1) ?_
  refine Run.opG rfl rfl rfl rfl rfl (Yields.bool (c := false) (y_neq rfl rfl) (by decide)) ?_
  refine Run.op rfl rfl rfl (y_pickF rfl rfl) ?_
  refine Run.nil ?_
  refine Run.nT ?_
  refine Run.cond0 rfl ?_
  refine Run.skip ?_
  refine Run.nT ?_
  refine Run.seq ?_
  refine Run.region ?_
  refine Run.op rfl rfl rfl (y_move rfl) ?_
  refine Run.op rfl rfl rfl (y_conv Tryd.underlying3 Tryd.underlying118 rfl (by first | exact wU_in (by omega) | rfl)) ?_
  refine Run.op rfl rfl rfl (q_call en108 rfl (tz_fn s k hk)) ?_
  refine Run.op rfl rfl rfl (y_assign rfl) ?_
  refine Run.nil ?_
  refine Run.nT ?_
  refine Run.ret ?_
  exact Run.fin1 rfl rfl rfl (.tmp rfl) (fun _ _ h => h)

end

theorem bad_fn (p : Int) (d : Dg) : Fn s.env 111 [dig d, spts [u64 p]] (sbool (bad p d)) := by
  refine Fn.of Tryd.func111 rfl Tryd.ntmps111 rfl ?_
  intro w0 F0
  refine Run.seq ?_
  refine Run.region ?_
  refine Run.boxA rfl rfl ?_
  intro b2
  refine Run.op rfl rfl rfl (y_assign rfl) ?_
  refine Run.nil ?_
  refine Run.nT ?_
  refine Run.seq ?_
  refine Run.region ?_
  refine Run.op rfl rfl rfl (y_indexP 0 rfl rfl Tryd.underlying42 ti33.siz rfl (by decide)) ?_
  refine Run.op rfl rfl rfl (y_loadP 2 rfl rfl (rfl) Tryd.underlying33 rfl) ?_
  refine Run.op rfl rfl rfl (y_load rfl Tryd.underlying33 rfl) ?_
  refine Run.op rfl rfl rfl (y_geq rfl rfl) ?_
  refine Run.op rfl rfl rfl (y_move rfl) ?_
  refine Run.opC rfl rfl rfl rfl rfl (fun hg => Yields.incl (Incl.same (t := 2) rfl Incl.nil) (y_indexP 1 rfl rfl Tryd.underlying42 ti33.siz rfl (by decide))) ?_
  refine Run.opC rfl rfl rfl rfl rfl (fun hg => Yields.incl (Incl.cond (t := 9) rfl hg Incl.nil) (y_loadP 2 rfl rfl (rfl) Tryd.underlying33 rfl)) ?_
  refine Run.opC rfl rfl rfl rfl rfl (fun hg => Yields.incl (Incl.same (t := 1) rfl Incl.nil) (y_load rfl Tryd.underlying33 rfl)) ?_
  refine Run.opC rfl rfl rfl rfl rfl (fun hg => Yields.incl (Incl.cond (t := 10) rfl hg (Incl.cond (t := 11) rfl hg Incl.nil)) (y_geq rfl rfl)) ?_
  refine Run.op rfl rfl rfl (y_pickOr rfl rfl) ?_
  refine Run.op rfl rfl rfl (y_assign rfl) ?_
  refine Run.nil ?_
  refine Run.nT ?_
  refine Run.ret ?_
  exact Run.fin1 rfl rfl rfl (.tmp rfl) (fun _ _ h => h)

theorem index_fn (q : Dg → Bool) (g : FuncId) (Cs : List Spec) (hg : Enters s.env.P g) (hq : ∀ d, Fn s.env g (dig d :: Cs) (sbool (q d))) (l : Lv) (hl : l.length ≤ 1048576) : Fn s.env 153 [slc Kd l, sfun g Cs] (i64 (fidx q l)) := by
  refine Fn.of Tryd.func153 rfl Tryd.ntmps153 rfl ?_
  intro w0 F0
  refine Run.seq ?_
  refine Run.region ?_
  refine Run.op rfl rfl rfl (y_assign rfl) ?_
  refine Run.nil ?_
  refine Run.nT ?_
  refine Run.seq ?_
  refine Run.seq ?_
  refine Run.region ?_
  refine Run.op rfl rfl rfl (y_move rfl) ?_
  refine Run.op rfl rfl rfl (y_lenS rfl Tryd.underlying40) ?_
  refine Run.op rfl rfl rfl (y_move rfl) ?_
  refine Run.nil ?_
  refine Run.nT ?_
  refine Run.block ?_
  refine Run.loop (ι := Nat) (fun j => j ≤ l.length ∧ ∀ i, i < j → q (l.getD i (0, 0)) = false) (fun j => l.length - j) (fun j => []) (fun j => [(0, slc Kd l), (1, sfun g Cs), (7, i64 l.length), (8, i64 j)]) 0 ⟨by omega, fun i hi => by omega⟩ rfl (Incl.same (t := 0) rfl (Incl.same (t := 1) rfl (Incl.same (t := 7) rfl (Incl.same (t := 8) rfl Incl.nil)))) ?_
  rintro j ⟨hj, hI⟩
  change Run _ _ [] [(0, slc Kd l), (1, sfun g Cs), (7, i64 l.length), (8, i64 j)] _
  refine Run.seq ?_
  refine Run.region ?_
  refine Run.op rfl rfl rfl (y_lss rfl rfl) ?_
  refine Run.nil ?_
  refine Run.nT ?_
  refine Run.seq ?_
  refine Run.cond rfl (fun hb => ?_) (fun hb => ?_)
  · have hjl : j < l.length := by have := of_decide_eq_true hb; omega
    refine Run.skip ?_
    refine Run.nT ?_
    refine Run.seq ?_
    refine Run.block ?_
    refine Run.seq ?_
    refine Run.region ?_
    refine Run.op rfl rfl rfl (y_move rfl) ?_
    refine Run.op rfl rfl rfl (y_assign rfl) ?_
    refine Run.nil ?_
    refine Run.nT ?_
    refine Run.seq ?_
    refine Run.region ?_
    refine Run.op rfl rfl rfl (y_move rfl) ?_
    refine Run.op rfl rfl rfl (y_move rfl) ?_
    refine Run.op rfl rfl rfl (y_move rfl) ?_
    refine Run.op rfl rfl rfl (q_index j (l.getD j (0, 0)) rfl rfl Tryd.underlying40 ti42 (fun _ => rfl) (rfl) (getD_some _ hjl)) ?_
    refine Run.op rfl rfl rfl (y_loadW rfl Tryd.underlying42 rfl ti42.siz) ?_
    refine Run.op rfl rfl rfl (q_callV hg rfl rfl (hq _)) ?_
    refine Run.nil ?_
    refine Run.nT ?_
    refine Run.cond rfl (fun hb => ?_) (fun hb => ?_)
    · have hq1 : q (l.getD j (0, 0)) = true := hb
      refine Run.seq ?_
      refine Run.region ?_
      refine Run.op rfl rfl rfl (y_move rfl) ?_
      refine Run.op rfl rfl rfl (y_assign rfl) ?_
      refine Run.nil ?_
      refine Run.nT ?_
      refine Run.ret ?_
      refine Run.rB ?_
      refine Run.rT ?_
      refine Run.rT ?_
      refine Run.rB ?_
      refine Run.rT ?_
      exact Run.fin1 rfl rfl rfl (.tmp rfl) (fun _ _ h => by rw [← fidx_found hjl hI hq1]; exact h)
    · have hq0 : q (l.getD j (0, 0)) = false := hb
      refine Run.skip ?_
      refine Run.nB ?_
      refine Run.nT ?_
      refine Run.region ?_
      refine Run.op rfl rfl rfl (y_add rfl rfl (by first | exact wI_in (by omega) | rfl)) ?_
      refine Run.op rfl rfl rfl (y_move rfl) ?_
      refine Run.nil ?_
      refine Run.nT ?_
      refine Run.round (j + 1) ?_ ?_ ?_ ?_
      · refine ⟨by omega, fun i hi => ?_⟩
        by_cases e : i = j
        · subst e; exact hq0
        · exact hI i (by omega)
      · show l.length - (j + 1) < l.length - j; omega
      · rfl
      · exact (Incl.same (t := 0) rfl (Incl.same (t := 1) rfl (Incl.same (t := 7) rfl (Incl.int (t := 8) rfl (by omega) Incl.nil))))
  · obtain rfl : j = l.length := by have := of_decide_eq_false hb; omega
    refine Run.exit ?_
    refine Run.eT ?_
    refine Run.eT ?_
    refine Run.eB ?_
    refine Run.nT ?_
    refine Run.seq ?_
    refine Run.region ?_
    refine Run.op rfl rfl rfl (y_assign rfl) ?_
    refine Run.nil ?_
    refine Run.nT ?_
    refine Run.ret ?_
    exact Run.fin1 rfl rfl rfl (.tmp rfl) (fun _ _ h => by rw [← fidx_none hI]; exact h)

theorem contains_fn (q : Dg → Bool) (g : FuncId) (Cs : List Spec) (hg : Enters s.env.P g) (hq : ∀ d, Fn s.env g (dig d :: Cs) (sbool (q d))) (l : Lv) (hl : l.length ≤ 1048576) : Fn s.env 110 [slc Kd l, sfun g Cs] (sbool (l.any q)) := by
  refine Fn.of Tryd.func110 rfl Tryd.ntmps110 rfl ?_
  intro w0 F0
  refine Run.seq ?_
  refine Run.region ?_
  refine Run.op rfl rfl rfl (y_assign rfl) ?_
  refine Run.nil ?_
  refine Run.nT ?_
  refine Run.seq ?_
  refine Run.region ?_
  refine Run.op rfl rfl rfl (y_move rfl) ?_
  refine Run.op rfl rfl rfl (y_move rfl) ?_
  refine Run.op rfl rfl rfl (q_call en153 rfl (index_fn s q g Cs hg hq l hl)) ?_
  refine Run.op rfl rfl rfl (Yields.bool (y_geq rfl rfl) (fidx_any q l)) ?_
  refine Run.op rfl rfl rfl (y_assign rfl) ?_
  refine Run.nil ?_
  refine Run.nT ?_
  refine Run.ret ?_
  exact Run.fin1 rfl rfl rfl (.tmp rfl) (fun _ _ h => h)

section
variable [hF : HasF s]

theorem proper_fn (f : Int) (l : Lv) (hl : l.length ≤ 1048576) : Fn s.env 59 [i64 f, slc Kd l] (sbool (prp f l)) := by
  refine Fn.of Tryd.func59 rfl Tryd.ntmps59 rfl ?_
  intro w0 F0
  refine Run.seq ?_
  refine Run.region ?_
  refine Run.op rfl rfl rfl (y_assign rfl) ?_
  refine Run.nil ?_
  refine Run.nT ?_
  refine Run.seq ?_
  refine Run.region ?_
  refine Run.op rfl rfl rfl (y_move rfl) ?_
  refine Run.op rfl rfl rfl (q_call en109 rfl (P_fn s _)) ?_
  refine q_alloc ti33 rfl rfl ?_
  intro b5
  refine q_store1 5 rfl rfl rfl ti33 (Nat.le_of_ble_eq_true rfl) ?_
  refine Run.freezeB 5 5 rfl rfl ?_
  refine Run.nil ?_
  refine Run.nT ?_
  refine Run.seq ?_
  refine Run.region ?_
  refine Run.op rfl rfl rfl (y_move rfl) ?_
  refine Run.op rfl rfl rfl (q_makeFunc rfl) ?_
  refine Run.op rfl rfl rfl (q_call en110 rfl (contains_fn s (bad (fP f)) 111 [spts [u64 (fP f)]] en111 (fun d => bad_fn s _ d) l hl)) ?_
  refine Run.op rfl rfl rfl (y_not rfl) ?_
  refine Run.op rfl rfl rfl (y_assign rfl) ?_
  refine Run.nil ?_
  refine Run.nT ?_
  refine Run.ret ?_
  exact Run.fin1 rfl rfl rfl (.tmp rfl) (fun _ _ h => h)

theorem opens_fn (f : Int) (hf : fv f = true) (i : Nat) (x : Dg) (l : Lv) (hl : l.length ≤ 18) (hx : inD (fP f) x) (hi : inL (fP f) l) : Fn s.env 62 [i64 f, i64 i, dig x, slc Kd l] (sbool true) := by
  refine Fn.of Tryd.func62 rfl Tryd.ntmps62 rfl ?_
  intro w0 F0
  refine Run.seq ?_
  refine Run.region ?_
  refine Run.boxA rfl rfl ?_
  intro b6
  refine Run.op rfl rfl rfl (y_assign rfl) ?_
  refine Run.nil ?_
  refine Run.nT ?_
  refine Run.seq ?_
  refine Run.region ?_
  refine Run.op rfl rfl rfl (y_move rfl) ?_
  refine Run.op rfl rfl rfl (Yields.bool (c := true) (q_call en58 rfl (valid_fn s _)) (hf)) ?_
  refine Run.op rfl rfl rfl (y_move rfl) ?_
  refine Run.opG rfl rfl rfl rfl rfl (y_move rfl) ?_
  refine Run.opG rfl rfl rfl rfl rfl (Yields.bool (c := true) (y_geq rfl rfl) (by rw [decide_eq_true_eq]; omega)) ?_
  refine Run.op rfl rfl rfl (y_pickT rfl rfl) ?_
  refine Run.op rfl rfl rfl (y_move rfl) ?_
  refine Run.opG rfl rfl rfl rfl rfl (y_move rfl) ?_
  refine Run.opG rfl rfl rfl rfl rfl (y_lenS rfl Tryd.underlying40) ?_
  refine Run.opG rfl rfl rfl rfl rfl (Yields.bool (c := true) (y_leq rfl rfl) (by rw [decide_eq_true_eq]; omega)) ?_
  refine Run.op rfl rfl rfl (y_pickT rfl rfl) ?_
  refine Run.op rfl rfl rfl (y_move rfl) ?_
  refine Run.opG rfl rfl rfl rfl rfl (y_move rfl) ?_
  refine Run.opG rfl rfl rfl rfl rfl (y_loadPW 6 rfl rfl Tryd.underlying42 rfl ti42.siz) ?_
  refine Run.opG rfl rfl rfl rfl rfl (q_buildL (K := Kd) ([x]) Tryd.underlying40 ti42 rfl rfl rfl (.cons rfl (Part.agg rfl) rfl .nil) rfl) ?_
  refine Run.opG rfl rfl rfl rfl rfl (Yields.bool (c := true) (q_call en59 rfl (proper_fn s f [x] (by simp))) (prp_of (inL_one hx))) ?_
  refine Run.op rfl rfl rfl (y_pickT rfl rfl) ?_
  refine Run.op rfl rfl rfl (y_move rfl) ?_
  refine Run.opG rfl rfl rfl rfl rfl (y_move rfl) ?_
  refine Run.opG rfl rfl rfl rfl rfl (y_move rfl) ?_
  refine Run.opG rfl rfl rfl rfl rfl (Yields.bool (c := true) (q_call en59 rfl (proper_fn s f l (by omega))) (prp_of hi)) ?_
  refine Run.op rfl rfl rfl (y_pickT rfl rfl) ?_
  refine Run.op rfl rfl rfl (y_assign rfl) ?_
  refine Run.nil ?_
  refine Run.nT ?_
  refine Run.ret ?_
  exact Run.fin1 rfl rfl rfl (.tmp rfl) (fun _ _ h => h)

end

end Go.Vx
