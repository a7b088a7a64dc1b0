/- Walks: keys, balances, counts, faults. Conditions: as each says. Printed by a program of our own (wip/tools/gen2.py). -/
import Derived.Test.YtofnjbcbkfbomaaDoorWf
namespace Go.Vx
open Go Go.RowKit Go.Proofs
set_option maxRecDepth 100000
variable (s : Seat)

theorem keyOf_len (t : List Int) (cs : List (List Int)) (i : Nat) (l : List Var) : (keyOf t cs i l).length = 4 * l.length := by
  unfold keyOf
  induction l with
  | nil => rfl
  | cons v l ih => rw [List.flatMap_cons, List.length_append, ih]; simp; omega
theorem vok3 {v : Var} (h : vok v) (h3 : v.1 = 3) : v.2 = 0 := by
  rcases h with h | h
  · omega
  · exact h.2
theorem vok1 {v : Var} (h : vok v) (h3 : v.1 ≠ 3) : 0 ≤ v.2 ∧ v.2 < 6 := by
  rcases h with h | h
  · exact h.2
  · exact (h3 h.1).elim
theorem getDl_at {cs : List (List Int)} {j : Nat} (h : j < cs.length) : cs[j]? = some (cs.getD j []) := by rw [List.getD_eq_getElem?_getD, List.getElem?_eq_getElem h]; rfl
theorem vat_main {t : List Int} {cs : List (List Int)} {i : Nat} {v : Var} (h : v.1 ≠ 3) : vat t cs i v = (cs.getD v.2.toNat []).getD i 0 := by unfold vat; rw [if_neg h]
theorem vat_fix {t : List Int} {cs : List (List Int)} {i : Nat} {v : Var} (h : v.1 = 3) (h2 : v.2 = 0) : vat t cs i v = t.getD i 0 := by unfold vat; rw [if_pos h, h2]; rfl
theorem getD_mem {cs : List (List Int)} {j : Nat} (h : j < cs.length) : cs.getD j [] ∈ cs := by
  rw [List.getD_eq_getElem?_getD, List.getElem?_eq_getElem h]; exact List.getElem_mem h

theorem key_fn (k : Nat) (t : List Int) (cs : List (List Int)) (i : Nat) (N : Nat) (hi : i < N) (ht : t.length = N) (h97 : in97 t) (hcs : cs.length = 6) (hc : ∀ c ∈ cs, c.length = N ∧ in97 c) (l : List Var) (hv : ∀ v ∈ l, vok v) (hl : l.length ≤ 100) : Fn s.env 161 [sagg (Ksys k t), sagg (Ktr cs), i64 i, slc Kv l] (sval (kstr (key8 t cs i l))) := by
  refine Fn.of Tryd.func161 rfl Tryd.ntmps161 rfl ?_
  intro w0 F0
  refine Run.seq ?_
  refine Run.region ?_
  refine Run.boxA rfl rfl ?_
  intro b4
  refine Run.freezeB 4 4 rfl rfl ?_
  refine Run.boxA rfl rfl ?_
  intro b5
  refine Run.freezeB 5 5 rfl rfl ?_
  refine Run.op rfl rfl rfl (y_assign rfl) ?_
  refine Run.nil ?_
  refine Run.nT ?_
  refine Run.seq ?_
  refine Run.region ?_
  refine Run.op rfl rfl rfl (y_assign rfl) ?_
  refine q_nilRow 9 (Kk8) 5 1 ?_
  refine Run.nil ?_
  refine Run.nT ?_
  refine Run.seq ?_
  refine Run.seq ?_
  refine Run.region ?_
  refine Run.op rfl rfl rfl (y_move rfl) ?_
  refine Run.op rfl rfl rfl (y_lenS rfl Tryd.underlying130) ?_
  refine Run.op rfl rfl rfl (y_move rfl) ?_
  refine Run.nil ?_
  refine Run.nT ?_
  refine Run.block ?_
  refine Run.loopK (ι := Nat × Value) (fun ⟨j, v⟩ => j ≤ l.length) (fun ⟨j, v⟩ => l.length - j) (fun ⟨j, v⟩ => [(9, .rows Kk8 v 5 1 (keyOf t cs i (l.take j)))]) [2, 4, 5, 8, 13, 14] (fun ⟨j, v⟩ => [(15, i64 j), (9, sval v)]) (0, .slice none 0 0) (by show 0 ≤ _; omega) rfl (Incl.same (t := 15) rfl (Incl.same (t := 9) rfl (Incl.pick [2, 4, 5, 8, 13, 14]))) ?_
  rintro ⟨j, v⟩ hj
  have hj : j ≤ l.length := hj
  refine Run.seq ?_
  refine Run.region ?_
  refine Run.op rfl rfl rfl (y_lss rfl rfl) ?_
  refine Run.nil ?_
  refine Run.nT ?_
  refine Run.seq ?_
  refine Run.cond rfl (fun hb => ?_) (fun hb => ?_)
  · have hjl : j < l.length := by have := of_decide_eq_true hb; omega
    have hvj := hv _ (List.getElem_mem hjl)
    have hlk := keyOf_len t cs i (l.take j)
    rw [List.length_take, Nat.min_eq_left hj] at hlk
    refine Run.skip ?_
    refine Run.nT ?_
    refine Run.seq ?_
    refine Run.block ?_
    refine Run.seq ?_
    refine Run.region ?_
    refine Run.op rfl rfl rfl (q_index (j) (l[j]) rfl rfl Tryd.underlying130 ti128 (fun _ => rfl) (rfl) (get_some hjl)) ?_
    refine Run.op rfl rfl rfl (y_loadW rfl Tryd.underlying128 rfl ti128.siz) ?_
    refine q_alloc ti128 rfl rfl ?_
    intro b11
    refine Run.storeW 11 rfl rfl rfl ti128.siz rfl ?_
    refine Run.freezeB 11 11 rfl rfl ?_
    refine Run.nil ?_
    refine Run.nT ?_
    refine Run.seq ?_
    refine Run.region ?_
    refine Run.op rfl rfl rfl (y_assign rfl) ?_
    refine Run.nil ?_
    refine Run.nT ?_
    refine Run.seq ?_
    refine Run.seq ?_
    refine Run.region ?_
    refine Run.op rfl rfl rfl (y_field rfl Tryd.underlying128 rfl ti126.siz rfl) ?_
    refine Run.op rfl rfl rfl (y_load rfl Tryd.underlying126 rfl) ?_
    refine Run.op rfl rfl rfl (y_eql rfl rfl) ?_
    refine Run.nil ?_
    refine Run.nT ?_
    refine Run.cond rfl (fun hb => ?_) (fun hb => ?_)
    · have hk3 : l[j].1 = 3 := of_decide_eq_true hb
      have hz := vok3 hvj hk3
      have hit : i < t.length := by omega
      have hx := in97_get h97 hit
      refine Run.region ?_
      refine Run.op rfl rfl rfl (y_field rfl Tryd.underlying66 rfl ti61.siz rfl) ?_
      refine Run.op rfl rfl rfl (y_load rfl Tryd.underlying61 rfl) ?_
      refine Run.op rfl rfl rfl (y_field rfl Tryd.underlying128 rfl ti3.siz rfl) ?_
      refine Run.op rfl rfl rfl (y_load rfl Tryd.underlying3 rfl) ?_
      refine Run.op rfl rfl rfl (q_index (0) (t) rfl rfl Tryd.underlying61 ti29 (fun _ => rfl) (hz) (rfl)) ?_
      refine Run.op rfl rfl rfl (y_load rfl Tryd.underlying29 rfl) ?_
      refine Run.op rfl rfl rfl (y_move rfl) ?_
      refine Run.op rfl rfl rfl (q_index (i) (_) rfl rfl Tryd.underlying29 ti33 (fun _ => rfl) (rfl) (getD_at hit)) ?_
      refine Run.op rfl rfl rfl (y_load rfl Tryd.underlying33 rfl) ?_
      refine Run.op rfl rfl rfl (y_assign rfl) ?_
      refine Run.nil ?_
      refine Run.nT ?_
      refine Run.region ?_
      refine Run.op rfl rfl rfl (y_move rfl) ?_
      refine Run.op rfl rfl rfl (y_move rfl) ?_
      refine Run.op rfl rfl rfl (y_conv Tryd.underlying33 Tryd.underlying5 rfl (by first | exact w8_in (by omega) | rfl)) ?_
      refine Run.op rfl rfl rfl (y_move rfl) ?_
      refine Run.op rfl rfl rfl (y_shr (r := 0) rfl rfl (by omega) (sh0 hx 8 (by omega))) ?_
      refine Run.op rfl rfl rfl (y_conv Tryd.underlying33 Tryd.underlying5 rfl (by first | exact w8_in (by omega) | rfl)) ?_
      refine Run.op rfl rfl rfl (y_move rfl) ?_
      refine Run.op rfl rfl rfl (y_shr (r := 0) rfl rfl (by omega) (sh0 hx 16 (by omega))) ?_
      refine Run.op rfl rfl rfl (y_conv Tryd.underlying33 Tryd.underlying5 rfl (by first | exact w8_in (by omega) | rfl)) ?_
      refine Run.op rfl rfl rfl (y_move rfl) ?_
      refine Run.op rfl rfl rfl (y_shr (r := 0) rfl rfl (by omega) (sh0 hx 24 (by omega))) ?_
      refine Run.op rfl rfl rfl (y_conv Tryd.underlying33 Tryd.underlying5 rfl (by first | exact w8_in (by omega) | rfl)) ?_
      refine Run.op rfl rfl rfl (q_buildL (K := Kk8) ([_, 0, 0, 0]) Tryd.underlying26 ti5 rfl rfl rfl (.cons rfl (Part.one' rfl) rfl (.cons rfl (Part.one' rfl) rfl (.cons rfl (Part.one' rfl) rfl (.cons rfl (Part.one' rfl) rfl .nil)))) rfl) ?_
      refine q_append 9 rfl rfl rfl Tryd.underlying26 ti5 rfl rfl (fun _ => rfl) (by rw [hlk]; simp; omega) rfl ?_
      intro v53
      refine Run.own (t := 9) (e' := Ent.rows Kk8 v53 5 1 (keyOf t cs i (l.take (j + 1)))) rfl (congrArg (Ent.rows Kk8 v53 5 1) (key_snoc hjl (vat_fix hk3 hz))) ?_
      refine Run.op rfl rfl rfl (y_assign rfl) ?_
      refine Run.nil ?_
      refine Run.nB ?_
      refine Run.nT ?_
      refine Run.region ?_
      refine Run.op rfl rfl rfl (y_add rfl rfl (by first | exact wI_in (by omega) | rfl)) ?_
      refine Run.op rfl rfl rfl (y_move rfl) ?_
      refine Run.nil ?_
      refine Run.nT ?_
      refine Run.round (j + 1, v53) ?_ ?_ ?_ ?_
      · show j + 1 ≤ l.length; omega
      · show l.length - (j + 1) < l.length - j; omega
      · rfl
      · exact (Incl.int (t := 15) rfl (by omega) (Incl.same (t := 9) rfl (Incl.same (t := 2) rfl (Incl.same (t := 4) rfl (Incl.same (t := 5) rfl (Incl.same (t := 8) rfl (Incl.same (t := 13) rfl (Incl.same (t := 14) rfl Incl.nil))))))))
    · have hk3 : l[j].1 ≠ 3 := of_decide_eq_false hb
      have hz := vok1 hvj hk3
      have hcm := getD_mem (cs := cs) (j := l[j].2.toNat) (by omega)
      have hit : i < (cs.getD l[j].2.toNat []).length := by rw [(hc _ hcm).1]; exact hi
      have hx := in97_get (hc _ hcm).2 hit
      refine Run.region ?_
      refine Run.op rfl rfl rfl (y_field rfl Tryd.underlying68 rfl ti61.siz rfl) ?_
      refine Run.op rfl rfl rfl (y_load rfl Tryd.underlying61 rfl) ?_
      refine Run.op rfl rfl rfl (y_field rfl Tryd.underlying128 rfl ti3.siz rfl) ?_
      refine Run.op rfl rfl rfl (y_load rfl Tryd.underlying3 rfl) ?_
      refine Run.op rfl rfl rfl (q_index (l[j].2.toNat) (_) rfl rfl Tryd.underlying61 ti29 (fun _ => rfl) (by omega) (getDl_at (by omega))) ?_
      refine Run.op rfl rfl rfl (y_load rfl Tryd.underlying29 rfl) ?_
      refine Run.op rfl rfl rfl (y_move rfl) ?_
      refine Run.op rfl rfl rfl (q_index (i) (_) rfl rfl Tryd.underlying29 ti33 (fun _ => rfl) (rfl) (getD_at hit)) ?_
      refine Run.op rfl rfl rfl (y_load rfl Tryd.underlying33 rfl) ?_
      refine Run.op rfl rfl rfl (y_assign rfl) ?_
      refine Run.nil ?_
      refine Run.nT ?_
      refine Run.region ?_
      refine Run.op rfl rfl rfl (y_move rfl) ?_
      refine Run.op rfl rfl rfl (y_move rfl) ?_
      refine Run.op rfl rfl rfl (y_conv Tryd.underlying33 Tryd.underlying5 rfl (by first | exact w8_in (by omega) | rfl)) ?_
      refine Run.op rfl rfl rfl (y_move rfl) ?_
      refine Run.op rfl rfl rfl (y_shr (r := 0) rfl rfl (by omega) (sh0 hx 8 (by omega))) ?_
      refine Run.op rfl rfl rfl (y_conv Tryd.underlying33 Tryd.underlying5 rfl (by first | exact w8_in (by omega) | rfl)) ?_
      refine Run.op rfl rfl rfl (y_move rfl) ?_
      refine Run.op rfl rfl rfl (y_shr (r := 0) rfl rfl (by omega) (sh0 hx 16 (by omega))) ?_
      refine Run.op rfl rfl rfl (y_conv Tryd.underlying33 Tryd.underlying5 rfl (by first | exact w8_in (by omega) | rfl)) ?_
      refine Run.op rfl rfl rfl (y_move rfl) ?_
      refine Run.op rfl rfl rfl (y_shr (r := 0) rfl rfl (by omega) (sh0 hx 24 (by omega))) ?_
      refine Run.op rfl rfl rfl (y_conv Tryd.underlying33 Tryd.underlying5 rfl (by first | exact w8_in (by omega) | rfl)) ?_
      refine Run.op rfl rfl rfl (q_buildL (K := Kk8) ([_, 0, 0, 0]) Tryd.underlying26 ti5 rfl rfl rfl (.cons rfl (Part.one' rfl) rfl (.cons rfl (Part.one' rfl) rfl (.cons rfl (Part.one' rfl) rfl (.cons rfl (Part.one' rfl) rfl .nil)))) rfl) ?_
      refine q_append 9 rfl rfl rfl Tryd.underlying26 ti5 rfl rfl (fun _ => rfl) (by rw [hlk]; simp; omega) rfl ?_
      intro v53
      refine Run.own (t := 9) (e' := Ent.rows Kk8 v53 5 1 (keyOf t cs i (l.take (j + 1)))) rfl (congrArg (Ent.rows Kk8 v53 5 1) (key_snoc hjl (vat_main hk3))) ?_
      refine Run.op rfl rfl rfl (y_assign rfl) ?_
      refine Run.nil ?_
      refine Run.nB ?_
      refine Run.nT ?_
      refine Run.region ?_
      refine Run.op rfl rfl rfl (y_add rfl rfl (by first | exact wI_in (by omega) | rfl)) ?_
      refine Run.op rfl rfl rfl (y_move rfl) ?_
      refine Run.nil ?_
      refine Run.nT ?_
      refine Run.round (j + 1, v53) ?_ ?_ ?_ ?_
      · show j + 1 ≤ l.length; omega
      · show l.length - (j + 1) < l.length - j; omega
      · rfl
      · exact (Incl.int (t := 15) rfl (by omega) (Incl.same (t := 9) rfl (Incl.same (t := 2) rfl (Incl.same (t := 4) rfl (Incl.same (t := 5) rfl (Incl.same (t := 8) rfl (Incl.same (t := 13) rfl (Incl.same (t := 14) rfl Incl.nil))))))))
  · obtain rfl : j = l.length := by have := of_decide_eq_false hb; omega
    refine Run.exit ?_
    refine Run.eT ?_
    refine Run.eT ?_
    refine Run.eB ?_
    refine Run.nT ?_
    refine Run.seq ?_
    refine Run.region ?_
    refine Run.op rfl rfl rfl (y_move rfl) ?_
    refine Run.freeze (K := Kk8) (l := keyOf t cs i (l.take l.length)) 9 55 rfl rfl ?_
    refine Run.op rfl rfl rfl (y_toStr rfl Tryd.underlying26 Tryd.underlying5 Tryd.underlying9) ?_
    refine Run.op rfl rfl rfl (y_assign rfl) ?_
    refine Run.nil ?_
    refine Run.nT ?_
    refine Run.ret ?_
    refine Run.fin1 rfl rfl rfl (.tmp rfl) (fun _ _ h => ?_)
    rw [kstrI_eq, List.take_length] at h
    exact h

theorem balanced_fn (k : Nat) (hk : 1 ≤ k ∧ k ≤ 3) (t : List Int) (ht : t.length = 2 ^ k) (h97 : in97 t) (cs : List (List Int)) (hcs : cs.length = 6) (hc : ∀ c ∈ cs, c.length = 2 ^ k ∧ in97 c) : Fn s.env 121 [sagg (Ksys k t), sagg (Ktr cs), sagg (Kp2 perm14)] (sbool (balB t cs (2 ^ k))) := by
  have hp8 := pow2_le (k := k) (m := 3) (by omega)
  have hp8 : 2 ^ k ≤ 8 := hp8
  refine Fn.of Tryd.func121 rfl Tryd.ntmps121 rfl ?_
  intro w0 F0
  refine Run.seq ?_
  refine Run.region ?_
  refine Run.boxA rfl rfl ?_
  intro b3
  refine Run.freezeB 3 3 rfl rfl ?_
  refine Run.boxA rfl rfl ?_
  intro b4
  refine Run.freezeB 4 4 rfl rfl ?_
  refine Run.boxA rfl rfl ?_
  intro b5
  refine Run.freezeB 5 5 rfl rfl ?_
  refine Run.op rfl rfl rfl (y_assign rfl) ?_
  refine Run.nil ?_
  refine Run.nT ?_
  refine Run.seq ?_
  refine Run.region ?_
  refine Run.makeMap kstr gi rfl ?_
  intro b12
  refine Run.op rfl rfl rfl (y_assign rfl) ?_
  refine Run.nil ?_
  refine Run.nT ?_
  refine Run.seq ?_
  refine Run.seq ?_
  refine Run.region ?_
  refine Run.op rfl rfl rfl (y_field rfl Tryd.underlying66 rfl ti3.siz rfl) ?_
  refine Run.op rfl rfl rfl (y_load rfl Tryd.underlying3 rfl) ?_
  refine Run.op rfl rfl rfl (y_shl (r := ((2 ^ k : Nat) : Int)) rfl rfl (by omega) (shl1 (by omega))) ?_
  refine Run.op rfl rfl rfl (y_move rfl) ?_
  refine Run.nil ?_
  refine Run.nT ?_
  refine Run.block ?_
  refine Run.loopK (ι := Nat) (fun i => i ≤ 2 ^ k) (fun i => 2 ^ k - i) (fun i => [(12, .obj b12 (mobj kstr gi (balM (fun i => key8 t cs i [(1, 0), (1, 1)]) (fun i => key8 t cs i [(1, 2), (1, 3)]) i)))]) [3, 4, 5, 6, 7, 15] (fun i => [(16, i64 i)]) 0 (by omega) rfl (Incl.same (t := 16) rfl (Incl.pick [3, 4, 5, 6, 7, 15])) ?_
  rintro i hi
  refine Run.seq ?_
  refine Run.region ?_
  refine Run.op rfl rfl rfl (y_lss rfl rfl) ?_
  refine Run.nil ?_
  refine Run.nT ?_
  refine Run.seq ?_
  refine Run.cond rfl (fun hb => ?_) (fun hb => ?_)
  · have hil : i < 2 ^ k := by have := of_decide_eq_true hb; omega
    refine Run.skip ?_
    refine Run.nT ?_
    refine Run.seq ?_
    refine Run.block ?_
    refine Run.seq ?_
    refine Run.region ?_
    refine Run.op rfl rfl rfl (y_move rfl) ?_
    refine Run.op rfl rfl rfl (y_assign rfl) ?_
    refine Run.nil ?_
    refine Run.nT ?_
    refine Run.seq ?_
    refine Run.region ?_
    refine Run.op rfl rfl rfl (y_field rfl Tryd.underlying133 rfl ti131.siz rfl) ?_
    refine Run.op rfl rfl rfl (y_load rfl Tryd.underlying131 rfl) ?_
    refine Run.op rfl rfl rfl (y_lenS rfl Tryd.underlying131) ?_
    refine Run.op rfl rfl rfl (y_move rfl) ?_
    refine Run.nil ?_
    refine Run.nT ?_
    refine Run.block ?_
    refine Run.loopK (ι := Nat) (fun j => j ≤ 1) (fun j => 1 - j) (fun j => [(12, .obj b12 (mobj kstr gi (if j = 0 then balM (fun i => key8 t cs i [(1, 0), (1, 1)]) (fun i => key8 t cs i [(1, 2), (1, 3)]) i else balM (fun i => key8 t cs i [(1, 0), (1, 1)]) (fun i => key8 t cs i [(1, 2), (1, 3)]) (i + 1))))]) [16, 3, 4, 5, 6, 7, 15, 8, 21] (fun j => [(22, i64 j)]) 0 (by omega) rfl (Incl.same (t := 22) rfl (Incl.pick [16, 3, 4, 5, 6, 7, 15, 8, 21])) ?_
    rintro j hj
    refine Run.seq ?_
    refine Run.region ?_
    refine Run.op rfl rfl rfl (y_lss rfl rfl) ?_
    refine Run.nil ?_
    refine Run.nT ?_
    refine Run.seq ?_
    refine Run.cond rfl (fun hb => ?_) (fun hb => ?_)
    · obtain rfl : j = 0 := by have : (j : Int) < 1 := of_decide_eq_true hb; omega
      have hb1 := bal_bnd (fun i => key8 t cs i [(1, 0), (1, 1)]) (fun i => key8 t cs i [(1, 2), (1, 3)]) i (key8 t cs i [(1, 0), (1, 1)])
      have hb2 := bal_bnd2 (fun i => key8 t cs i [(1, 0), (1, 1)]) (fun i => key8 t cs i [(1, 2), (1, 3)]) i (key8 t cs i [(1, 2), (1, 3)])
      refine Run.own (t := 12) (e' := .obj b12 (mobj kstr gi (balM (fun i => key8 t cs i [(1, 0), (1, 1)]) (fun i => key8 t cs i [(1, 2), (1, 3)]) i))) rfl rfl ?_
      refine Run.skip ?_
      refine Run.nT ?_
      refine Run.seq ?_
      refine Run.block ?_
      refine Run.seq ?_
      refine Run.region ?_
      refine Run.op rfl rfl rfl (y_move rfl) ?_
      refine Run.op rfl rfl rfl (y_assign rfl) ?_
      refine Run.nil ?_
      refine Run.nT ?_
      refine Run.seq ?_
      refine Run.weaken (Incl.same (t := 22) rfl (Incl.same (t := 16) rfl (Incl.same (t := 3) rfl (Incl.same (t := 4) rfl (Incl.same (t := 5) rfl (Incl.same (t := 6) rfl (Incl.same (t := 7) rfl (Incl.same (t := 15) rfl (Incl.same (t := 8) rfl (Incl.same (t := 21) rfl (Incl.same (t := 9) rfl Incl.nil))))))))))) ?_
      refine q_draw ?_ rfl
      refine Draw.step rfl rfl rfl (StepOk.op rfl rfl rfl (y_move rfl)) rfl ?_
      refine Draw.step rfl rfl rfl (StepOk.op rfl rfl rfl (y_loadW rfl Tryd.underlying66 rfl ti66.siz)) rfl ?_
      refine Draw.step rfl rfl rfl (StepOk.op rfl rfl rfl (y_loadW rfl Tryd.underlying68 rfl ti68.siz)) rfl ?_
      refine Draw.step rfl rfl rfl (StepOk.op rfl rfl rfl (y_move rfl)) rfl ?_
      refine Draw.step rfl rfl rfl (StepOk.op rfl rfl rfl (y_field rfl Tryd.underlying133 rfl ti131.siz rfl)) rfl ?_
      refine Draw.step rfl rfl rfl (StepOk.op rfl rfl rfl (y_load rfl Tryd.underlying131 rfl)) rfl ?_
      refine Draw.step rfl rfl rfl (StepOk.op rfl rfl rfl (y_move rfl)) rfl ?_
      refine Draw.step rfl rfl rfl (StepOk.op rfl rfl rfl (q_index (0) ([(1, 0), (1, 1)]) rfl rfl Tryd.underlying131 ti130 (fun _ => rfl) (rfl) (rfl))) rfl ?_
      refine Draw.step rfl rfl rfl (StepOk.op rfl rfl rfl (y_load rfl Tryd.underlying130 rfl)) rfl ?_
      refine Draw.step rfl rfl rfl (StepOk.op rfl rfl rfl (q_call en161 rfl (key_fn s k t cs i (2 ^ k) hil ht h97 hcs hc [(1, 0), (1, 1)] (by simp [vok]) (by simp)))) rfl ?_
      refine Draw.step rfl rfl rfl (StepOk.op rfl rfl rfl (y_mget 12 (key8 t cs i [(1, 0), (1, 1)]) (0) rfl rfl rfl Tryd.underlying171 Tryd.underlying9 ti3)) rfl ?_
      refine Draw.step rfl rfl rfl (StepOk.op rfl rfl rfl (y_add rfl rfl (by first | exact wI_in (by omega) | rfl))) rfl ?_
      refine Draw.tail (m := 12) rfl rfl rfl ?_
      refine Run.mset 12 (key8 t cs i [(1, 0), (1, 1)]) (_) rfl rfl rfl rfl Tryd.underlying171 Tryd.underlying9 ?_
      refine Run.nil ?_
      refine Run.nT ?_
      refine Run.weaken (Incl.same (t := 22) rfl (Incl.same (t := 16) rfl (Incl.same (t := 3) rfl (Incl.same (t := 4) rfl (Incl.same (t := 5) rfl (Incl.same (t := 6) rfl (Incl.same (t := 7) rfl (Incl.same (t := 15) rfl (Incl.same (t := 8) rfl (Incl.same (t := 21) rfl (Incl.same (t := 9) rfl Incl.nil))))))))))) ?_
      refine q_draw ?_ rfl
      refine Draw.step rfl rfl rfl (StepOk.op rfl rfl rfl (y_move rfl)) rfl ?_
      refine Draw.step rfl rfl rfl (StepOk.op rfl rfl rfl (y_loadW rfl Tryd.underlying66 rfl ti66.siz)) rfl ?_
      refine Draw.step rfl rfl rfl (StepOk.op rfl rfl rfl (y_loadW rfl Tryd.underlying68 rfl ti68.siz)) rfl ?_
      refine Draw.step rfl rfl rfl (StepOk.op rfl rfl rfl (y_move rfl)) rfl ?_
      refine Draw.step rfl rfl rfl (StepOk.op rfl rfl rfl (y_field rfl Tryd.underlying133 rfl ti131.siz rfl)) rfl ?_
      refine Draw.step rfl rfl rfl (StepOk.op rfl rfl rfl (y_load rfl Tryd.underlying131 rfl)) rfl ?_
      refine Draw.step rfl rfl rfl (StepOk.op rfl rfl rfl (y_move rfl)) rfl ?_
      refine Draw.step rfl rfl rfl (StepOk.op rfl rfl rfl (q_index (0) ([(1, 2), (1, 3)]) rfl rfl Tryd.underlying131 ti130 (fun _ => rfl) (rfl) (rfl))) rfl ?_
      refine Draw.step rfl rfl rfl (StepOk.op rfl rfl rfl (y_load rfl Tryd.underlying130 rfl)) rfl ?_
      refine Draw.step rfl rfl rfl (StepOk.op rfl rfl rfl (q_call en161 rfl (key_fn s k t cs i (2 ^ k) hil ht h97 hcs hc [(1, 2), (1, 3)] (by simp [vok]) (by simp)))) rfl ?_
      refine Draw.step rfl rfl rfl (StepOk.op rfl rfl rfl (y_mget 12 (key8 t cs i [(1, 2), (1, 3)]) (0) rfl rfl rfl Tryd.underlying171 Tryd.underlying9 ti3)) rfl ?_
      refine Draw.step rfl rfl rfl (StepOk.op rfl rfl rfl (y_sub rfl rfl (by first | exact wI_in (by omega) | rfl))) rfl ?_
      refine Draw.tail (m := 12) rfl rfl rfl ?_
      refine Run.mset 12 (key8 t cs i [(1, 2), (1, 3)]) (_) rfl rfl rfl rfl Tryd.underlying171 Tryd.underlying9 ?_
      refine Run.nil ?_
      refine Run.nB ?_
      refine Run.nT ?_
      refine Run.region ?_
      refine Run.op rfl rfl rfl (y_add rfl rfl (by first | exact wI_in (by omega) | rfl)) ?_
      refine Run.op rfl rfl rfl (y_move rfl) ?_
      refine Run.nil ?_
      refine Run.nT ?_
      refine Run.round (0 + 1) ?_ ?_ ?_ ?_
      · show 0 + 1 ≤ 1; omega
      · show 1 - (0 + 1) < 1 - 0; omega
      · rfl
      · exact (Incl.same (t := 22) rfl (Incl.same (t := 16) rfl (Incl.same (t := 3) rfl (Incl.same (t := 4) rfl (Incl.same (t := 5) rfl (Incl.same (t := 6) rfl (Incl.same (t := 7) rfl (Incl.same (t := 15) rfl (Incl.same (t := 8) rfl (Incl.same (t := 21) rfl Incl.nil))))))))))
    · obtain rfl : j = 1 := by have : ¬ (j : Int) < 1 := of_decide_eq_false hb; omega
      refine Run.exit ?_
      refine Run.eT ?_
      refine Run.eT ?_
      refine Run.eB ?_
      refine Run.nB ?_
      refine Run.nT ?_
      refine Run.region ?_
      refine Run.op rfl rfl rfl (y_add rfl rfl (by first | exact wI_in (by omega) | rfl)) ?_
      refine Run.op rfl rfl rfl (y_move rfl) ?_
      refine Run.nil ?_
      refine Run.nT ?_
      refine Run.round (i + 1) ?_ ?_ ?_ ?_
      · show i + 1 ≤ 2 ^ k; omega
      · show 2 ^ k - (i + 1) < 2 ^ k - i; omega
      · rfl
      · exact (Incl.int (t := 16) rfl (by omega) (Incl.same (t := 3) rfl (Incl.same (t := 4) rfl (Incl.same (t := 5) rfl (Incl.same (t := 6) rfl (Incl.same (t := 7) rfl (Incl.same (t := 15) rfl Incl.nil)))))))
  · obtain rfl : i = 2 ^ k := by have := of_decide_eq_false hb; omega
    refine Run.exit ?_
    refine Run.eT ?_
    refine Run.eT ?_
    refine Run.eB ?_
    refine Run.nT ?_
    refine Run.seq ?_
    refine Run.seq ?_
    refine Run.region ?_
    refine Run.op rfl rfl rfl (y_move rfl) ?_
    refine Run.mrange 12 rfl rfl Tryd.underlying171 rfl ?_
    intro r52
    refine Run.nil ?_
    refine Run.nT ?_
    refine Run.block ?_
    refine Run.loopK (ι := List Nat) (fun s_ => metZ (balM (fun i => key8 t cs i [(1, 0), (1, 1)]) (fun i => key8 t cs i [(1, 2), (1, 3)]) (2 ^ k)) s_) (fun s_ => (balM (fun i => key8 t cs i [(1, 0), (1, 1)]) (fun i => key8 t cs i [(1, 2), (1, 3)]) (2 ^ k)).length - s_.length) (fun s_ => [(52, .obj r52 (.mapIter (some b12) (balM (fun i => key8 t cs i [(1, 0), (1, 1)]) (fun i => key8 t cs i [(1, 2), (1, 3)]) (2 ^ k)).length s_.toArray (balM (fun i => key8 t cs i [(1, 0), (1, 1)]) (fun i => key8 t cs i [(1, 2), (1, 3)]) (2 ^ k)).length))]) [52] (fun s_ => []) [] ⟨by simp, fun j hj => by simp at hj⟩ rfl (Incl.pick [52]) ?_
    rintro s_ hI
    refine Run.seq ?_
    refine Run.region ?_
    refine Run.mnext 12 52 rfl rfl rfl rfl (fun i_ kk vv hkv hni => ?_) (fun hall => ?_)
    · skip
      refine Run.op rfl rfl rfl (y_extract rfl rfl) ?_
      refine Run.nil ?_
      refine Run.nT ?_
      refine Run.seq ?_
      refine Run.cond1 rfl ?_
      refine Run.skip ?_
      refine Run.nT ?_
      refine Run.block ?_
      refine Run.seq ?_
      refine Run.region ?_
      refine Run.op rfl rfl rfl (y_mentry 12 52 rfl rfl rfl hkv) ?_
      refine Run.op rfl rfl rfl (y_extract rfl rfl) ?_
      refine Run.op rfl rfl rfl (y_assign rfl) ?_
      refine Run.nil ?_
      refine Run.nT ?_
      refine Run.seq ?_
      refine Run.region ?_
      refine Run.op rfl rfl rfl (y_move rfl) ?_
      refine Run.op rfl rfl rfl (y_neq rfl rfl) ?_
      refine Run.nil ?_
      refine Run.nT ?_
      refine Run.cond rfl (fun hb => ?_) (fun hb => ?_)
      · have hz : vv ≠ 0 := by simpa using hb
        refine Run.seq ?_
        refine Run.region ?_
        refine Run.op rfl rfl rfl (y_assign rfl) ?_
        refine Run.nil ?_
        refine Run.nT ?_
        refine Run.ret ?_
        refine Run.rB ?_
        refine Run.rT ?_
        refine Run.rB ?_
        refine Run.rT ?_
        refine Run.fin1 rfl rfl rfl (.tmp rfl) (fun _ _ h => ?_)
        rw [show balB t cs (2 ^ k) = false from allZ_not hkv hz]
        exact h
      · have hz : vv = 0 := by simpa using hb
        refine Run.skip ?_
        refine Run.nB ?_
        refine Run.nT ?_
        refine Run.round (s_ ++ [i_]) ?_ ?_ ?_ ?_
        · exact (metZ_snoc hI hkv hni hz).1
        · exact (metZ_snoc hI hkv hni hz).2
        · rfl
        · exact (Incl.same (t := 52) rfl Incl.nil)
    · skip
      refine Run.op rfl rfl rfl (y_extract rfl rfl) ?_
      refine Run.nil ?_
      refine Run.nT ?_
      refine Run.seq ?_
      refine Run.cond0 rfl ?_
      refine Run.exit ?_
      refine Run.eT ?_
      refine Run.eT ?_
      refine Run.eB ?_
      refine Run.nT ?_
      refine Run.seq ?_
      refine Run.region ?_
      refine Run.op rfl rfl rfl (y_assign rfl) ?_
      refine Run.nil ?_
      refine Run.nT ?_
      refine Run.ret ?_
      refine Run.fin1 rfl rfl rfl (.tmp rfl) (fun _ _ h => ?_)
      rw [show balB t cs (2 ^ k) = true from metZ_all hI hall]
      exact h

theorem cntB_none {t : List Int} {cs : List (List Int)} {N : Nat} {i : Nat} {m : Cnt} (hi : i < N) (h : lessM (fun i => key8 t cs i [(1, 4)]) (cntM (fun i => key8 t cs i [(3, 0)]) (fun i => (cs.getD 5 []).getD i 0) N) i = some m) (hn : (mget m (key8 t cs i [(1, 4)])).isSome = false) : cntB t cs N = false := by
  have h1 : lessM (fun i => key8 t cs i [(1, 4)]) (cntM (fun i => key8 t cs i [(3, 0)]) (fun i => (cs.getD 5 []).getD i 0) N) (i + 1) = none := by
    unfold lessM
    rw [h]
    simp only
    cases hm : mget m (key8 t cs i [(1, 4)]) with
    | none => rfl
    | some v => rw [hm] at hn; cases hn
  unfold cntB
  rw [lessM_none h1 N (by omega)]
theorem lessM_succ {ke : Nat → List UInt8} {m0 m : Cnt} {i : Nat} (h : lessM ke m0 i = some m) (hs : (mget m (ke i)).isSome = true) : lessM ke m0 (i + 1) = some (mset m (ke i) (((mget m (ke i)).getD 0 - 1) % 97)) := by
  unfold lessM
  rw [h]
  simp only
  cases hm : mget m (ke i) with
  | none => rw [hm] at hs; cases hs
  | some v => rfl

section
variable [hF : HasF s]

theorem counted_fn (k : Nat) (hk : 1 ≤ k ∧ k ≤ 3) (t : List Int) (ht : t.length = 2 ^ k) (h97 : in97 t) (cs : List (List Int)) (hcs : cs.length = 6) (hc : ∀ c ∈ cs, c.length = 2 ^ k ∧ in97 c) : Fn s.env 122 [sagg (Ksys k t), sagg (Ktr cs), sagg (Klo look14)] (sbool (cntB t cs (2 ^ k))) := by
  have hp8 := pow2_le (k := k) (m := 3) (by omega)
  have hp8 : 2 ^ k ≤ 8 := hp8
  have hcm := getD_mem (cs := cs) (j := 5) (by omega)
  refine Fn.of Tryd.func122 rfl Tryd.ntmps122 rfl ?_
  intro w0 F0
  refine Run.seq ?_
  refine Run.region ?_
  refine Run.boxA rfl rfl ?_
  intro b3
  refine Run.freezeB 3 3 rfl rfl ?_
  refine Run.boxA rfl rfl ?_
  intro b4
  refine Run.freezeB 4 4 rfl rfl ?_
  refine Run.boxA rfl rfl ?_
  intro b5
  refine Run.freezeB 5 5 rfl rfl ?_
  refine Run.op rfl rfl rfl (y_assign rfl) ?_
  refine Run.nil ?_
  refine Run.nT ?_
  refine Run.seq ?_
  refine Run.region ?_
  refine Run.makeMap kstr gu rfl ?_
  intro b16
  refine Run.op rfl rfl rfl (y_assign rfl) ?_
  refine Run.nil ?_
  refine Run.nT ?_
  refine Run.seq ?_
  refine Run.seq ?_
  refine Run.region ?_
  refine Run.op rfl rfl rfl (y_field rfl Tryd.underlying66 rfl ti3.siz rfl) ?_
  refine Run.op rfl rfl rfl (y_load rfl Tryd.underlying3 rfl) ?_
  refine Run.op rfl rfl rfl (y_shl (r := ((2 ^ k : Nat) : Int)) rfl rfl (by omega) (shl1 (by omega))) ?_
  refine Run.op rfl rfl rfl (y_move rfl) ?_
  refine Run.nil ?_
  refine Run.nT ?_
  refine Run.block ?_
  refine Run.loopK (ι := Nat) (fun i => i ≤ 2 ^ k) (fun i => 2 ^ k - i) (fun i => [(16, .obj b16 (mobj kstr gu (cntM (fun i => key8 t cs i [(3, 0)]) (fun i => (cs.getD 5 []).getD i 0) i)))]) [3, 4, 5, 6, 7, 19] (fun i => [(20, i64 i)]) 0 (by omega) rfl (Incl.same (t := 20) rfl (Incl.pick [3, 4, 5, 6, 7, 19])) ?_
  rintro i hi
  refine Run.seq ?_
  refine Run.region ?_
  refine Run.op rfl rfl rfl (y_lss rfl rfl) ?_
  refine Run.nil ?_
  refine Run.nT ?_
  refine Run.seq ?_
  refine Run.cond rfl (fun hb => ?_) (fun hb => ?_)
  · have hil : i < 2 ^ k := by have := of_decide_eq_true hb; omega
    have hb1 := cnt_bnd (fun i => key8 t cs i [(3, 0)]) (fun i => (cs.getD 5 []).getD i 0) i (key8 t cs i [(3, 0)])
    have hic : i < (cs.getD 5 []).length := by rw [(hc _ hcm).1]; exact hil
    have hx := in97_get (hc _ hcm).2 hic
    refine Run.skip ?_
    refine Run.nT ?_
    refine Run.seq ?_
    refine Run.block ?_
    refine Run.seq ?_
    refine Run.region ?_
    refine Run.op rfl rfl rfl (y_move rfl) ?_
    refine Run.op rfl rfl rfl (y_assign rfl) ?_
    refine Run.nil ?_
    refine Run.nT ?_
    refine Run.seq ?_
    refine Run.region ?_
    refine Run.op rfl rfl rfl (y_loadW rfl Tryd.underlying66 rfl ti66.siz) ?_
    refine Run.op rfl rfl rfl (y_loadW rfl Tryd.underlying68 rfl ti68.siz) ?_
    refine Run.op rfl rfl rfl (y_move rfl) ?_
    refine Run.op rfl rfl rfl (y_field rfl Tryd.underlying135 rfl ti130.siz rfl) ?_
    refine Run.op rfl rfl rfl (y_load rfl Tryd.underlying130 rfl) ?_
    refine Run.op rfl rfl rfl (q_call en161 rfl (key_fn s k t cs i (2 ^ k) hil ht h97 hcs hc [(3, 0)] (by simp [vok]) (by simp))) ?_
    refine Run.op rfl rfl rfl (y_assign rfl) ?_
    refine Run.nil ?_
    refine Run.nT ?_
    refine Run.weaken (Incl.same (t := 20) rfl (Incl.same (t := 3) rfl (Incl.same (t := 4) rfl (Incl.same (t := 5) rfl (Incl.same (t := 6) rfl (Incl.same (t := 7) rfl (Incl.same (t := 19) rfl (Incl.same (t := 8) rfl (Incl.same (t := 9) rfl Incl.nil))))))))) ?_
    refine q_draw ?_ rfl
    refine Draw.step rfl rfl rfl (StepOk.op rfl rfl rfl (y_move rfl)) rfl ?_
    refine Draw.step rfl rfl rfl (StepOk.op rfl rfl rfl (y_move rfl)) rfl ?_
    refine Draw.step rfl rfl rfl (StepOk.op rfl rfl rfl (y_field rfl Tryd.underlying66 rfl ti3.siz rfl)) rfl ?_
    refine Draw.step rfl rfl rfl (StepOk.op rfl rfl rfl (y_load rfl Tryd.underlying3 rfl)) rfl ?_
    refine Draw.step rfl rfl rfl (StepOk.op rfl rfl rfl (y_move rfl)) rfl ?_
    refine Draw.step rfl rfl rfl (StepOk.op rfl rfl rfl (y_move rfl)) rfl ?_
    refine Draw.step rfl rfl rfl (StepOk.op rfl rfl rfl (y_mget 16 (key8 t cs i [(3, 0)]) (0) rfl rfl rfl Tryd.underlying230 Tryd.underlying9 ti33)) rfl ?_
    refine Draw.step rfl rfl rfl (StepOk.op rfl rfl rfl (y_field rfl Tryd.underlying68 rfl ti61.siz rfl)) rfl ?_
    refine Draw.step rfl rfl rfl (StepOk.op rfl rfl rfl (y_load rfl Tryd.underlying61 rfl)) rfl ?_
    refine Draw.step rfl rfl rfl (StepOk.op rfl rfl rfl (y_field rfl Tryd.underlying135 rfl ti128.siz rfl)) rfl ?_
    refine Draw.step rfl rfl rfl (StepOk.op rfl rfl rfl (y_field rfl Tryd.underlying128 rfl ti3.siz rfl)) rfl ?_
    refine Draw.step rfl rfl rfl (StepOk.op rfl rfl rfl (y_load rfl Tryd.underlying3 rfl)) rfl ?_
    refine Draw.step rfl rfl rfl (StepOk.op rfl rfl rfl (q_index (5) (cs.getD 5 []) rfl rfl Tryd.underlying61 ti29 (fun _ => rfl) (rfl) (getDl_at (by omega)))) rfl ?_
    refine Draw.step rfl rfl rfl (StepOk.op rfl rfl rfl (y_load rfl Tryd.underlying29 rfl)) rfl ?_
    refine Draw.step rfl rfl rfl (StepOk.op rfl rfl rfl (y_move rfl)) rfl ?_
    refine Draw.step rfl rfl rfl (StepOk.op rfl rfl rfl (q_index (i) (_) rfl rfl Tryd.underlying29 ti33 (fun _ => rfl) (rfl) (getD_at hic))) rfl ?_
    refine Draw.step rfl rfl rfl (StepOk.op rfl rfl rfl (y_load rfl Tryd.underlying33 rfl)) rfl ?_
    refine Draw.step rfl rfl rfl (StepOk.op rfl rfl rfl (q_call en106 rfl (Add_fn s 0 _ _ rfl hb1.1 hx.1))) rfl ?_
    refine Draw.tail (m := 18) rfl rfl rfl ?_
    refine Run.mset 16 (key8 t cs i [(3, 0)]) (((mget (cntM (fun i => key8 t cs i [(3, 0)]) (fun i => (cs.getD 5 []).getD i 0) i) (key8 t cs i [(3, 0)])).getD 0 + (cs.getD 5 []).getD i 0) % 97) rfl rfl rfl rfl Tryd.underlying230 Tryd.underlying9 ?_
    refine Run.nil ?_
    refine Run.nB ?_
    refine Run.nT ?_
    refine Run.region ?_
    refine Run.op rfl rfl rfl (y_add rfl rfl (by first | exact wI_in (by omega) | rfl)) ?_
    refine Run.op rfl rfl rfl (y_move rfl) ?_
    refine Run.nil ?_
    refine Run.nT ?_
    refine Run.round (i + 1) ?_ ?_ ?_ ?_
    · show i + 1 ≤ 2 ^ k; omega
    · show 2 ^ k - (i + 1) < 2 ^ k - i; omega
    · rfl
    · exact (Incl.int (t := 20) rfl (by omega) (Incl.same (t := 3) rfl (Incl.same (t := 4) rfl (Incl.same (t := 5) rfl (Incl.same (t := 6) rfl (Incl.same (t := 7) rfl (Incl.same (t := 19) rfl Incl.nil)))))))
  · obtain rfl : i = 2 ^ k := by have := of_decide_eq_false hb; omega
    refine Run.exit ?_
    refine Run.eT ?_
    refine Run.eT ?_
    refine Run.eB ?_
    refine Run.nT ?_
    refine Run.seq ?_
    refine Run.seq ?_
    refine Run.region ?_
    refine Run.op rfl rfl rfl (y_field rfl Tryd.underlying66 rfl ti3.siz rfl) ?_
    refine Run.op rfl rfl rfl (y_load rfl Tryd.underlying3 rfl) ?_
    refine Run.op rfl rfl rfl (y_shl (r := ((2 ^ k : Nat) : Int)) rfl rfl (by omega) (shl1 (by omega))) ?_
    refine Run.op rfl rfl rfl (y_move rfl) ?_
    refine Run.nil ?_
    refine Run.nT ?_
    refine Run.block ?_
    refine Run.loopK (ι := Nat × Cnt) (fun ⟨i, m⟩ => i ≤ 2 ^ k ∧ lessM (fun i => key8 t cs i [(1, 4)]) (cntM (fun i => key8 t cs i [(3, 0)]) (fun i => (cs.getD 5 []).getD i 0) (2 ^ k)) i = some m) (fun ⟨i, m⟩ => 2 ^ k - i) (fun ⟨i, m⟩ => [(16, .obj b16 (mobj kstr gu m))]) [3, 4, 5, 7, 50] (fun ⟨i, m⟩ => [(51, i64 i)]) (0, (cntM (fun i => key8 t cs i [(3, 0)]) (fun i => (cs.getD 5 []).getD i 0) (2 ^ k))) ⟨by omega, rfl⟩ rfl (Incl.same (t := 51) rfl (Incl.pick [3, 4, 5, 7, 50])) ?_
    rintro ⟨i, m⟩ ⟨hi, hm⟩
    refine Run.seq ?_
    refine Run.region ?_
    refine Run.op rfl rfl rfl (y_lss rfl rfl) ?_
    refine Run.nil ?_
    refine Run.nT ?_
    refine Run.seq ?_
    refine Run.cond rfl (fun hb => ?_) (fun hb => ?_)
    · have hil : i < 2 ^ k := by have := of_decide_eq_true hb; omega
      have hb2 := less_bnd (cntM_keys (fun i => key8 t cs i [(3, 0)]) (fun i => (cs.getD 5 []).getD i 0) (2 ^ k)) (fun q => cnt_bnd (fun i => key8 t cs i [(3, 0)]) (fun i => (cs.getD 5 []).getD i 0) (2 ^ k) q) hm (key8 t cs i [(1, 4)])
      refine Run.skip ?_
      refine Run.nT ?_
      refine Run.seq ?_
      refine Run.block ?_
      refine Run.seq ?_
      refine Run.region ?_
      refine Run.op rfl rfl rfl (y_move rfl) ?_
      refine Run.op rfl rfl rfl (y_assign rfl) ?_
      refine Run.nil ?_
      refine Run.nT ?_
      refine Run.seq ?_
      refine Run.region ?_
      refine Run.op rfl rfl rfl (y_loadW rfl Tryd.underlying66 rfl ti66.siz) ?_
      refine Run.op rfl rfl rfl (y_loadW rfl Tryd.underlying68 rfl ti68.siz) ?_
      refine Run.op rfl rfl rfl (y_move rfl) ?_
      refine Run.op rfl rfl rfl (y_field rfl Tryd.underlying135 rfl ti130.siz rfl) ?_
      refine Run.op rfl rfl rfl (y_load rfl Tryd.underlying130 rfl) ?_
      refine Run.op rfl rfl rfl (q_call en161 rfl (key_fn s k t cs i (2 ^ k) hil ht h97 hcs hc [(1, 4)] (by simp [vok]) (by simp))) ?_
      refine Run.op rfl rfl rfl (y_assign rfl) ?_
      refine Run.nil ?_
      refine Run.nT ?_
      refine Run.seq ?_
      refine Run.region ?_
      refine Run.op rfl rfl rfl (y_move rfl) ?_
      refine Run.op rfl rfl rfl (y_move rfl) ?_
      refine Run.op rfl rfl rfl (y_mgetOk 16 (key8 t cs i [(1, 4)]) (0) rfl rfl rfl Tryd.underlying230 Tryd.underlying9 ti33) ?_
      refine Run.op rfl rfl rfl (y_move rfl) ?_
      refine Run.op rfl rfl rfl (y_extract rfl rfl) ?_
      refine Run.op rfl rfl rfl (y_extract rfl rfl) ?_
      refine Run.op rfl rfl rfl (y_assign rfl) ?_
      refine Run.op rfl rfl rfl (y_assign rfl) ?_
      refine Run.nil ?_
      refine Run.nT ?_
      refine Run.seq ?_
      refine Run.seq ?_
      refine Run.region ?_
      refine Run.op rfl rfl rfl (y_move rfl) ?_
      refine Run.op rfl rfl rfl (y_not rfl) ?_
      refine Run.nil ?_
      refine Run.nT ?_
      refine Run.cond rfl (fun hb => ?_) (fun hb => ?_)
      · have hs1 : (mget m (key8 t cs i [(1, 4)])).isSome = false := by simpa using hb
        refine Run.seq ?_
        refine Run.region ?_
        refine Run.op rfl rfl rfl (y_assign rfl) ?_
        refine Run.nil ?_
        refine Run.nT ?_
        refine Run.ret ?_
        refine Run.rT ?_
        refine Run.rB ?_
        refine Run.rT ?_
        refine Run.rT ?_
        refine Run.rB ?_
        refine Run.rT ?_
        refine Run.fin1 rfl rfl rfl (.tmp rfl) (fun _ _ h => ?_)
        rw [cntB_none hil hm hs1]
        exact h
      · have hs1 : (mget m (key8 t cs i [(1, 4)])).isSome = true := by simpa using hb
        refine Run.skip ?_
        refine Run.nT ?_
        refine Run.region ?_
        refine Run.op rfl rfl rfl (y_move rfl) ?_
        refine Run.op rfl rfl rfl (y_move rfl) ?_
        refine Run.op rfl rfl rfl (y_field rfl Tryd.underlying66 rfl ti3.siz rfl) ?_
        refine Run.op rfl rfl rfl (y_load rfl Tryd.underlying3 rfl) ?_
        refine Run.op rfl rfl rfl (y_move rfl) ?_
        refine Run.op rfl rfl rfl (q_call en93 rfl (Sub_fn s 0 _ _ rfl hb2.1 (by omega))) ?_
        refine Run.mset 16 (key8 t cs i [(1, 4)]) (((mget m (key8 t cs i [(1, 4)])).getD 0 - 1) % 97) rfl rfl rfl rfl Tryd.underlying230 Tryd.underlying9 ?_
        refine Run.nil ?_
        refine Run.nB ?_
        refine Run.nT ?_
        refine Run.region ?_
        refine Run.op rfl rfl rfl (y_add rfl rfl (by first | exact wI_in (by omega) | rfl)) ?_
        refine Run.op rfl rfl rfl (y_move rfl) ?_
        refine Run.nil ?_
        refine Run.nT ?_
        refine Run.round (i + 1, mset m (key8 t cs i [(1, 4)]) (((mget m (key8 t cs i [(1, 4)])).getD 0 - 1) % 97)) ?_ ?_ ?_ ?_
        · exact ⟨by omega, lessM_succ hm hs1⟩
        · show 2 ^ k - (i + 1) < 2 ^ k - i; omega
        · rfl
        · exact (Incl.int (t := 51) rfl (by omega) (Incl.same (t := 3) rfl (Incl.same (t := 4) rfl (Incl.same (t := 5) rfl (Incl.same (t := 7) rfl (Incl.same (t := 50) rfl Incl.nil))))))
    · obtain rfl : i = 2 ^ k := by have := of_decide_eq_false hb; omega
      refine Run.exit ?_
      refine Run.eT ?_
      refine Run.eT ?_
      refine Run.eB ?_
      refine Run.nT ?_
      refine Run.seq ?_
      refine Run.seq ?_
      refine Run.region ?_
      refine Run.op rfl rfl rfl (y_move rfl) ?_
      refine Run.mrange 16 rfl rfl Tryd.underlying230 rfl ?_
      intro r76
      refine Run.nil ?_
      refine Run.nT ?_
      refine Run.block ?_
      refine Run.loopK (ι := List Nat) (fun s_ => metZ (m) s_) (fun s_ => (m).length - s_.length) (fun s_ => [(76, .obj r76 (.mapIter (some b16) (m).length s_.toArray (m).length))]) [76] (fun s_ => []) [] ⟨by simp, fun j hj => by simp at hj⟩ rfl (Incl.pick [76]) ?_
      rintro s_ hI
      refine Run.seq ?_
      refine Run.region ?_
      refine Run.mnext 16 76 rfl rfl rfl rfl (fun i_ kk vv hkv hni => ?_) (fun hall => ?_)
      · skip
        refine Run.op rfl rfl rfl (y_extract rfl rfl) ?_
        refine Run.nil ?_
        refine Run.nT ?_
        refine Run.seq ?_
        refine Run.cond1 rfl ?_
        refine Run.skip ?_
        refine Run.nT ?_
        refine Run.block ?_
        refine Run.seq ?_
        refine Run.region ?_
        refine Run.op rfl rfl rfl (y_mentry 16 76 rfl rfl rfl hkv) ?_
        refine Run.op rfl rfl rfl (y_extract rfl rfl) ?_
        refine Run.op rfl rfl rfl (y_assign rfl) ?_
        refine Run.nil ?_
        refine Run.nT ?_
        refine Run.seq ?_
        refine Run.region ?_
        refine Run.op rfl rfl rfl (y_move rfl) ?_
        refine Run.op rfl rfl rfl (y_neq rfl rfl) ?_
        refine Run.nil ?_
        refine Run.nT ?_
        refine Run.cond rfl (fun hb => ?_) (fun hb => ?_)
        · have hz : vv ≠ 0 := by simpa using hb
          refine Run.seq ?_
          refine Run.region ?_
          refine Run.op rfl rfl rfl (y_assign rfl) ?_
          refine Run.nil ?_
          refine Run.nT ?_
          refine Run.ret ?_
          refine Run.rB ?_
          refine Run.rT ?_
          refine Run.rB ?_
          refine Run.rT ?_
          refine Run.fin1 rfl rfl rfl (.tmp rfl) (fun _ _ h => ?_)
          rw [show cntB t cs (2 ^ k) = false by unfold cntB; rw [hm]; exact allZ_not hkv hz]
          exact h
        · have hz : vv = 0 := by simpa using hb
          refine Run.skip ?_
          refine Run.nB ?_
          refine Run.nT ?_
          refine Run.round (s_ ++ [i_]) ?_ ?_ ?_ ?_
          · exact (metZ_snoc hI hkv hni hz).1
          · exact (metZ_snoc hI hkv hni hz).2
          · rfl
          · exact (Incl.same (t := 76) rfl Incl.nil)
      · skip
        refine Run.op rfl rfl rfl (y_extract rfl rfl) ?_
        refine Run.nil ?_
        refine Run.nT ?_
        refine Run.seq ?_
        refine Run.cond0 rfl ?_
        refine Run.exit ?_
        refine Run.eT ?_
        refine Run.eT ?_
        refine Run.eB ?_
        refine Run.nT ?_
        refine Run.seq ?_
        refine Run.region ?_
        refine Run.op rfl rfl rfl (y_assign rfl) ?_
        refine Run.nil ?_
        refine Run.nT ?_
        refine Run.ret ?_
        refine Run.fin1 rfl rfl rfl (.tmp rfl) (fun _ _ h => ?_)
        rw [show cntB t cs (2 ^ k) = true by unfold cntB; rw [hm]; exact metZ_all hI hall]
        exact h

def flt (b : Bool) (n : Int) : List (Int × Int) := if b = true then [] else [(n, -1)]
theorem flt_len (b c : Bool) : decide (((flt b 0 ++ flt c 1).length : Int) = 0) = (b && c) := by cases b <;> cases c <;> rfl

theorem faults_fn (k : Nat) (hk : 1 ≤ k ∧ k ≤ 3) (t : List Int) (ht : t.length = 2 ^ k) (h97 : in97 t) (cs : List (List Int)) (hcs : cs.length = 6) (hc : ∀ c ∈ cs, c.length = 2 ^ k ∧ in97 c) : Fn s.env 71 [sagg (Ksys k t), sagg (Ktr cs)] (stup [slc Kfa (flt (balB t cs (2 ^ k)) 0 ++ flt (cntB t cs (2 ^ k)) 1), i64 0]) := by
  have hp8 := pow2_le (k := k) (m := 3) (by omega)
  have hp8 : 2 ^ k ≤ 8 := hp8
  refine Fn.of Tryd.func71 rfl Tryd.ntmps71 rfl ?_
  intro w0 F0
  refine Run.seq ?_
  refine Run.region ?_
  refine Run.boxA rfl rfl ?_
  intro b2
  refine Run.freezeB 2 2 rfl rfl ?_
  refine Run.boxA rfl rfl ?_
  intro b3
  refine Run.freezeB 3 3 rfl rfl ?_
  refine Run.op rfl rfl rfl (y_assign rfl) ?_
  refine Run.op rfl rfl rfl (y_assign rfl) ?_
  refine Run.nil ?_
  refine Run.nT ?_
  refine Run.seq ?_
  refine Run.seq ?_
  refine Run.region ?_
  refine Run.op rfl rfl rfl (y_loadW rfl Tryd.underlying66 rfl ti66.siz) ?_
  refine Run.op rfl rfl rfl (y_loadW rfl Tryd.underlying68 rfl ti68.siz) ?_
  refine Run.op rfl rfl rfl (Yields.bool (c := true) (q_call en117 rfl (fits_fn s k hk t ht h97 cs hcs hc)) (rfl)) ?_
  refine Run.op rfl rfl rfl (y_not rfl) ?_
  refine Run.nil ?_
  refine Run.nT ?_
  refine Run.cond0 rfl ?_
  refine Run.skip ?_
  refine Run.nT ?_
  refine Run.seq ?_
  refine Run.region ?_
  refine Run.op rfl rfl rfl (y_assign rfl) ?_
  refine q_nilRow 6 (Kfa) 191 2 ?_
  refine Run.nil ?_
  refine Run.nT ?_
  refine Run.seq ?_
  refine Run.seq ?_
  refine Run.region ?_
  refine Run.op rfl rfl rfl (y_field rfl Tryd.underlying66 rfl ti62.siz rfl) ?_
  refine Run.op rfl rfl rfl (y_load rfl Tryd.underlying62 rfl) ?_
  refine Run.op rfl rfl rfl (y_lenS rfl Tryd.underlying62) ?_
  refine Run.op rfl rfl rfl (y_move rfl) ?_
  refine Run.nil ?_
  refine Run.nT ?_
  refine Run.block ?_
  refine Run.loopK (ι := Unit) (fun _ => True) (fun _ => 0) (fun _ => []) [2, 3, 4, 5, 23, 24] (fun _ => [(25, i64 0), (6, sval (.slice none 0 0))]) () trivial rfl (Incl.same (t := 25) rfl (Incl.same (t := 6) rfl (Incl.pick [2, 3, 4, 5, 23, 24]))) ?_
  rintro ⟨⟩ _
  refine Run.seq ?_
  refine Run.region ?_
  refine Run.op rfl rfl rfl (Yields.bool (c := false) (y_lss rfl rfl) (rfl)) ?_
  refine Run.nil ?_
  refine Run.nT ?_
  refine Run.seq ?_
  refine Run.cond0 rfl ?_
  refine Run.exit ?_
  refine Run.eT ?_
  refine Run.eT ?_
  refine Run.eB ?_
  refine Run.nT ?_
  refine Run.seq ?_
  refine Run.seq ?_
  refine Run.region ?_
  refine Run.op rfl rfl rfl (y_field rfl Tryd.underlying66 rfl ti63.siz rfl) ?_
  refine Run.op rfl rfl rfl (y_load rfl Tryd.underlying63 rfl) ?_
  refine Run.op rfl rfl rfl (y_lenS rfl Tryd.underlying63) ?_
  refine Run.op rfl rfl rfl (y_move rfl) ?_
  refine Run.nil ?_
  refine Run.nT ?_
  refine Run.block ?_
  refine Run.loopK (ι := Nat × Value × List (Int × Int)) (fun ⟨j, v, l⟩ => j ≤ 1 ∧ (j = 0 → l = []) ∧ (j = 1 → l = flt (balB t cs (2 ^ k)) 0)) (fun ⟨j, v, l⟩ => 1 - j) (fun ⟨j, v, l⟩ => [(6, .rows Kfa v 191 2 l)]) [2, 3, 4, 5, 67, 68] (fun ⟨j, v, l⟩ => [(69, i64 j), (6, sval v)]) (0, .slice none 0 0, []) ⟨by omega, fun _ => rfl, fun h => (by cases h)⟩ rfl (Incl.same (t := 69) rfl (Incl.same (t := 6) rfl (Incl.pick [2, 3, 4, 5, 67, 68]))) ?_
  rintro ⟨j, v, l⟩ ⟨hj, hl0, hl1⟩
  refine Run.seq ?_
  refine Run.region ?_
  refine Run.op rfl rfl rfl (y_lss rfl rfl) ?_
  refine Run.nil ?_
  refine Run.nT ?_
  refine Run.seq ?_
  refine Run.cond rfl (fun hb => ?_) (fun hb => ?_)
  · obtain rfl : j = 0 := by have : (j : Int) < 1 := of_decide_eq_true hb; omega
    obtain rfl := hl0 rfl
    refine Run.skip ?_
    refine Run.nT ?_
    refine Run.seq ?_
    refine Run.block ?_
    refine Run.seq ?_
    refine Run.region ?_
    refine Run.op rfl rfl rfl (y_move rfl) ?_
    refine Run.op rfl rfl rfl (q_index (0) (perm14) rfl rfl Tryd.underlying63 ti133 (fun _ => rfl) (rfl) (rfl)) ?_
    refine Run.op rfl rfl rfl (y_loadW rfl Tryd.underlying133 rfl ti133.siz) ?_
    refine q_alloc ti133 rfl rfl ?_
    intro b15
    refine Run.op rfl rfl rfl (y_assign rfl) ?_
    refine Run.storeW 15 rfl rfl rfl ti133.siz rfl ?_
    refine Run.freezeB 15 15 rfl rfl ?_
    refine Run.nil ?_
    refine Run.nT ?_
    refine Run.seq ?_
    refine Run.region ?_
    refine Run.op rfl rfl rfl (y_loadW rfl Tryd.underlying66 rfl ti66.siz) ?_
    refine Run.op rfl rfl rfl (y_loadW rfl Tryd.underlying68 rfl ti68.siz) ?_
    refine Run.op rfl rfl rfl (y_loadW rfl Tryd.underlying133 rfl ti133.siz) ?_
    refine Run.op rfl rfl rfl (q_call en121 rfl (balanced_fn s k hk t ht h97 cs hcs hc)) ?_
    refine Run.op rfl rfl rfl (y_not rfl) ?_
    refine Run.nil ?_
    refine Run.nT ?_
    refine Run.cond rfl (fun hb => ?_) (fun hb => ?_)
    · have hB : balB t cs (2 ^ k) = false := by simpa using hb
      refine Run.region ?_
      refine Run.op rfl rfl rfl (y_move rfl) ?_
      refine Run.op rfl rfl rfl (y_field rfl Tryd.underlying66 rfl ti62.siz rfl) ?_
      refine Run.op rfl rfl rfl (y_load rfl Tryd.underlying62 rfl) ?_
      refine Run.op rfl rfl rfl (y_lenS rfl Tryd.underlying62) ?_
      refine Run.op rfl rfl rfl (y_move rfl) ?_
      refine Run.op rfl rfl rfl (y_add rfl rfl (by first | exact wI_in (by omega) | rfl)) ?_
      refine Run.op rfl rfl rfl (q_buildS [(0, 1), (1, 1)] Tryd.underlying191 ti191 rfl (fun w => by simp [run_sizeOf ti3.siz]) (.cons rfl (Part.one' rfl) rfl (.cons rfl (Part.one' rfl) rfl .nil))) ?_
      refine Run.op rfl rfl rfl (q_buildL (K := Kfa) ([(0, -1)]) Tryd.underlying136 ti191 rfl rfl rfl (.cons rfl (Part.agg rfl) rfl .nil) rfl) ?_
      refine q_append 6 rfl rfl rfl Tryd.underlying136 ti191 rfl rfl (fun _ => rfl) (by first | omega | (simp; done) | (simp; omega)) rfl ?_
      intro v87
      refine Run.op rfl rfl rfl (y_assign rfl) ?_
      refine Run.nil ?_
      refine Run.nB ?_
      refine Run.nT ?_
      refine Run.region ?_
      refine Run.op rfl rfl rfl (y_add rfl rfl (by first | exact wI_in (by omega) | rfl)) ?_
      refine Run.op rfl rfl rfl (y_move rfl) ?_
      refine Run.nil ?_
      refine Run.nT ?_
      refine Run.round (0 + 1, v87, [] ++ [(0, -1)]) ?_ ?_ ?_ ?_
      · exact ⟨by omega, fun h => (by cases h), fun _ => by unfold flt; rw [hB]; rfl⟩
      · show 1 - (0 + 1) < 1 - 0; omega
      · rfl
      · exact (Incl.same (t := 69) rfl (Incl.same (t := 6) rfl (Incl.same (t := 2) rfl (Incl.same (t := 3) rfl (Incl.same (t := 4) rfl (Incl.same (t := 5) rfl (Incl.same (t := 67) rfl (Incl.same (t := 68) rfl Incl.nil))))))))
    · have hB : balB t cs (2 ^ k) = true := by simpa using hb
      refine Run.skip ?_
      refine Run.nB ?_
      refine Run.nT ?_
      refine Run.region ?_
      refine Run.op rfl rfl rfl (y_add rfl rfl (by first | exact wI_in (by omega) | rfl)) ?_
      refine Run.op rfl rfl rfl (y_move rfl) ?_
      refine Run.nil ?_
      refine Run.nT ?_
      refine Run.round (0 + 1, v, []) ?_ ?_ ?_ ?_
      · exact ⟨by omega, fun h => (by cases h), fun _ => by unfold flt; rw [hB]; rfl⟩
      · show 1 - (0 + 1) < 1 - 0; omega
      · rfl
      · exact (Incl.same (t := 69) rfl (Incl.same (t := 6) rfl (Incl.same (t := 2) rfl (Incl.same (t := 3) rfl (Incl.same (t := 4) rfl (Incl.same (t := 5) rfl (Incl.same (t := 67) rfl (Incl.same (t := 68) rfl Incl.nil))))))))
  · obtain rfl : j = 1 := by have : ¬ (j : Int) < 1 := of_decide_eq_false hb; omega
    obtain rfl := hl1 rfl
    refine Run.exit ?_
    refine Run.eT ?_
    refine Run.eT ?_
    refine Run.eB ?_
    refine Run.nT ?_
    refine Run.seq ?_
    refine Run.seq ?_
    refine Run.region ?_
    refine Run.op rfl rfl rfl (y_field rfl Tryd.underlying66 rfl ti64.siz rfl) ?_
    refine Run.op rfl rfl rfl (y_load rfl Tryd.underlying64 rfl) ?_
    refine Run.op rfl rfl rfl (y_lenS rfl Tryd.underlying64) ?_
    refine Run.op rfl rfl rfl (y_move rfl) ?_
    refine Run.nil ?_
    refine Run.nT ?_
    refine Run.block ?_
    refine Run.loopK (ι := Nat × Value × List (Int × Int)) (fun ⟨j, v, l⟩ => j ≤ 1 ∧ (j = 0 → l = flt (balB t cs (2 ^ k)) 0) ∧ (j = 1 → l = flt (balB t cs (2 ^ k)) 0 ++ flt (cntB t cs (2 ^ k)) 1)) (fun ⟨j, v, l⟩ => 1 - j) (fun ⟨j, v, l⟩ => [(6, .rows Kfa v 191 2 l)]) [2, 3, 4, 5, 90, 91] (fun ⟨j, v, l⟩ => [(92, i64 j), (6, sval v)]) (0, v, flt (balB t cs (2 ^ k)) 0) ⟨by omega, fun _ => rfl, fun h => (by cases h)⟩ rfl (Incl.same (t := 92) rfl (Incl.same (t := 6) rfl (Incl.pick [2, 3, 4, 5, 90, 91]))) ?_
    rintro ⟨j, v, l⟩ ⟨hj, hl0, hl1⟩
    refine Run.seq ?_
    refine Run.region ?_
    refine Run.op rfl rfl rfl (y_lss rfl rfl) ?_
    refine Run.nil ?_
    refine Run.nT ?_
    refine Run.seq ?_
    refine Run.cond rfl (fun hb => ?_) (fun hb => ?_)
    · obtain rfl : j = 0 := by have : (j : Int) < 1 := of_decide_eq_true hb; omega
      obtain rfl := hl0 rfl
      have hfl : (flt (balB t cs (2 ^ k)) 0).length ≤ 1 := by unfold flt; split <;> simp
      refine Run.skip ?_
      refine Run.nT ?_
      refine Run.seq ?_
      refine Run.block ?_
      refine Run.seq ?_
      refine Run.region ?_
      refine Run.op rfl rfl rfl (y_move rfl) ?_
      refine Run.op rfl rfl rfl (q_index (0) (look14) rfl rfl Tryd.underlying64 ti135 (fun _ => rfl) (rfl) (rfl)) ?_
      refine Run.op rfl rfl rfl (y_loadW rfl Tryd.underlying135 rfl ti135.siz) ?_
      refine q_alloc ti135 rfl rfl ?_
      intro b17
      refine Run.op rfl rfl rfl (y_assign rfl) ?_
      refine Run.storeW 17 rfl rfl rfl ti135.siz rfl ?_
      refine Run.freezeB 17 17 rfl rfl ?_
      refine Run.nil ?_
      refine Run.nT ?_
      refine Run.seq ?_
      refine Run.region ?_
      refine Run.op rfl rfl rfl (y_loadW rfl Tryd.underlying66 rfl ti66.siz) ?_
      refine Run.op rfl rfl rfl (y_loadW rfl Tryd.underlying68 rfl ti68.siz) ?_
      refine Run.op rfl rfl rfl (y_loadW rfl Tryd.underlying135 rfl ti135.siz) ?_
      refine Run.op rfl rfl rfl (q_call en122 rfl (counted_fn s k hk t ht h97 cs hcs hc)) ?_
      refine Run.op rfl rfl rfl (y_not rfl) ?_
      refine Run.nil ?_
      refine Run.nT ?_
      refine Run.cond rfl (fun hb => ?_) (fun hb => ?_)
      · have hB : cntB t cs (2 ^ k) = false := by simpa using hb
        refine Run.region ?_
        refine Run.op rfl rfl rfl (y_move rfl) ?_
        refine Run.op rfl rfl rfl (y_field rfl Tryd.underlying66 rfl ti62.siz rfl) ?_
        refine Run.op rfl rfl rfl (y_load rfl Tryd.underlying62 rfl) ?_
        refine Run.op rfl rfl rfl (y_lenS rfl Tryd.underlying62) ?_
        refine Run.op rfl rfl rfl (y_field rfl Tryd.underlying66 rfl ti63.siz rfl) ?_
        refine Run.op rfl rfl rfl (y_load rfl Tryd.underlying63 rfl) ?_
        refine Run.op rfl rfl rfl (y_lenS rfl Tryd.underlying63) ?_
        refine Run.op rfl rfl rfl (y_add rfl rfl (by first | exact wI_in (by omega) | rfl)) ?_
        refine Run.op rfl rfl rfl (y_move rfl) ?_
        refine Run.op rfl rfl rfl (y_add rfl rfl (by first | exact wI_in (by omega) | rfl)) ?_
        refine Run.op rfl rfl rfl (q_buildS [(0, 1), (1, 1)] Tryd.underlying191 ti191 rfl (fun w => by simp [run_sizeOf ti3.siz]) (.cons rfl (Part.one' rfl) rfl (.cons rfl (Part.one' rfl) rfl .nil))) ?_
        refine Run.op rfl rfl rfl (q_buildL (K := Kfa) ([(1, -1)]) Tryd.underlying136 ti191 rfl rfl rfl (.cons rfl (Part.agg rfl) rfl .nil) rfl) ?_
        refine q_append 6 rfl rfl rfl Tryd.underlying136 ti191 rfl rfl (fun _ => rfl) (by first | omega | (simp; done) | (simp; omega)) rfl ?_
        intro v114
        refine Run.op rfl rfl rfl (y_assign rfl) ?_
        refine Run.nil ?_
        refine Run.nB ?_
        refine Run.nT ?_
        refine Run.region ?_
        refine Run.op rfl rfl rfl (y_add rfl rfl (by first | exact wI_in (by omega) | rfl)) ?_
        refine Run.op rfl rfl rfl (y_move rfl) ?_
        refine Run.nil ?_
        refine Run.nT ?_
        refine Run.round (0 + 1, v114, flt (balB t cs (2 ^ k)) 0 ++ [(1, -1)]) ?_ ?_ ?_ ?_
        · exact ⟨by omega, fun h => (by cases h), fun _ => by congr 1; unfold flt; rw [hB]; rfl⟩
        · show 1 - (0 + 1) < 1 - 0; omega
        · rfl
        · exact (Incl.same (t := 92) rfl (Incl.same (t := 6) rfl (Incl.same (t := 2) rfl (Incl.same (t := 3) rfl (Incl.same (t := 4) rfl (Incl.same (t := 5) rfl (Incl.same (t := 90) rfl (Incl.same (t := 91) rfl Incl.nil))))))))
      · have hB : cntB t cs (2 ^ k) = true := by simpa using hb
        refine Run.skip ?_
        refine Run.nB ?_
        refine Run.nT ?_
        refine Run.region ?_
        refine Run.op rfl rfl rfl (y_add rfl rfl (by first | exact wI_in (by omega) | rfl)) ?_
        refine Run.op rfl rfl rfl (y_move rfl) ?_
        refine Run.nil ?_
        refine Run.nT ?_
        refine Run.round (0 + 1, v, flt (balB t cs (2 ^ k)) 0) ?_ ?_ ?_ ?_
        · exact ⟨by omega, fun h => (by cases h), fun _ => by unfold flt; rw [hB]; simp⟩
        · show 1 - (0 + 1) < 1 - 0; omega
        · rfl
        · exact (Incl.same (t := 92) rfl (Incl.same (t := 6) rfl (Incl.same (t := 2) rfl (Incl.same (t := 3) rfl (Incl.same (t := 4) rfl (Incl.same (t := 5) rfl (Incl.same (t := 90) rfl (Incl.same (t := 91) rfl Incl.nil))))))))
    · obtain rfl : j = 1 := by have : ¬ (j : Int) < 1 := of_decide_eq_false hb; omega
      obtain rfl := hl1 rfl
      refine Run.exit ?_
      refine Run.eT ?_
      refine Run.eT ?_
      refine Run.eB ?_
      refine Run.nT ?_
      refine Run.seq ?_
      refine Run.region ?_
      refine Run.op rfl rfl rfl (y_move rfl) ?_
      refine Run.op rfl rfl rfl (y_assign rfl) ?_
      refine Run.op rfl rfl rfl (y_assign rfl) ?_
      refine Run.nil ?_
      refine Run.nT ?_
      refine Run.ret ?_
      refine Run.freeze (K := Kfa) (l := flt (balB t cs (2 ^ k)) 0 ++ flt (cntB t cs (2 ^ k)) 1) 6 4 rfl rfl ?_
      exact Run.fin2 rfl rfl rfl (.tmp rfl) (.tmp rfl) (fun _ _ h => h) (fun _ _ h => h)

theorem holds_fn (k : Nat) (hk : 1 ≤ k ∧ k ≤ 3) (t : List Int) (ht : t.length = 2 ^ k) (h97 : in97 t) (cs : List (List Int)) (hcs : cs.length = 6) (hc : ∀ c ∈ cs, c.length = 2 ^ k ∧ in97 c) : Fn s.env 27 [sagg (Ksys k t), sagg (Ktr cs)] (stup [sbool (balB t cs (2 ^ k) && cntB t cs (2 ^ k)), i64 0]) := by
  refine Fn.of Tryd.func27 rfl Tryd.ntmps27 rfl ?_
  intro w0 F0
  refine Run.seq ?_
  refine Run.region ?_
  refine Run.boxA rfl rfl ?_
  intro b2
  refine Run.freezeB 2 2 rfl rfl ?_
  refine Run.boxA rfl rfl ?_
  intro b3
  refine Run.freezeB 3 3 rfl rfl ?_
  refine Run.op rfl rfl rfl (y_assign rfl) ?_
  refine Run.op rfl rfl rfl (y_assign rfl) ?_
  refine Run.nil ?_
  refine Run.nT ?_
  refine Run.seq ?_
  refine Run.region ?_
  refine Run.op rfl rfl rfl (y_loadW rfl Tryd.underlying66 rfl ti66.siz) ?_
  refine Run.op rfl rfl rfl (y_loadW rfl Tryd.underlying68 rfl ti68.siz) ?_
  refine Run.op rfl rfl rfl (q_call en71 rfl (faults_fn s k hk t ht h97 cs hcs hc)) ?_
  refine Run.op rfl rfl rfl (y_move rfl) ?_
  refine Run.op rfl rfl rfl (y_extract rfl rfl) ?_
  refine Run.op rfl rfl rfl (y_extract rfl rfl) ?_
  refine Run.op rfl rfl rfl (y_assign rfl) ?_
  refine Run.op rfl rfl rfl (y_assign rfl) ?_
  refine Run.nil ?_
  refine Run.nT ?_
  refine Run.seq ?_
  refine Run.region ?_
  refine Run.op rfl rfl rfl (y_move rfl) ?_
  refine Run.op rfl rfl rfl (Yields.bool (c := true) (y_eql rfl rfl) (rfl)) ?_
  refine Run.op rfl rfl rfl (y_move rfl) ?_
  refine Run.opG rfl rfl rfl rfl rfl (y_move rfl) ?_
  refine Run.opG rfl rfl rfl rfl rfl (y_lenS rfl Tryd.underlying136) ?_
  refine Run.opG rfl rfl rfl rfl rfl (y_eql rfl rfl) ?_
  refine Run.op rfl rfl rfl (y_pickT rfl rfl) ?_
  refine Run.op rfl rfl rfl (y_move rfl) ?_
  refine Run.op rfl rfl rfl (y_assign rfl) ?_
  refine Run.op rfl rfl rfl (y_assign rfl) ?_
  refine Run.nil ?_
  refine Run.nT ?_
  refine Run.ret ?_
  exact Run.fin2 rfl rfl rfl (.tmp rfl) (.tmp rfl) (fun _ _ h => by rw [← flt_len]; exact h) (fun _ _ h => h)

end

end Go.Vx
