/- Walks: rows, columns, constraints. Conditions: as each says. Printed by a program of our own (wip/tools/gen2.py). -/
import Derived.Test.YtofnjbcbkfbomaaDoorWi
namespace Go.Vx
open Go Go.RowKit Go.Proofs
set_option maxRecDepth 100000
variable (s : Seat)

theorem at_fn (l : List (List Int)) (hl : l.length ≤ 100000) (i : Nat) (hi : ∀ c ∈ l, i < c.length) (hi2 : i < 1048576) : Fn s.env 133 [slc Kc l, i64 i] (slc Ku (rng l.length (fun q => (l.getD q []).getD i 0))) := by
  refine Fn.of Tryd.func133 rfl Tryd.ntmps133 rfl ?_
  intro w0 F0
  refine Run.seq ?_
  refine Run.region ?_
  refine Run.op rfl rfl rfl (y_assign rfl) ?_
  refine Run.nil ?_
  refine Run.nT ?_
  refine Run.seq ?_
  refine Run.region ?_
  refine Run.op rfl rfl rfl (y_move rfl) ?_
  refine Run.op rfl rfl rfl (y_lenS rfl Tryd.underlying61) ?_
  refine q_make (K := Ku) (0) rfl rfl (rfl) (rfl) Tryd.underlying29 ti33 rfl rfl rfl (by omega) rfl ?_
  intro v9
  refine Run.own (t := 9) (e' := Ent.rows Ku v9 33 1 (upTo l.length (fun q => (l.getD q []).getD i 0) 0)) rfl (by rw [rep_rng _ (fun q => (l.getD q []).getD i 0)]) ?_
  refine Run.op rfl rfl rfl (y_assign rfl) ?_
  refine Run.nil ?_
  refine Run.nT ?_
  refine Run.seq ?_
  refine Run.seq ?_
  refine Run.region ?_
  refine Run.op rfl rfl rfl (y_move rfl) ?_
  refine Run.op rfl rfl rfl (y_lenS rfl Tryd.underlying61) ?_
  refine Run.op rfl rfl rfl (y_move rfl) ?_
  refine Run.nil ?_
  refine Run.nT ?_
  refine Run.block ?_
  refine Run.loopK (ι := Nat) (fun j => j ≤ l.length) (fun j => l.length - j) (fun j => [(9, .rows Ku v9 33 1 (upTo l.length (fun q => (l.getD q []).getD i 0) j))]) [0, 1, 4, 5, 11] (fun j => [(12, i64 j)]) 0 (by omega) rfl (Incl.same (t := 12) rfl (Incl.pick [0, 1, 4, 5, 11])) ?_
  rintro j hj
  show Run _ _ _ [(12, _), (0, _), (1, _), (4, _), (5, _), (11, _)] _
  refine Run.seq ?_
  refine Run.region ?_
  refine Run.op rfl rfl rfl (y_lss rfl rfl) ?_
  refine Run.nil ?_
  refine Run.nT ?_
  refine Run.seq ?_
  refine Run.cond rfl (fun hb => ?_) (fun hb => ?_)
  · have hjl : j < l.length := by have := of_decide_eq_true hb; omega
    have hic := hi _ (getD_mem hjl)
    refine Run.skip ?_
    refine Run.nT ?_
    refine Run.seq ?_
    refine Run.block ?_
    refine Run.seq ?_
    refine Run.region ?_
    refine Run.op rfl rfl rfl (y_move rfl) ?_
    refine Run.op rfl rfl rfl (y_assign rfl) ?_
    refine Run.nil ?_
    refine Run.nT ?_
    refine Run.region ?_
    refine Run.op rfl rfl rfl (y_move rfl) ?_
    refine Run.op rfl rfl rfl (y_move rfl) ?_
    refine Run.op rfl rfl rfl (y_move rfl) ?_
    refine Run.op rfl rfl rfl (y_move rfl) ?_
    refine Run.op rfl rfl rfl (q_index (j) (l.getD j []) rfl rfl Tryd.underlying61 ti29 (fun _ => rfl) (rfl) (getDl_at hjl)) ?_
    refine Run.op rfl rfl rfl (y_load rfl Tryd.underlying29 rfl) ?_
    refine Run.op rfl rfl rfl (y_move rfl) ?_
    refine Run.op rfl rfl rfl (q_index (i) (_) rfl rfl Tryd.underlying29 ti33 (fun _ => rfl) (rfl) (getD_at hic)) ?_
    refine Run.op rfl rfl rfl (y_load rfl Tryd.underlying33 rfl) ?_
    refine Run.op rfl rfl rfl (y_indexR 9 (j) rfl rfl rfl Tryd.underlying29 ti33.siz (rfl) (by rw [rng_len]; exact hjl)) ?_
    refine q_storeR1 9 rfl rfl rfl ti33 (by rw [flatKu]; simp; omega) ?_
    refine Run.own (t := 9) rfl (row_put' (j := j) (by rw [rng_len]; omega) (upTo_put (g := fun q => (l.getD q []).getD i 0) (by omega)) (by simp)) ?_
    refine Run.nil ?_
    refine Run.nB ?_
    refine Run.nT ?_
    refine Run.region ?_
    refine Run.op rfl rfl rfl (y_add rfl rfl (by first | exact wI_in (by omega) | rfl)) ?_
    refine Run.op rfl rfl rfl (y_move rfl) ?_
    refine Run.nil ?_
    refine Run.nT ?_
    refine Run.round (j + 1) ?_ ?_ ?_ ?_
    · show j + 1 ≤ l.length; omega
    · show l.length - (j + 1) < l.length - j; omega
    · rfl
    · exact (Incl.int (t := 12) rfl (by omega) (Incl.same (t := 0) rfl (Incl.same (t := 1) rfl (Incl.same (t := 4) rfl (Incl.same (t := 5) rfl (Incl.same (t := 11) rfl Incl.nil))))))
  · obtain rfl : j = l.length := by have := of_decide_eq_false hb; omega
    refine Run.exit ?_
    refine Run.eT ?_
    refine Run.eT ?_
    refine Run.eB ?_
    refine Run.nT ?_
    refine Run.seq ?_
    refine Run.region ?_
    refine Run.op rfl rfl rfl (y_move rfl) ?_
    refine Run.op rfl rfl rfl (y_assign rfl) ?_
    refine Run.nil ?_
    refine Run.nT ?_
    refine Run.ret ?_
    refine Run.freeze (K := Ku) (l := upTo l.length (fun q => (l.getD q []).getD i 0) l.length) 9 4 rfl rfl ?_
    refine Run.fin1 rfl rfl rfl (.tmp rfl) (fun _ _ h => ?_)
    rw [upTo_all] at h
    exact h

theorem zs_bnd {nx : Int → Nat → Int} {n : Nat} (h : ∀ z i, i < n → 0 ≤ z ∧ z < 97 → 0 ≤ nx z i ∧ nx z i < 97) {first : Int} (hfi : 0 ≤ first ∧ first < 97) : ∀ i, i ≤ n → 0 ≤ zs first nx i ∧ zs first nx i < 97
  | 0, _ => hfi
  | i + 1, hi => h _ _ (by omega) (zs_bnd h hfi i (by omega))

theorem column_fn (nx : Int → Nat → Int) (g : FuncId) (Cs : List Spec) (hg : Enters s.env.P g) (n : Nat) (hn : n ≤ 100000) (hnx : ∀ z i, i < n → 0 ≤ z ∧ z < 97 → Fn s.env g (u64 z :: i64 (i : Nat) :: Cs) (u64 (nx z i)) ∧ (0 ≤ nx z i ∧ nx z i < 97)) (first : Int) (hfi : 0 ≤ first ∧ first < 97) : Fn s.env 137 [i64 n, u64 first, sfun g Cs] (slc Ku (rng n (zs first nx))) := by
  have hz := zs_bnd (fun z i hi hz => (hnx z i hi hz).2) hfi
  refine Fn.of Tryd.func137 rfl Tryd.ntmps137 rfl ?_
  intro w0 F0
  refine Run.seq ?_
  refine Run.region ?_
  refine Run.op rfl rfl rfl (y_assign rfl) ?_
  refine Run.nil ?_
  refine Run.nT ?_
  refine Run.seq ?_
  refine Run.region ?_
  refine Run.op rfl rfl rfl (y_move rfl) ?_
  refine q_make (K := Ku) (0) rfl rfl (rfl) (rfl) Tryd.underlying29 ti33 rfl rfl rfl (by omega) rfl ?_
  intro v10
  refine Run.own (t := 10) (e' := Ent.rows Ku v10 33 1 (upTo n (zs first nx) 0)) rfl (by rw [rep_rng _ (zs first nx)]) ?_
  refine Run.op rfl rfl rfl (y_assign rfl) ?_
  refine Run.nil ?_
  refine Run.nT ?_
  refine Run.seq ?_
  refine Run.seq ?_
  refine Run.region ?_
  refine Run.op rfl rfl rfl (y_move rfl) ?_
  refine Run.op rfl rfl rfl (Yields.int (y_lenR 10 rfl rfl Tryd.underlying29) (show ((upTo n (zs first nx) 0).length : Int) = (n : Int) by simp)) ?_
  refine Run.op rfl rfl rfl (y_move rfl) ?_
  refine Run.nil ?_
  refine Run.nT ?_
  refine Run.block ?_
  refine Run.loopK (ι := Nat) (fun j => j ≤ n) (fun j => n - j) (fun j => [(10, .rows Ku v10 33 1 (upTo n (zs first nx) j))]) [2, 6, 7, 12] (fun j => [(13, i64 j), (1, u64 (zs first nx j))]) 0 (by omega) rfl (Incl.same (t := 13) rfl (Incl.same (t := 1) rfl (Incl.pick [2, 6, 7, 12]))) ?_
  rintro j hj
  show Run _ _ _ [(13, _), (1, _), (2, _), (6, _), (7, _), (12, _)] _
  refine Run.seq ?_
  refine Run.region ?_
  refine Run.op rfl rfl rfl (y_lss rfl rfl) ?_
  refine Run.nil ?_
  refine Run.nT ?_
  refine Run.seq ?_
  refine Run.cond rfl (fun hb => ?_) (fun hb => ?_)
  · have hjl : j < n := by have := of_decide_eq_true hb; omega
    have hzj := hz j hj
    have hfn := (hnx _ j hjl hzj).1
    refine Run.skip ?_
    refine Run.nT ?_
    refine Run.seq ?_
    refine Run.block ?_
    refine Run.seq ?_
    refine Run.region ?_
    refine Run.op rfl rfl rfl (y_move rfl) ?_
    refine Run.op rfl rfl rfl (y_assign rfl) ?_
    refine Run.nil ?_
    refine Run.nT ?_
    refine Run.seq ?_
    refine Run.region ?_
    refine Run.op rfl rfl rfl (y_move rfl) ?_
    refine Run.op rfl rfl rfl (y_move rfl) ?_
    refine Run.op rfl rfl rfl (y_move rfl) ?_
    refine Run.op rfl rfl rfl (y_indexR 10 (j) rfl rfl rfl Tryd.underlying29 ti33.siz (rfl) (by rw [rng_len]; exact hjl)) ?_
    refine q_storeR1 10 rfl rfl rfl ti33 (by rw [flatKu]; simp; omega) ?_
    refine Run.own (t := 10) rfl (row_put' (j := j) (by rw [rng_len]; omega) (upTo_put (g := zs first nx) (by omega)) (by simp)) ?_
    refine Run.nil ?_
    refine Run.nT ?_
    refine Run.region ?_
    refine Run.op rfl rfl rfl (y_move rfl) ?_
    refine Run.op rfl rfl rfl (y_move rfl) ?_
    refine Run.op rfl rfl rfl (y_move rfl) ?_
    refine Run.op rfl rfl rfl (q_callV hg rfl rfl hfn) ?_
    refine Run.op rfl rfl rfl (y_assign rfl) ?_
    refine Run.nil ?_
    refine Run.nB ?_
    refine Run.nT ?_
    refine Run.region ?_
    refine Run.op rfl rfl rfl (y_add rfl rfl (by first | exact wI_in (by omega) | rfl)) ?_
    refine Run.op rfl rfl rfl (y_move rfl) ?_
    refine Run.nil ?_
    refine Run.nT ?_
    refine Run.round (j + 1) ?_ ?_ ?_ ?_
    · show j + 1 ≤ n; omega
    · show n - (j + 1) < n - j; omega
    · rfl
    · exact (Incl.int (t := 13) rfl (by omega) (Incl.same (t := 1) rfl (Incl.same (t := 2) rfl (Incl.same (t := 6) rfl (Incl.same (t := 7) rfl (Incl.same (t := 12) rfl Incl.nil))))))
  · obtain rfl : j = n := by have := of_decide_eq_false hb; omega
    refine Run.exit ?_
    refine Run.eT ?_
    refine Run.eT ?_
    refine Run.eB ?_
    refine Run.nT ?_
    refine Run.seq ?_
    refine Run.region ?_
    refine Run.op rfl rfl rfl (y_move rfl) ?_
    refine Run.op rfl rfl rfl (y_assign rfl) ?_
    refine Run.nil ?_
    refine Run.nT ?_
    refine Run.ret ?_
    refine Run.freeze (K := Ku) (l := upTo j (zs first nx) j) 10 6 rfl rfl ?_
    refine Run.fin1 rfl rfl rfl (.tmp rfl) (fun _ _ h => ?_)
    rw [upTo_all] at h
    exact h

theorem rv_nn {m : List Int × List Int} (hm1 : m.1.length = 6) (hm2 : m.2.length = 1) (hm3 : ∀ x ∈ m.1, 0 ≤ x) (hm4 : ∀ x ∈ m.2, 0 ≤ x) {v : Var} (hv : vok v) : 0 ≤ rv m.1 m.2 v := by
  unfold rv
  rcases hv with ⟨h1, h2, h3⟩ | ⟨h1, h2⟩
  · rw [if_neg (by omega), List.getD_eq_getElem?_getD, List.getElem?_eq_getElem (by omega)]
    exact hm3 _ (List.getElem_mem _)
  · rw [if_pos h1, h2, List.getD_eq_getElem?_getD, List.getElem?_eq_getElem (by simp [hm2])]
    exact hm4 _ (List.getElem_mem _)
theorem getV {l : List Var} {j : Nat} (h : j < l.length) : l.getD j (0, 0) = l[j] := by rw [List.getD_eq_getElem?_getD, List.getElem?_eq_getElem h]; rfl

section
variable [hF : HasF s]

theorem rowWeight_fn (f c d : Int) (hf : fv f = true) (hc : 0 ≤ c) (hd : 0 ≤ d) (m : List Int × List Int) (hm1 : m.1.length = 6) (hm2 : m.2.length = 1) (hm3 : ∀ x ∈ m.1, 0 ≤ x) (hm4 : ∀ x ∈ m.2, 0 ≤ x) (l : List Var) (hl : l.length ≤ 4) (hv : ∀ v ∈ l, vok v) : Fn s.env 139 [sagg (Krw f m c d), slc Kv l] (u64 (rwt (fP f) m c d l)) := by
  have htk := take_upTo (l := l) (g := (fun q => rv m.1 m.2 (l.getD q (0, 0)))) (n := 4) (f := rv m.1 m.2) hl (fun i x hx => by rw [List.getD_eq_getElem?_getD, hx]; rfl)
  refine Fn.of Tryd.func139 rfl Tryd.ntmps139 rfl ?_
  intro w0 F0
  refine Run.seq ?_
  refine Run.region ?_
  refine Run.boxA rfl rfl ?_
  intro b2
  refine Run.freezeB 2 2 rfl rfl ?_
  refine Run.op rfl rfl rfl (y_assign rfl) ?_
  refine Run.nil ?_
  refine Run.nT ?_
  refine Run.seq ?_
  refine Run.region ?_
  refine q_alloc ti125 rfl rfl ?_
  intro b5
  refine Run.nil ?_
  refine Run.nT ?_
  refine Run.seq ?_
  refine Run.seq ?_
  refine Run.region ?_
  refine Run.op rfl rfl rfl (y_move rfl) ?_
  refine Run.op rfl rfl rfl (y_lenS rfl Tryd.underlying130) ?_
  refine Run.op rfl rfl rfl (y_move rfl) ?_
  refine Run.nil ?_
  refine Run.nT ?_
  refine Run.block ?_
  refine Run.loopK (ι := Nat) (fun j => j ≤ l.length) (fun j => l.length - j) (fun j => [(5, .blk b5 125 (us (upTo 4 (fun q => rv m.1 m.2 (l.getD q (0, 0))) j)))]) [1, 2, 4, 5, 8, 9] (fun j => [(10, i64 j)]) 0 (by omega) rfl (Incl.same (t := 10) rfl (Incl.pick [1, 2, 4, 5, 8, 9])) ?_
  rintro j hj
  show Run _ _ _ [(10, _), (1, _), (2, _), (4, _), (5, _), (8, _), (9, _)] _
  refine Run.seq ?_
  refine Run.region ?_
  refine Run.op rfl rfl rfl (y_lss rfl rfl) ?_
  refine Run.nil ?_
  refine Run.nT ?_
  refine Run.seq ?_
  refine Run.cond rfl (fun hb => ?_) (fun hb => ?_)
  · have hjl : j < l.length := by have := of_decide_eq_true hb; omega
    have hvj := hv _ (List.getElem_mem hjl)
    refine Run.skip ?_
    refine Run.nT ?_
    refine Run.seq ?_
    refine Run.block ?_
    refine Run.seq ?_
    refine Run.region ?_
    refine Run.op rfl rfl rfl (y_move rfl) ?_
    refine Run.op rfl rfl rfl (q_index (j) (l[j]) rfl rfl Tryd.underlying130 ti128 (fun _ => rfl) (rfl) (get_some hjl)) ?_
    refine Run.op rfl rfl rfl (y_loadW rfl Tryd.underlying128 rfl ti128.siz) ?_
    refine q_alloc ti128 rfl rfl ?_
    intro b7
    refine Run.op rfl rfl rfl (y_assign rfl) ?_
    refine Run.storeW 7 rfl rfl rfl ti128.siz rfl ?_
    refine Run.freezeB 7 7 rfl rfl ?_
    refine Run.nil ?_
    refine Run.nT ?_
    refine Run.seq ?_
    refine Run.region ?_
    refine Run.op rfl rfl rfl (y_field rfl Tryd.underlying128 rfl ti126.siz rfl) ?_
    refine Run.op rfl rfl rfl (y_load rfl Tryd.underlying126 rfl) ?_
    refine Run.op rfl rfl rfl (y_eql rfl rfl) ?_
    refine Run.nil ?_
    refine Run.nT ?_
    refine Run.cond rfl (fun hb => ?_) (fun hb => ?_)
    · have hk3 : l[j].1 = 3 := of_decide_eq_true hb
      have hz := vok3 hvj hk3
      refine Run.region ?_
      refine Run.op rfl rfl rfl (y_move rfl) ?_
      refine Run.op rfl rfl rfl (y_field rfl Tryd.underlying211 rfl ti29.siz rfl) ?_
      refine Run.op rfl rfl rfl (y_load rfl Tryd.underlying29 rfl) ?_
      refine Run.op rfl rfl rfl (y_field rfl Tryd.underlying128 rfl ti3.siz rfl) ?_
      refine Run.op rfl rfl rfl (y_load rfl Tryd.underlying3 rfl) ?_
      refine Run.op rfl rfl rfl (q_index (0) (_) rfl rfl Tryd.underlying29 ti33 (fun _ => rfl) (hz) (getD_at (by omega))) ?_
      refine Run.op rfl rfl rfl (y_load rfl Tryd.underlying33 rfl) ?_
      refine Run.op rfl rfl rfl (y_indexP (j) rfl rfl Tryd.underlying125 ti33.siz (rfl) (by omega)) ?_
      refine q_store1 5 rfl rfl rfl ti33 (us_len (n := 4) (by simp) (by omega)) ?_
      refine Run.own (t := 5) rfl (congrArg (Ent.blk b5 125) (us_upTo (g := (fun q => rv m.1 m.2 (l.getD q (0, 0)))) (by omega) (by simp only [getV hjl]; unfold rv; rw [if_pos hk3, hz]; rfl))) ?_
      refine Run.nil ?_
      refine Run.nB ?_
      refine Run.nT ?_
      refine Run.region ?_
      refine Run.op rfl rfl rfl (y_add rfl rfl (by first | exact wI_in (by omega) | rfl)) ?_
      refine Run.op rfl rfl rfl (y_move rfl) ?_
      refine Run.nil ?_
      refine Run.nT ?_
      refine Run.round (j + 1) ?_ ?_ ?_ ?_
      · show j + 1 ≤ l.length; omega
      · show l.length - (j + 1) < l.length - j; omega
      · rfl
      · exact (Incl.int (t := 10) rfl (by omega) (Incl.same (t := 1) rfl (Incl.same (t := 2) rfl (Incl.same (t := 4) rfl (Incl.same (t := 5) rfl (Incl.same (t := 8) rfl (Incl.same (t := 9) rfl Incl.nil)))))))
    · have hk3 : l[j].1 ≠ 3 := of_decide_eq_false hb
      have hz := vok1 hvj hk3
      refine Run.region ?_
      refine Run.op rfl rfl rfl (y_move rfl) ?_
      refine Run.op rfl rfl rfl (y_field rfl Tryd.underlying211 rfl ti29.siz rfl) ?_
      refine Run.op rfl rfl rfl (y_load rfl Tryd.underlying29 rfl) ?_
      refine Run.op rfl rfl rfl (y_field rfl Tryd.underlying128 rfl ti3.siz rfl) ?_
      refine Run.op rfl rfl rfl (y_load rfl Tryd.underlying3 rfl) ?_
      refine Run.op rfl rfl rfl (q_index (l[j].2.toNat) (_) rfl rfl Tryd.underlying29 ti33 (fun _ => rfl) (by omega) (getD_at (by omega))) ?_
      refine Run.op rfl rfl rfl (y_load rfl Tryd.underlying33 rfl) ?_
      refine Run.op rfl rfl rfl (y_indexP (j) rfl rfl Tryd.underlying125 ti33.siz (rfl) (by omega)) ?_
      refine q_store1 5 rfl rfl rfl ti33 (us_len (n := 4) (by simp) (by omega)) ?_
      refine Run.own (t := 5) rfl (congrArg (Ent.blk b5 125) (us_upTo (g := (fun q => rv m.1 m.2 (l.getD q (0, 0)))) (by omega) (by simp only [getV hjl]; unfold rv; rw [if_neg hk3]))) ?_
      refine Run.nil ?_
      refine Run.nB ?_
      refine Run.nT ?_
      refine Run.region ?_
      refine Run.op rfl rfl rfl (y_add rfl rfl (by first | exact wI_in (by omega) | rfl)) ?_
      refine Run.op rfl rfl rfl (y_move rfl) ?_
      refine Run.nil ?_
      refine Run.nT ?_
      refine Run.round (j + 1) ?_ ?_ ?_ ?_
      · show j + 1 ≤ l.length; omega
      · show l.length - (j + 1) < l.length - j; omega
      · rfl
      · exact (Incl.int (t := 10) rfl (by omega) (Incl.same (t := 1) rfl (Incl.same (t := 2) rfl (Incl.same (t := 4) rfl (Incl.same (t := 5) rfl (Incl.same (t := 8) rfl (Incl.same (t := 9) rfl Incl.nil)))))))
  · obtain rfl : j = l.length := by have := of_decide_eq_false hb; omega
    refine Run.own (t := 5) (e' := .blk b5 125 ((upTo 4 (fun q => rv m.1 m.2 (l.getD q (0, 0))) l.length).flatMap Ku)) rfl (by rw [us_flat]) ?_
    refine Run.freezeB 5 5 rfl rfl ?_
    have hwv : ∀ x ∈ (upTo 4 (fun q => rv m.1 m.2 (l.getD q (0, 0))) l.length).take l.length, 0 ≤ x := by rw [htk]; intro x hx; obtain ⟨v, hv1, rfl⟩ := List.mem_map.1 hx; exact rv_nn hm1 hm2 hm3 hm4 (hv v hv1)
    refine Run.exit ?_
    refine Run.eT ?_
    refine Run.eT ?_
    refine Run.eB ?_
    refine Run.nT ?_
    refine Run.seq ?_
    refine Run.weaken (Incl.same (t := 10) rfl (Incl.same (t := 1) rfl (Incl.same (t := 2) rfl (Incl.same (t := 5) rfl (Incl.same (t := 8) rfl (Incl.same (t := 9) rfl Incl.nil)))))) ?_
    refine q_draw ?_ rfl
    refine Draw.step rfl rfl rfl (StepOk.op rfl rfl rfl (y_field rfl Tryd.underlying211 rfl ti3.siz rfl)) rfl ?_
    refine Draw.step rfl rfl rfl (StepOk.op rfl rfl rfl (y_load rfl Tryd.underlying3 rfl)) rfl ?_
    refine Draw.step rfl rfl rfl (StepOk.op rfl rfl rfl (y_move rfl)) rfl ?_
    refine Draw.step rfl rfl rfl (StepOk.op rfl rfl rfl (y_lenS rfl Tryd.underlying130)) rfl ?_
    refine Draw.step rfl rfl rfl (StepOk.op rfl rfl rfl (y_sliceP (K := Ku) (l := upTo 4 (fun q => rv m.1 m.2 (l.getD q (0, 0))) l.length) (l.length) rfl Tryd.underlying125 ti33.siz (fun _ => rfl) (by simp) (.inr ⟨_, _, rfl, rfl⟩) (by simp; omega))) rfl ?_
    refine Draw.step rfl rfl rfl (StepOk.op rfl rfl rfl (y_field rfl Tryd.underlying211 rfl ti33.siz rfl)) rfl ?_
    refine Draw.step rfl rfl rfl (StepOk.op rfl rfl rfl (y_load rfl Tryd.underlying33 rfl)) rfl ?_
    refine Draw.step rfl rfl rfl (StepOk.op rfl rfl rfl (y_field rfl Tryd.underlying211 rfl ti33.siz rfl)) rfl ?_
    refine Draw.step rfl rfl rfl (StepOk.op rfl rfl rfl (y_load rfl Tryd.underlying33 rfl)) rfl ?_
    refine Draw.step rfl rfl rfl (StepOk.op rfl rfl rfl (q_call en81 rfl (weight_fn s f c d hf hc hd _ hwv (by simp; omega)))) rfl ?_
    refine Draw.step rfl rfl rfl (StepOk.op rfl rfl rfl (y_assign rfl)) rfl ?_
    refine Draw.tail (m := 11) rfl rfl rfl ?_
    refine Run.nil ?_
    refine Run.nT ?_
    refine Run.ret ?_
    refine Run.fin1 rfl rfl rfl (.tmp rfl) (fun _ _ h => ?_)
    rw [htk] at h
    exact h

theorem product_fn (f c d : Int) (hf : fv f = true) (hc : 0 ≤ c) (hd : 0 ≤ d) (m : List Int × List Int) (hm1 : m.1.length = 6) (hm2 : m.2.length = 1) (hm3 : ∀ x ∈ m.1, 0 ≤ x) (hm4 : ∀ x ∈ m.2, 0 ≤ x) (ts : List (List Var)) (hl : ts.length ≤ 100) (hts : ∀ l ∈ ts, l.length ≤ 4 ∧ ∀ v ∈ l, vok v) : Fn s.env 134 [sagg (Krw f m c d), slc Kt ts] (u64 (rprod (fP f) m c d ts)) := by
  obtain ⟨⟨hp1, hp2⟩, hg_⟩ := okf hf
  have hp3 : (0 : Int) < fP f := by omega
  refine Fn.of Tryd.func134 rfl Tryd.ntmps134 rfl ?_
  intro w0 F0
  refine Run.seq ?_
  refine Run.region ?_
  refine Run.boxA rfl rfl ?_
  intro b2
  refine Run.freezeB 2 2 rfl rfl ?_
  refine Run.op rfl rfl rfl (y_assign rfl) ?_
  refine Run.nil ?_
  refine Run.nT ?_
  refine Run.seq ?_
  refine Run.region ?_
  refine Run.op rfl rfl rfl (y_assign rfl) ?_
  refine Run.nil ?_
  refine Run.nT ?_
  refine Run.seq ?_
  refine Run.seq ?_
  refine Run.region ?_
  refine Run.op rfl rfl rfl (y_move rfl) ?_
  refine Run.op rfl rfl rfl (y_lenS rfl Tryd.underlying131) ?_
  refine Run.op rfl rfl rfl (y_move rfl) ?_
  refine Run.nil ?_
  refine Run.nT ?_
  refine Run.block ?_
  refine Run.loopK (ι := Nat) (fun j => j ≤ ts.length) (fun j => ts.length - j) (fun j => []) [2, 4, 8, 9] (fun j => [(10, i64 j), (5, u64 (rprod (fP f) m c d (ts.take j)))]) 0 (by omega) rfl (Incl.same (t := 10) rfl (Incl.same (t := 5) rfl (Incl.pick [2, 4, 8, 9]))) ?_
  rintro j hj
  show Run _ _ _ [(10, _), (5, _), (2, _), (4, _), (8, _), (9, _)] _
  refine Run.seq ?_
  refine Run.region ?_
  refine Run.op rfl rfl rfl (y_lss rfl rfl) ?_
  refine Run.nil ?_
  refine Run.nT ?_
  refine Run.seq ?_
  refine Run.cond rfl (fun hb => ?_) (fun hb => ?_)
  · have hjl : j < ts.length := by have := of_decide_eq_true hb; omega
    have hpl := rprod_lt hp1 m c d ts j
    have hwl : 0 ≤ rwt (fP f) m c d ts[j] := (em_lt hp3 _).1
    refine Run.skip ?_
    refine Run.nT ?_
    refine Run.seq ?_
    refine Run.block ?_
    refine Run.seq ?_
    refine Run.region ?_
    refine Run.op rfl rfl rfl (q_index (j) (ts[j]) rfl rfl Tryd.underlying131 ti130 (fun _ => rfl) (rfl) (get_some hjl)) ?_
    refine Run.op rfl rfl rfl (y_load rfl Tryd.underlying130 rfl) ?_
    refine Run.op rfl rfl rfl (y_assign rfl) ?_
    refine Run.nil ?_
    refine Run.nT ?_
    refine Run.weaken (Incl.same (t := 10) rfl (Incl.same (t := 5) rfl (Incl.same (t := 2) rfl (Incl.same (t := 4) rfl (Incl.same (t := 8) rfl (Incl.same (t := 9) rfl (Incl.same (t := 7) rfl Incl.nil))))))) ?_
    refine q_draw ?_ rfl
    refine Draw.step rfl rfl rfl (StepOk.op rfl rfl rfl (y_field rfl Tryd.underlying211 rfl ti3.siz rfl)) rfl ?_
    refine Draw.step rfl rfl rfl (StepOk.op rfl rfl rfl (y_load rfl Tryd.underlying3 rfl)) rfl ?_
    refine Draw.step rfl rfl rfl (StepOk.op rfl rfl rfl (y_move rfl)) rfl ?_
    refine Draw.step rfl rfl rfl (StepOk.op rfl rfl rfl (y_loadW rfl Tryd.underlying211 rfl ti211.siz)) rfl ?_
    refine Draw.step rfl rfl rfl (StepOk.op rfl rfl rfl (y_move rfl)) rfl ?_
    refine Draw.step rfl rfl rfl (StepOk.op rfl rfl rfl (q_call en139 rfl (rowWeight_fn s f c d hf hc hd m hm1 hm2 hm3 hm4 ts[j] (hts _ (List.getElem_mem hjl)).1 (hts _ (List.getElem_mem hjl)).2))) rfl ?_
    refine Draw.step rfl rfl rfl (StepOk.op rfl rfl rfl (q_call en90 rfl (Mul_fn s _ _ _ hf hpl.1 hwl))) rfl ?_
    refine Draw.tail (m := 7) rfl rfl rfl ?_
    refine Run.op rfl rfl rfl (y_assign rfl) ?_
    refine Run.nil ?_
    refine Run.nB ?_
    refine Run.nT ?_
    refine Run.region ?_
    refine Run.op rfl rfl rfl (y_add rfl rfl (by first | exact wI_in (by omega) | rfl)) ?_
    refine Run.op rfl rfl rfl (y_move rfl) ?_
    refine Run.nil ?_
    refine Run.nT ?_
    refine Run.round (j + 1) ?_ ?_ ?_ ?_
    · show j + 1 ≤ ts.length; omega
    · show ts.length - (j + 1) < ts.length - j; omega
    · rfl
    · exact (Incl.int (t := 10) rfl (by omega) (Incl.int (t := 5) rfl (by rw [rprod_take hjl]) (Incl.same (t := 2) rfl (Incl.same (t := 4) rfl (Incl.same (t := 8) rfl (Incl.same (t := 9) rfl Incl.nil))))))
  · obtain rfl : j = ts.length := by have := of_decide_eq_false hb; omega
    refine Run.exit ?_
    refine Run.eT ?_
    refine Run.eT ?_
    refine Run.eB ?_
    refine Run.nT ?_
    refine Run.seq ?_
    refine Run.region ?_
    refine Run.op rfl rfl rfl (y_move rfl) ?_
    refine Run.op rfl rfl rfl (y_assign rfl) ?_
    refine Run.nil ?_
    refine Run.nT ?_
    refine Run.ret ?_
    refine Run.fin1 rfl rfl rfl (.tmp rfl) (fun _ _ h => ?_)
    rw [List.take_length] at h
    exact h

theorem total_fn (f a : Int) (hf : fv f = true) (ha : 0 ≤ a) (l : List Int) (hl : l.length ≤ 100) (hx : ∀ x ∈ l, 0 ≤ x) : Fn s.env 170 [i64 f, u64 a, slc Ku l] (u64 (total (fP f) a l)) := by
  obtain ⟨⟨hp1, hp2⟩, hg_⟩ := okf hf
  have hp3 : (0 : Int) < fP f := by omega
  refine Fn.of Tryd.func170 rfl Tryd.ntmps170 rfl ?_
  intro w0 F0
  refine Run.seq ?_
  refine Run.region ?_
  refine Run.op rfl rfl rfl (y_assign rfl) ?_
  refine Run.nil ?_
  refine Run.nT ?_
  refine Run.seq ?_
  refine Run.seq ?_
  refine Run.region ?_
  refine Run.op rfl rfl rfl (y_move rfl) ?_
  refine Run.op rfl rfl rfl (y_lenS rfl Tryd.underlying29) ?_
  refine Run.op rfl rfl rfl (y_move rfl) ?_
  refine Run.nil ?_
  refine Run.nT ?_
  refine Run.block ?_
  refine Run.loopK (ι := Nat) (fun j => j ≤ l.length) (fun j => l.length - j) (fun j => []) [0, 6, 9, 10] (fun j => [(11, i64 j), (1, u64 (total (fP f) a (l.take j)))]) 0 (by omega) rfl (Incl.same (t := 11) rfl (Incl.same (t := 1) rfl (Incl.pick [0, 6, 9, 10]))) ?_
  rintro j hj
  show Run _ _ _ [(11, _), (1, _), (0, _), (6, _), (9, _), (10, _)] _
  refine Run.seq ?_
  refine Run.region ?_
  refine Run.op rfl rfl rfl (y_lss rfl rfl) ?_
  refine Run.nil ?_
  refine Run.nT ?_
  refine Run.seq ?_
  refine Run.cond rfl (fun hb => ?_) (fun hb => ?_)
  · have hjl : j < l.length := by have := of_decide_eq_true hb; omega
    have hpl := total_nn hp3 ha (l.take j)
    have hxl := hx _ (List.getElem_mem hjl)
    refine Run.skip ?_
    refine Run.nT ?_
    refine Run.seq ?_
    refine Run.block ?_
    refine Run.seq ?_
    refine Run.region ?_
    refine Run.op rfl rfl rfl (q_index (j) (l[j]) rfl rfl Tryd.underlying29 ti33 (fun _ => rfl) (rfl) (get_some hjl)) ?_
    refine Run.op rfl rfl rfl (y_load rfl Tryd.underlying33 rfl) ?_
    refine Run.op rfl rfl rfl (y_assign rfl) ?_
    refine Run.nil ?_
    refine Run.nT ?_
    refine Run.region ?_
    refine Run.op rfl rfl rfl (y_move rfl) ?_
    refine Run.op rfl rfl rfl (y_move rfl) ?_
    refine Run.op rfl rfl rfl (y_move rfl) ?_
    refine Run.op rfl rfl rfl (q_call en93 rfl (Sub_fn s _ _ _ hf hpl hxl)) ?_
    refine Run.op rfl rfl rfl (y_assign rfl) ?_
    refine Run.nil ?_
    refine Run.nB ?_
    refine Run.nT ?_
    refine Run.region ?_
    refine Run.op rfl rfl rfl (y_add rfl rfl (by first | exact wI_in (by omega) | rfl)) ?_
    refine Run.op rfl rfl rfl (y_move rfl) ?_
    refine Run.nil ?_
    refine Run.nT ?_
    refine Run.round (j + 1) ?_ ?_ ?_ ?_
    · show j + 1 ≤ l.length; omega
    · show l.length - (j + 1) < l.length - j; omega
    · rfl
    · exact (Incl.int (t := 11) rfl (by omega) (Incl.int (t := 1) rfl (by rw [total_take hjl]) (Incl.same (t := 0) rfl (Incl.same (t := 6) rfl (Incl.same (t := 9) rfl (Incl.same (t := 10) rfl Incl.nil))))))
  · obtain rfl : j = l.length := by have := of_decide_eq_false hb; omega
    refine Run.exit ?_
    refine Run.eT ?_
    refine Run.eT ?_
    refine Run.eB ?_
    refine Run.nT ?_
    refine Run.seq ?_
    refine Run.region ?_
    refine Run.op rfl rfl rfl (y_move rfl) ?_
    refine Run.op rfl rfl rfl (y_assign rfl) ?_
    refine Run.nil ?_
    refine Run.nT ?_
    refine Run.ret ?_
    refine Run.fin1 rfl rfl rfl (.tmp rfl) (fun _ _ h => ?_)
    rw [List.take_length] at h
    exact h

theorem less_fn (f a b : Int) (hf : fv f = true) (ha : 0 ≤ a) (hb_ : 0 ≤ b) : Fn s.env 141 [i64 f, slc Ku [a, b]] (u64 ((a - b) % fP f)) := by
  refine Fn.of Tryd.func141 rfl Tryd.ntmps141 rfl ?_
  intro w0 F0
  refine Run.seq ?_
  refine Run.region ?_
  refine Run.op rfl rfl rfl (y_assign rfl) ?_
  refine Run.nil ?_
  refine Run.nT ?_
  refine Run.seq ?_
  refine Run.weaken (Incl.same (t := 0) rfl (Incl.same (t := 1) rfl Incl.nil)) ?_
  refine q_draw ?_ rfl
  refine Draw.step rfl rfl rfl (StepOk.op rfl rfl rfl (y_move rfl)) rfl ?_
  refine Draw.step rfl rfl rfl (StepOk.op rfl rfl rfl (y_move rfl)) rfl ?_
  refine Draw.step rfl rfl rfl (StepOk.op rfl rfl rfl (q_index (0) (a) rfl rfl Tryd.underlying29 ti33 (fun _ => rfl) (rfl) (rfl))) rfl ?_
  refine Draw.step rfl rfl rfl (StepOk.op rfl rfl rfl (y_load rfl Tryd.underlying33 rfl)) rfl ?_
  refine Draw.step rfl rfl rfl (StepOk.op rfl rfl rfl (y_move rfl)) rfl ?_
  refine Draw.step rfl rfl rfl (StepOk.op rfl rfl rfl (y_slice 1 2 rfl Tryd.underlying29 ti33.siz (fun _ => rfl) (.inr ⟨_, _, rfl, rfl⟩) (.inl ⟨rfl, rfl⟩) (by omega) (by simp))) rfl ?_
  refine Draw.step rfl rfl rfl (StepOk.op rfl rfl rfl (q_call en170 rfl (total_fn s f a hf ha [b] (by simp) (by simp; omega)))) rfl ?_
  refine Draw.step rfl rfl rfl (StepOk.op rfl rfl rfl (y_assign rfl)) rfl ?_
  refine Draw.tail (m := 8) rfl rfl rfl ?_
  refine Run.nil ?_
  refine Run.nT ?_
  refine Run.ret ?_
  exact Run.fin1 rfl rfl rfl (.tmp rfl) (fun _ _ h => h)

noncomputable def invG (p : Int) (l : List Int) (k : Nat) (i : Nat) : Int := if i < l.length - k then pre p l i else finv p (l.getD i 0)
theorem inv_put {p : Int} {l : List Int} {k : Nat} (hk : k < l.length) : (rng l.length (invG p l k)).set (l.length - 1 - k) (finv p (l.getD (l.length - 1 - k) 0)) = rng l.length (invG p l (k + 1)) := by
  have h := rng_set (n := l.length) (g := invG p l k) (g' := invG p l (k + 1)) (j := l.length - 1 - k) (by omega) (fun i hne hi => by
    unfold invG
    by_cases h : i < l.length - k
    · rw [if_pos h, if_pos (by omega)]
    · rw [if_neg h, if_neg (by omega)])
  have e : invG p l (k + 1) (l.length - 1 - k) = finv p (l.getD (l.length - 1 - k) 0) := by unfold invG; rw [if_neg (by omega)]
  rw [e] at h
  exact h
theorem inv_put0 {p : Int} (hp : 2 ≤ p) {l : List Int} {k : Nat} (hk : k < l.length) (hz : l.getD (l.length - 1 - k) 0 % p = 0) : (rng l.length (invG p l k)).set (l.length - 1 - k) 0 = rng l.length (invG p l (k + 1)) := by
  have h := inv_put (p := p) hk
  rwa [finv_zero hp hz] at h
theorem inv_put1 {p x : Int} {l : List Int} {k : Nat} (hk : k < l.length) (hx : x = finv p (l.getD (l.length - 1 - k) 0)) : (rng l.length (invG p l k)).set (l.length - 1 - k) x = rng l.length (invG p l (k + 1)) := by rw [hx]; exact inv_put hk
theorem inv_all (p : Int) (l : List Int) : rng l.length (invG p l l.length) = l.map (finv p) := map_rng l _ _ fun i x hx => by
  unfold invG
  rw [if_neg (by omega), List.getD_eq_getElem?_getD, hx]; rfl
theorem inv_first (p : Int) (l : List Int) : upTo l.length (pre p l) l.length = rng l.length (invG p l 0) := rng_congr fun i hi => by
  unfold invG
  rw [if_pos hi, if_pos (by omega)]
theorem pre_zero {p : Int} {l : List Int} {i : Nat} (h : l.getD i 0 % p = 0) : pre p l (i + 1) = pre p l i := by
  conv => lhs; unfold pre
  rw [if_pos h]
theorem pre_succ {p : Int} {l : List Int} {i : Nat} (h : l.getD i 0 % p ≠ 0) : pre p l i * l.getD i 0 % p = pre p l (i + 1) := by
  conv => rhs; unfold pre
  rw [if_neg h]
theorem row_is {l : List Int} {j : Nat} {x : Int} (h : l[j]? = some x) : (l.flatMap Ku)[j * 1]? = some (u64 x) := by
  rw [Nat.mul_one, flatKu, List.getElem?_map, h]; rfl

set_option maxHeartbeats 4000000 in
theorem inverses_fn (f : Int) (hf : fv f = true) (l : List Int) (hl : l.length ≤ 100000) (hx : ∀ x ∈ l, 0 ≤ x) : Fn s.env 136 [i64 f, slc Ku l] (slc Ku (l.map (finv (fP f)))) := by
  obtain ⟨⟨hp1, hp2⟩, hg_⟩ := okf hf
  have hp3 : (0 : Int) < fP f := by omega
  have hpb := pre_bnd hp1 l
  have hpr := fprime hf
  refine Fn.of Tryd.func136 rfl Tryd.ntmps136 rfl ?_
  intro w0 F0
  refine Run.seq ?_
  refine Run.region ?_
  refine Run.op rfl rfl rfl (y_assign rfl) ?_
  refine Run.nil ?_
  refine Run.nT ?_
  refine Run.seq ?_
  refine Run.region ?_
  refine Run.op rfl rfl rfl (y_move rfl) ?_
  refine Run.op rfl rfl rfl (q_call en109 rfl (P_fn s _)) ?_
  refine Run.op rfl rfl rfl (y_assign rfl) ?_
  refine Run.nil ?_
  refine Run.nT ?_
  refine Run.seq ?_
  refine Run.seq ?_
  refine Run.region ?_
  refine Run.op rfl rfl rfl (y_move rfl) ?_
  refine Run.op rfl rfl rfl (Yields.bool (c := false) (y_eql rfl rfl) (by rw [decide_eq_false_iff_not]; omega)) ?_
  refine Run.nil ?_
  refine Run.nT ?_
  refine Run.cond0 rfl ?_
  refine Run.skip ?_
  refine Run.nT ?_
  refine Run.seq ?_
  refine Run.region ?_
  refine Run.op rfl rfl rfl (y_move rfl) ?_
  refine Run.op rfl rfl rfl (y_lenS rfl Tryd.underlying29) ?_
  refine q_make (K := Ku) (0) rfl rfl (rfl) (rfl) Tryd.underlying29 ti33 rfl rfl rfl (by omega) rfl ?_
  intro v18
  refine Run.own (t := 18) (e' := Ent.rows Ku v18 33 1 (upTo l.length (pre (fP f) l) 0)) rfl (by rw [rep_rng _ (pre (fP f) l)]) ?_
  refine Run.op rfl rfl rfl (y_assign rfl) ?_
  refine Run.nil ?_
  refine Run.nT ?_
  refine Run.seq ?_
  refine Run.region ?_
  refine Run.op rfl rfl rfl (y_assign rfl) ?_
  refine Run.nil ?_
  refine Run.nT ?_
  refine Run.seq ?_
  refine Run.seq ?_
  refine Run.region ?_
  refine Run.op rfl rfl rfl (y_move rfl) ?_
  refine Run.op rfl rfl rfl (y_lenS rfl Tryd.underlying29) ?_
  refine Run.op rfl rfl rfl (y_move rfl) ?_
  refine Run.nil ?_
  refine Run.nT ?_
  refine Run.block ?_
  refine Run.loopK (ι := Nat) (fun j => j ≤ l.length) (fun j => l.length - j) (fun j => [(18, .rows Ku v18 33 1 (upTo l.length (pre (fP f) l) j))]) [0, 1, 4, 5, 6, 20] (fun j => [(21, i64 j), (7, u64 (pre (fP f) l j))]) 0 (by omega) rfl (Incl.same (t := 21) rfl (Incl.same (t := 7) rfl (Incl.pick [0, 1, 4, 5, 6, 20]))) ?_
  rintro j hj
  show Run _ _ _ [(21, _), (7, _), (0, _), (1, _), (4, _), (5, _), (6, _), (20, _)] _
  refine Run.seq ?_
  refine Run.region ?_
  refine Run.op rfl rfl rfl (y_lss rfl rfl) ?_
  refine Run.nil ?_
  refine Run.nT ?_
  refine Run.seq ?_
  refine Run.cond rfl (fun hb => ?_) (fun hb => ?_)
  · have hjl : j < l.length := by have := of_decide_eq_true hb; omega
    have hlj : 0 ≤ l.getD j 0 := by rw [List.getD_eq_getElem?_getD, List.getElem?_eq_getElem hjl]; exact hx _ (List.getElem_mem _)
    have hpj := hpb j
    refine Run.skip ?_
    refine Run.nT ?_
    refine Run.seq ?_
    refine Run.block ?_
    refine Run.seq ?_
    refine Run.region ?_
    refine Run.op rfl rfl rfl (y_move rfl) ?_
    refine Run.op rfl rfl rfl (y_assign rfl) ?_
    refine Run.nil ?_
    refine Run.nT ?_
    refine Run.seq ?_
    refine Run.region ?_
    refine Run.op rfl rfl rfl (y_move rfl) ?_
    refine Run.op rfl rfl rfl (y_move rfl) ?_
    refine Run.op rfl rfl rfl (y_move rfl) ?_
    refine Run.op rfl rfl rfl (y_indexR 18 (j) rfl rfl rfl Tryd.underlying29 ti33.siz (rfl) (by rw [rng_len]; exact hjl)) ?_
    refine q_storeR1 18 rfl rfl rfl ti33 (by rw [flatKu]; simp; omega) ?_
    refine Run.own (t := 18) rfl (row_put' (j := j) (by rw [rng_len]; omega) (upTo_put (g := pre (fP f) l) (by omega)) (by simp)) ?_
    refine Run.nil ?_
    refine Run.nT ?_
    refine Run.seq ?_
    refine Run.region ?_
    refine Run.op rfl rfl rfl (y_move rfl) ?_
    refine Run.op rfl rfl rfl (y_move rfl) ?_
    refine Run.op rfl rfl rfl (q_index (j) (_) rfl rfl Tryd.underlying29 ti33 (fun _ => rfl) (rfl) (getD_at hjl)) ?_
    refine Run.op rfl rfl rfl (y_load rfl Tryd.underlying33 rfl) ?_
    refine Run.op rfl rfl rfl (y_move rfl) ?_
    refine Run.op rfl rfl rfl (y_rem rfl rfl (by omega) (by first | exact tmod_of (by omega) | rfl)) ?_
    refine Run.op rfl rfl rfl (y_neq rfl rfl) ?_
    refine Run.nil ?_
    refine Run.nT ?_
    refine Run.cond rfl (fun hb => ?_) (fun hb => ?_)
    · have hnz : l.getD j 0 % fP f ≠ 0 := by simpa using hb
      refine Run.region ?_
      refine Run.op rfl rfl rfl (y_move rfl) ?_
      refine Run.op rfl rfl rfl (y_move rfl) ?_
      refine Run.op rfl rfl rfl (y_move rfl) ?_
      refine Run.op rfl rfl rfl (y_move rfl) ?_
      refine Run.op rfl rfl rfl (q_index (j) (_) rfl rfl Tryd.underlying29 ti33 (fun _ => rfl) (rfl) (getD_at hjl)) ?_
      refine Run.op rfl rfl rfl (y_load rfl Tryd.underlying33 rfl) ?_
      refine Run.op rfl rfl rfl (q_call en90 rfl (Mul_fn s _ _ _ hf hpj.1 hlj)) ?_
      refine Run.op rfl rfl rfl (y_assign rfl) ?_
      refine Run.nil ?_
      refine Run.nB ?_
      refine Run.nT ?_
      refine Run.region ?_
      refine Run.op rfl rfl rfl (y_add rfl rfl (by first | exact wI_in (by omega) | rfl)) ?_
      refine Run.op rfl rfl rfl (y_move rfl) ?_
      refine Run.nil ?_
      refine Run.nT ?_
      refine Run.round (j + 1) ?_ ?_ ?_ ?_
      · show j + 1 ≤ l.length; omega
      · show l.length - (j + 1) < l.length - j; omega
      · rfl
      · exact (Incl.int (t := 21) rfl (by omega) (Incl.int (t := 7) rfl (by rw [pre_succ hnz]) (Incl.same (t := 0) rfl (Incl.same (t := 1) rfl (Incl.same (t := 4) rfl (Incl.same (t := 5) rfl (Incl.same (t := 6) rfl (Incl.same (t := 20) rfl Incl.nil))))))))
    · have hnz : l.getD j 0 % fP f = 0 := by simpa using hb
      refine Run.skip ?_
      refine Run.nB ?_
      refine Run.nT ?_
      refine Run.region ?_
      refine Run.op rfl rfl rfl (y_add rfl rfl (by first | exact wI_in (by omega) | rfl)) ?_
      refine Run.op rfl rfl rfl (y_move rfl) ?_
      refine Run.nil ?_
      refine Run.nT ?_
      refine Run.round (j + 1) ?_ ?_ ?_ ?_
      · show j + 1 ≤ l.length; omega
      · show l.length - (j + 1) < l.length - j; omega
      · rfl
      · exact (Incl.int (t := 21) rfl (by omega) (Incl.int (t := 7) rfl (by rw [pre_zero hnz]) (Incl.same (t := 0) rfl (Incl.same (t := 1) rfl (Incl.same (t := 4) rfl (Incl.same (t := 5) rfl (Incl.same (t := 6) rfl (Incl.same (t := 20) rfl Incl.nil))))))))
  · obtain rfl : j = l.length := by have := of_decide_eq_false hb; omega
    refine Run.exit ?_
    refine Run.eT ?_
    refine Run.eT ?_
    refine Run.eB ?_
    refine Run.nT ?_
    refine Run.seq ?_
    refine Run.region ?_
    refine Run.op rfl rfl rfl (y_move rfl) ?_
    refine Run.op rfl rfl rfl (y_move rfl) ?_
    refine Run.op rfl rfl rfl (q_call en89 rfl (Inv_fn s _ _ hf (hpb _).1)) ?_
    refine Run.op rfl rfl rfl (y_assign rfl) ?_
    refine Run.nil ?_
    refine Run.nT ?_
    refine Run.seq ?_
    refine Run.seq ?_
    refine Run.region ?_
    refine Run.op rfl rfl rfl (y_move rfl) ?_
    refine Run.op rfl rfl rfl (y_lenS rfl Tryd.underlying29) ?_
    refine Run.op rfl rfl rfl (y_move rfl) ?_
    refine Run.nil ?_
    refine Run.nT ?_
    refine Run.block ?_
    refine Run.own (t := 18) (e' := Ent.rows Ku v18 33 1 (rng l.length (invG (fP f) l 0))) rfl (by rw [inv_first]) ?_
    refine Run.loopK (ι := Nat) (fun k => k ≤ l.length) (fun k => l.length - k) (fun k => [(18, .rows Ku v18 33 1 (rng l.length (invG (fP f) l k)))]) [0, 1, 4, 5, 6, 47] (fun k => [(48, i64 k), (9, u64 (finv (fP f) (pre (fP f) l (l.length - k))))]) 0 (by omega) rfl (Incl.same (t := 48) rfl (Incl.same (t := 9) rfl (Incl.pick [0, 1, 4, 5, 6, 47]))) ?_
    rintro k hk
    show Run _ _ _ [(48, _), (9, _), (0, _), (1, _), (4, _), (5, _), (6, _), (47, _)] _
    refine Run.seq ?_
    refine Run.region ?_
    refine Run.op rfl rfl rfl (y_lss rfl rfl) ?_
    refine Run.nil ?_
    refine Run.nT ?_
    refine Run.seq ?_
    refine Run.cond rfl (fun hb => ?_) (fun hb => ?_)
    · have hkl : k < l.length := by have := of_decide_eq_true hb; omega
      have hlj : 0 ≤ l.getD (l.length - 1 - k) 0 := by rw [List.getD_eq_getElem?_getD, List.getElem?_eq_getElem (by omega)]; exact hx _ (List.getElem_mem _)
      have hpj := hpb (l.length - 1 - k)
      have hE1 : l.length - k = (l.length - 1 - k) + 1 := by omega
      have hE2 : l.length - (k + 1) = l.length - 1 - k := by omega
      have hfl := finv_lt hp1 (pre (fP f) l (l.length - k))
      refine Run.skip ?_
      refine Run.nT ?_
      refine Run.seq ?_
      refine Run.block ?_
      refine Run.seq ?_
      refine Run.region ?_
      refine Run.op rfl rfl rfl (y_move rfl) ?_
      refine Run.op rfl rfl rfl (y_assign rfl) ?_
      refine Run.nil ?_
      refine Run.nT ?_
      refine Run.seq ?_
      refine Run.region ?_
      refine Run.op rfl rfl rfl (y_move rfl) ?_
      refine Run.op rfl rfl rfl (y_lenS rfl Tryd.underlying29) ?_
      refine Run.op rfl rfl rfl (y_sub rfl rfl (by first | exact wI_in (by omega) | rfl)) ?_
      refine Run.op rfl rfl rfl (y_move rfl) ?_
      refine Run.op rfl rfl rfl (y_sub rfl rfl (by first | exact wI_in (by omega) | rfl)) ?_
      refine Run.op rfl rfl rfl (y_assign rfl) ?_
      refine Run.nil ?_
      refine Run.nT ?_
      refine Run.seq ?_
      refine Run.seq ?_
      refine Run.region ?_
      refine Run.op rfl rfl rfl (y_move rfl) ?_
      refine Run.op rfl rfl rfl (y_move rfl) ?_
      refine Run.op rfl rfl rfl (q_index (l.length - 1 - k) (_) rfl rfl Tryd.underlying29 ti33 (fun _ => rfl) (by omega) (getD_at (by omega))) ?_
      refine Run.op rfl rfl rfl (y_load rfl Tryd.underlying33 rfl) ?_
      refine Run.op rfl rfl rfl (y_move rfl) ?_
      refine Run.op rfl rfl rfl (y_rem rfl rfl (by omega) (by first | exact tmod_of (by omega) | rfl)) ?_
      refine Run.op rfl rfl rfl (y_eql rfl rfl) ?_
      refine Run.nil ?_
      refine Run.nT ?_
      refine Run.cond rfl (fun hb => ?_) (fun hb => ?_)
      · have hz : l.getD (l.length - 1 - k) 0 % fP f = 0 := by simpa using hb
        refine Run.seq ?_
        refine Run.region ?_
        refine Run.op rfl rfl rfl (y_move rfl) ?_
        refine Run.op rfl rfl rfl (y_move rfl) ?_
        refine Run.op rfl rfl rfl (y_indexR 18 (l.length - 1 - k) rfl rfl rfl Tryd.underlying29 ti33.siz (by omega) (by rw [rng_len]; omega)) ?_
        refine q_storeR1 18 rfl rfl rfl ti33 (by rw [flatKu]; simp; omega) ?_
        refine Run.own (t := 18) rfl (row_put' (j := l.length - 1 - k) (by rw [rng_len]; omega) (inv_put0 hp1 hkl hz) (by simp)) ?_
        refine Run.nil ?_
        refine Run.nT ?_
        refine Run.exit ?_
        refine Run.eT ?_
        refine Run.eB ?_
        refine Run.nT ?_
        refine Run.region ?_
        refine Run.op rfl rfl rfl (y_add rfl rfl (by first | exact wI_in (by omega) | rfl)) ?_
        refine Run.op rfl rfl rfl (y_move rfl) ?_
        refine Run.nil ?_
        refine Run.nT ?_
        refine Run.round (k + 1) ?_ ?_ ?_ ?_
        · show k + 1 ≤ l.length; omega
        · show l.length - (k + 1) < l.length - k; omega
        · rfl
        · exact (Incl.int (t := 48) rfl (by omega) (Incl.int (t := 9) rfl (by rw [hE1, hE2, pre_zero hz]) (Incl.same (t := 0) rfl (Incl.same (t := 1) rfl (Incl.same (t := 4) rfl (Incl.same (t := 5) rfl (Incl.same (t := 6) rfl (Incl.same (t := 47) rfl Incl.nil))))))))
      · have hz : l.getD (l.length - 1 - k) 0 % fP f ≠ 0 := by simpa using hb
        have hio : pre (fP f) l (l.length - 1 - k) * finv (fP f) (pre (fP f) l (l.length - k)) % fP f = finv (fP f) (l.getD (l.length - 1 - k) 0) := by rw [hE1]; exact inv_out hpr hp1 hz
        refine Run.skip ?_
        refine Run.nT ?_
        refine Run.seq ?_
        refine Run.region ?_
        refine Run.op rfl rfl rfl (y_move rfl) ?_
        refine Run.op rfl rfl rfl (y_move rfl) ?_
        refine Run.op rfl rfl rfl (y_move rfl) ?_
        refine Run.op rfl rfl rfl (y_move rfl) ?_
        refine Run.op rfl rfl rfl (y_move rfl) ?_
        refine Run.op rfl rfl rfl (y_indexR 18 (l.length - 1 - k) rfl rfl rfl Tryd.underlying29 ti33.siz (by omega) (by rw [rng_len]; omega)) ?_
        refine Run.op rfl rfl rfl (y_loadR 18 rfl rfl (row_is (x := pre (fP f) l (l.length - 1 - k)) (by rw [rng_get (by omega)]; unfold invG; rw [if_pos (by omega)])) Tryd.underlying33 rfl) ?_
        refine Run.op rfl rfl rfl (y_move rfl) ?_
        refine Run.op rfl rfl rfl (q_call en90 rfl (Mul_fn s _ _ _ hf hpj.1 hfl.1)) ?_
        refine Run.op rfl rfl rfl (y_indexR 18 (l.length - 1 - k) rfl rfl rfl Tryd.underlying29 ti33.siz (by omega) (by rw [rng_len]; omega)) ?_
        refine q_storeR1 18 rfl rfl rfl ti33 (by rw [flatKu]; simp; omega) ?_
        refine Run.own (t := 18) rfl (row_put' (j := l.length - 1 - k) (by rw [rng_len]; omega) (inv_put1 hkl hio) (by simp)) ?_
        refine Run.nil ?_
        refine Run.nT ?_
        refine Run.region ?_
        refine Run.op rfl rfl rfl (y_move rfl) ?_
        refine Run.op rfl rfl rfl (y_move rfl) ?_
        refine Run.op rfl rfl rfl (y_move rfl) ?_
        refine Run.op rfl rfl rfl (y_move rfl) ?_
        refine Run.op rfl rfl rfl (q_index (l.length - 1 - k) (_) rfl rfl Tryd.underlying29 ti33 (fun _ => rfl) (by omega) (getD_at (by omega))) ?_
        refine Run.op rfl rfl rfl (y_load rfl Tryd.underlying33 rfl) ?_
        refine Run.op rfl rfl rfl (q_call en90 rfl (Mul_fn s _ _ _ hf hfl.1 hlj)) ?_
        refine Run.op rfl rfl rfl (y_assign rfl) ?_
        refine Run.nil ?_
        refine Run.nB ?_
        refine Run.nT ?_
        refine Run.region ?_
        refine Run.op rfl rfl rfl (y_add rfl rfl (by first | exact wI_in (by omega) | rfl)) ?_
        refine Run.op rfl rfl rfl (y_move rfl) ?_
        refine Run.nil ?_
        refine Run.nT ?_
        refine Run.round (k + 1) ?_ ?_ ?_ ?_
        · show k + 1 ≤ l.length; omega
        · show l.length - (k + 1) < l.length - k; omega
        · rfl
        · exact (Incl.int (t := 48) rfl (by omega) (Incl.int (t := 9) rfl (by rw [hE1, hE2, inv_rest hpr hp1 hz]) (Incl.same (t := 0) rfl (Incl.same (t := 1) rfl (Incl.same (t := 4) rfl (Incl.same (t := 5) rfl (Incl.same (t := 6) rfl (Incl.same (t := 47) rfl Incl.nil))))))))
    · obtain rfl : k = l.length := by have := of_decide_eq_false hb; omega
      refine Run.exit ?_
      refine Run.eT ?_
      refine Run.eT ?_
      refine Run.eB ?_
      refine Run.nT ?_
      refine Run.seq ?_
      refine Run.region ?_
      refine Run.op rfl rfl rfl (y_move rfl) ?_
      refine Run.op rfl rfl rfl (y_assign rfl) ?_
      refine Run.nil ?_
      refine Run.nT ?_
      refine Run.ret ?_
      refine Run.freeze (K := Ku) (l := rng l.length (invG (fP f) l l.length)) 18 4 rfl rfl ?_
      refine Run.fin1 rfl rfl rfl (.tmp rfl) (fun _ _ h => ?_)
      rw [inv_all] at h
      exact h

theorem next1_fn (z : Int) (i : Nat) (a b : List Int) (hz : 0 ≤ z ∧ z < 97) (ha : i < a.length) (hb_ : i < b.length) (hi : i < 100000) (hax : in97 a) (hbx : in97 b) : Fn s.env 138 [u64 z, i64 i, spts [i64 0], spts [slc Ku a], spts [slc Ku b]] (u64 (z * (a.getD i 0 * b.getD i 0 % 97) % 97)) := by
  have ha1 := in97_get hax ha
  have hb1 := in97_get hbx hb_
  have hm1 := em_lt (p := 97) (by omega) (a.getD i 0 * b.getD i 0)
  refine Fn.of Tryd.func138 rfl Tryd.ntmps138 rfl ?_
  intro w0 F0
  refine Run.seq ?_
  refine Run.region ?_
  refine Run.op rfl rfl rfl (y_assign rfl) ?_
  refine Run.nil ?_
  refine Run.nT ?_
  refine Run.seq ?_
  refine Run.weaken (Incl.same (t := 0) rfl (Incl.same (t := 1) rfl (Incl.same (t := 2) rfl (Incl.same (t := 3) rfl (Incl.same (t := 4) rfl Incl.nil))))) ?_
  refine q_draw ?_ rfl
  refine Draw.step rfl rfl rfl (StepOk.op rfl rfl rfl (y_load rfl Tryd.underlying3 rfl)) rfl ?_
  refine Draw.step rfl rfl rfl (StepOk.op rfl rfl rfl (y_move rfl)) rfl ?_
  refine Draw.step rfl rfl rfl (StepOk.op rfl rfl rfl (y_load rfl Tryd.underlying3 rfl)) rfl ?_
  refine Draw.step rfl rfl rfl (StepOk.op rfl rfl rfl (y_load rfl Tryd.underlying29 rfl)) rfl ?_
  refine Draw.step rfl rfl rfl (StepOk.op rfl rfl rfl (y_move rfl)) rfl ?_
  refine Draw.step rfl rfl rfl (StepOk.op rfl rfl rfl (q_index (i) (_) rfl rfl Tryd.underlying29 ti33 (fun _ => rfl) (rfl) (getD_at ha))) rfl ?_
  refine Draw.step rfl rfl rfl (StepOk.op rfl rfl rfl (y_load rfl Tryd.underlying33 rfl)) rfl ?_
  refine Draw.step rfl rfl rfl (StepOk.op rfl rfl rfl (y_load rfl Tryd.underlying29 rfl)) rfl ?_
  refine Draw.step rfl rfl rfl (StepOk.op rfl rfl rfl (y_move rfl)) rfl ?_
  refine Draw.step rfl rfl rfl (StepOk.op rfl rfl rfl (q_index (i) (_) rfl rfl Tryd.underlying29 ti33 (fun _ => rfl) (rfl) (getD_at hb_))) rfl ?_
  refine Draw.step rfl rfl rfl (StepOk.op rfl rfl rfl (y_load rfl Tryd.underlying33 rfl)) rfl ?_
  refine Draw.step rfl rfl rfl (StepOk.op rfl rfl rfl (q_call en90 rfl (Mul_fn s 0 _ _ rfl ha1.1 hb1.1))) rfl ?_
  refine Draw.step rfl rfl rfl (StepOk.op rfl rfl rfl (q_call en90 rfl (Mul_fn s 0 _ _ rfl hz.1 hm1.1))) rfl ?_
  refine Draw.step rfl rfl rfl (StepOk.op rfl rfl rfl (y_assign rfl)) rfl ?_
  refine Draw.tail (m := 14) rfl rfl rfl ?_
  refine Run.nil ?_
  refine Run.nT ?_
  refine Run.ret ?_
  exact Run.fin1 rfl rfl rfl (.tmp rfl) (fun _ _ h => h)

theorem next2_fn (z : Int) (i : Nat) (cs : List (List Int)) (ps : List Int) (hz : 0 ≤ z ∧ z < 97) (hcs : cs.length = 6) (hc : ∀ c ∈ cs, i < c.length ∧ in97 c) (hps : 2 * i + 1 < ps.length) (hpx : in97 ps) (hi : i < 100000) : Fn s.env 140 [u64 z, i64 i, spts [i64 0], spts (Ktr cs), spts (Klo look14), spts [slc Ku ps]] (u64 (((z + ps.getD (2 * i) 0) % 97 - (cs.getD 5 []).getD i 0 * ps.getD (2 * i + 1) 0 % 97) % 97)) := by
  have hcm := hc _ (getD_mem (cs := cs) (j := 5) (by omega))
  have hn1 := in97_get hcm.2 hcm.1
  have hp0 := in97_get hpx (show 2 * i < ps.length by omega)
  have hp1 := in97_get hpx hps
  have hu := em_lt (p := 97) (by omega) ((cs.getD 5 []).getD i 0 * ps.getD (2 * i + 1) 0)
  have hs := em_lt (p := 97) (by omega) (z + ps.getD (2 * i) 0)
  refine Fn.of Tryd.func140 rfl Tryd.ntmps140 rfl ?_
  intro w0 F0
  refine Run.seq ?_
  refine Run.region ?_
  refine Run.op rfl rfl rfl (y_assign rfl) ?_
  refine Run.nil ?_
  refine Run.nT ?_
  refine Run.seq ?_
  refine Run.weaken (Incl.same (t := 0) rfl (Incl.same (t := 1) rfl (Incl.same (t := 2) rfl (Incl.same (t := 3) rfl (Incl.same (t := 4) rfl (Incl.same (t := 5) rfl (Incl.same (t := 8) rfl Incl.nil))))))) ?_
  refine q_draw ?_ rfl
  refine Draw.step rfl rfl rfl (StepOk.op rfl rfl rfl (y_load rfl Tryd.underlying3 rfl)) rfl ?_
  refine Draw.step rfl rfl rfl (StepOk.op rfl rfl rfl (y_field rfl Tryd.underlying68 rfl ti61.siz rfl)) rfl ?_
  refine Draw.step rfl rfl rfl (StepOk.op rfl rfl rfl (y_load rfl Tryd.underlying61 rfl)) rfl ?_
  refine Draw.step rfl rfl rfl (StepOk.op rfl rfl rfl (y_field rfl Tryd.underlying135 rfl ti128.siz rfl)) rfl ?_
  refine Draw.step rfl rfl rfl (StepOk.op rfl rfl rfl (y_field rfl Tryd.underlying128 rfl ti3.siz rfl)) rfl ?_
  refine Draw.step rfl rfl rfl (StepOk.op rfl rfl rfl (y_load rfl Tryd.underlying3 rfl)) rfl ?_
  refine Draw.step rfl rfl rfl (StepOk.op rfl rfl rfl (q_index (5) (cs.getD 5 []) rfl rfl Tryd.underlying61 ti29 (fun _ => rfl) (rfl) (getDl_at (by omega)))) rfl ?_
  refine Draw.step rfl rfl rfl (StepOk.op rfl rfl rfl (y_load rfl Tryd.underlying29 rfl)) rfl ?_
  refine Draw.step rfl rfl rfl (StepOk.op rfl rfl rfl (y_move rfl)) rfl ?_
  refine Draw.step rfl rfl rfl (StepOk.op rfl rfl rfl (q_index (i) (_) rfl rfl Tryd.underlying29 ti33 (fun _ => rfl) (rfl) (getD_at hcm.1))) rfl ?_
  refine Draw.step rfl rfl rfl (StepOk.op rfl rfl rfl (y_load rfl Tryd.underlying33 rfl)) rfl ?_
  refine Draw.step rfl rfl rfl (StepOk.op rfl rfl rfl (y_load rfl Tryd.underlying29 rfl)) rfl ?_
  refine Draw.step rfl rfl rfl (StepOk.op rfl rfl rfl (y_move rfl)) rfl ?_
  refine Draw.step rfl rfl rfl (StepOk.op rfl rfl rfl (y_mul rfl rfl (by first | exact wI_in (by omega) | rfl))) rfl ?_
  refine Draw.step rfl rfl rfl (StepOk.op rfl rfl rfl (y_add rfl rfl (by first | exact wI_in (by omega) | rfl))) rfl ?_
  refine Draw.step rfl rfl rfl (StepOk.op rfl rfl rfl (q_index (2 * i + 1) (_) rfl rfl Tryd.underlying29 ti33 (fun _ => rfl) (by omega) (getD_at hps))) rfl ?_
  refine Draw.step rfl rfl rfl (StepOk.op rfl rfl rfl (y_load rfl Tryd.underlying33 rfl)) rfl ?_
  refine Draw.step rfl rfl rfl (StepOk.op rfl rfl rfl (q_call en90 rfl (Mul_fn s 0 _ _ rfl hn1.1 hp1.1))) rfl ?_
  refine Draw.step rfl rfl rfl (StepOk.op rfl rfl rfl (y_assign rfl)) rfl ?_
  refine Draw.tail (m := 19) rfl rfl rfl ?_
  refine Run.nil ?_
  refine Run.nT ?_
  refine Run.seq ?_
  refine Run.weaken (Incl.same (t := 0) rfl (Incl.same (t := 1) rfl (Incl.same (t := 2) rfl (Incl.same (t := 3) rfl (Incl.same (t := 4) rfl (Incl.same (t := 5) rfl (Incl.same (t := 9) rfl Incl.nil))))))) ?_
  refine q_draw ?_ rfl
  refine Draw.step rfl rfl rfl (StepOk.op rfl rfl rfl (y_load rfl Tryd.underlying3 rfl)) rfl ?_
  refine Draw.step rfl rfl rfl (StepOk.op rfl rfl rfl (y_load rfl Tryd.underlying3 rfl)) rfl ?_
  refine Draw.step rfl rfl rfl (StepOk.op rfl rfl rfl (y_move rfl)) rfl ?_
  refine Draw.step rfl rfl rfl (StepOk.op rfl rfl rfl (y_load rfl Tryd.underlying29 rfl)) rfl ?_
  refine Draw.step rfl rfl rfl (StepOk.op rfl rfl rfl (y_move rfl)) rfl ?_
  refine Draw.step rfl rfl rfl (StepOk.op rfl rfl rfl (y_mul rfl rfl (by first | exact wI_in (by omega) | rfl))) rfl ?_
  refine Draw.step rfl rfl rfl (StepOk.op rfl rfl rfl (q_index (2 * i) (_) rfl rfl Tryd.underlying29 ti33 (fun _ => rfl) (by omega) (getD_at (by omega)))) rfl ?_
  refine Draw.step rfl rfl rfl (StepOk.op rfl rfl rfl (y_load rfl Tryd.underlying33 rfl)) rfl ?_
  refine Draw.step rfl rfl rfl (StepOk.op rfl rfl rfl (q_call en106 rfl (Add_fn s 0 _ _ rfl hz.1 hp0.1))) rfl ?_
  refine Draw.step rfl rfl rfl (StepOk.op rfl rfl rfl (y_move rfl)) rfl ?_
  refine Draw.step rfl rfl rfl (StepOk.op rfl rfl rfl (q_buildL (K := Ku) ([_, _]) Tryd.underlying29 ti33 rfl rfl rfl (.cons rfl (Part.one' rfl) rfl (.cons rfl (Part.one' rfl) rfl .nil)) rfl)) rfl ?_
  refine Draw.step rfl rfl rfl (StepOk.op rfl rfl rfl (q_call en141 rfl (less_fn s 0 _ _ rfl hs.1 hu.1))) rfl ?_
  refine Draw.step rfl rfl rfl (StepOk.op rfl rfl rfl (y_assign rfl)) rfl ?_
  refine Draw.tail (m := 13) rfl rfl rfl ?_
  refine Run.nil ?_
  refine Run.nT ?_
  refine Run.ret ?_
  exact Run.fin1 rfl rfl rfl (.tmp rfl) (fun _ _ h => h)

end

end Go.Vx
