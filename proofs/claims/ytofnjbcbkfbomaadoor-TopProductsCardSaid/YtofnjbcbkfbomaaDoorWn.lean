/- Walks: the columns of the argument. Conditions: as each says. Printed by a program of our own (wip/tools/gen2.py). -/
import Derived.Test.YtofnjbcbkfbomaaDoorWm
namespace Go.Vx
open Go Go.RowKit Go.Proofs
set_option maxRecDepth 100000
variable (s : Seat)

section
variable [hF : HasF s]
theorem rowM_main {cs : List (List Int)} {t : List Int} {N j : Nat} (hj : j < N) (hc : ∀ c ∈ cs, c.length = N ∧ in97 c) : in97 (rowM cs t j).1 := by
  intro x hx
  obtain ⟨q, hq, rfl⟩ := List.mem_map.1 hx
  have hq' : q < cs.length := by simpa using hq
  have h1 := hc _ (getD_mem hq')
  exact in97_get h1.2 (by rw [h1.1]; exact hj)
theorem rowM_fix {cs : List (List Int)} {t : List Int} {N j : Nat} (hj : j < N) (ht : t.length = N) (h97 : in97 t) : in97 (rowM cs t j).2 := by
  intro x hx
  obtain ⟨q, hq, rfl⟩ := List.mem_map.1 hx
  have hq' : q = 0 := by simp at hq; omega
  subst hq'
  exact in97_get h97 (by omega)
theorem in97_inv (l : List Int) : in97 (l.map (finv (fP 0))) := fun x hx => by
  obtain ⟨y, _, rfl⟩ := List.mem_map.1 hx
  exact finv_lt (p := 97) (by decide) y
theorem in97_rng {n : Nat} {g : Nat → Int} (h : ∀ i, i < n → 0 ≤ g i ∧ g i < 97) : in97 (rng n g) := fun x hx => by
  obtain ⟨q, hq, rfl⟩ := List.mem_map.1 hx
  exact h q (by simpa using hq)
theorem in97_prt {u w : Nat → Int} : ∀ {n : Nat}, (∀ i, i < n → (0 ≤ u i ∧ u i < 97) ∧ (0 ≤ w i ∧ w i < 97)) → in97 (prt u w n)
  | 0, _ => fun x hx => by cases hx
  | n + 1, h => fun x hx => by
    unfold prt at hx
    rcases List.mem_append.1 hx with hx | hx
    · exact in97_prt (fun i hi => h i (by omega)) x hx
    · have := h n (by omega)
      simp at hx
      rcases hx with rfl | rfl
      · exact this.1
      · exact this.2
theorem map_getD (l : List Int) (f : Int → Int) (i : Nat) (h : i < l.length) : (l.map f).getD i 0 = f (l.getD i 0) := by
  rw [List.getD_eq_getElem?_getD, List.getElem?_map, List.getD_eq_getElem?_getD, List.getElem?_eq_getElem h]; rfl

set_option maxHeartbeats 4000000 in
theorem columns14_fn (k : Nat) (hk : 1 ≤ k ∧ k ≤ 3) (t : List Int) (ht : t.length = 2 ^ k) (h97 : in97 t) (cs : List (List Int)) (hcs : cs.length = 6) (hc : ∀ c ∈ cs, c.length = 2 ^ k ∧ in97 c) (c d : Int) (hc_ : 0 ≤ c ∧ c < 97) (hd_ : 0 ≤ d ∧ d < 97) : Fn s.env 79 [sagg (Ksys k t), sagg (Ktr cs), u64 c, u64 d] (stup [slc Kc (colsR cs t c d (2 ^ k)), i64 (errR cs t c d (2 ^ k))]) := by
  have hp8 := pow2_le (k := k) (m := 3) (by omega)
  have hp8 : 2 ^ k ≤ 8 := hp8
  have hP1 : ∀ l ∈ perm14.1, l.length ≤ 4 ∧ ∀ v ∈ l, vok v := by simp [perm14, vok]; intro a b h; omega
  have hP2 : ∀ l ∈ perm14.2, l.length ≤ 4 ∧ ∀ v ∈ l, vok v := by simp [perm14, vok]; intro a b h; omega
  have hL1 : ∀ v ∈ look14.1, vok v := by simp [look14, vok]
  have hL2 : ∀ v ∈ look14.2.1, vok v := by simp [look14, vok]
  have hp97 : (0 : Int) < fP 0 := by decide
  have hcm5 := getD_mem (cs := cs) (j := 5) (by omega)
  refine Fn.of Tryd.func79 rfl Tryd.ntmps79 rfl ?_
  intro w0 F0
  refine Run.seq ?_
  refine Run.region ?_
  refine Run.boxA rfl rfl ?_
  intro b4
  refine Run.freezeB 4 4 rfl rfl ?_
  refine Run.boxA rfl rfl ?_
  intro b5
  refine Run.freezeB 5 5 rfl rfl ?_
  refine Run.op rfl rfl rfl (y_assign rfl) ?_
  refine Run.op rfl rfl rfl (y_assign rfl) ?_
  refine Run.nil ?_
  refine Run.nT ?_
  refine Run.seq ?_
  refine Run.region ?_
  refine Run.op rfl rfl rfl (y_field rfl Tryd.underlying66 rfl ti3.siz rfl) ?_
  refine Run.op rfl rfl rfl (y_load rfl Tryd.underlying3 rfl) ?_
  refine q_alloc ti3 rfl rfl ?_
  intro b10
  refine q_store1 10 rfl rfl rfl ti3 (Nat.le_of_ble_eq_true rfl) ?_
  refine Run.freezeB 10 10 rfl rfl ?_
  refine Run.nil ?_
  refine Run.nT ?_
  refine Run.seq ?_
  refine Run.seq ?_
  refine Run.region ?_
  refine Run.op rfl rfl rfl (y_loadW rfl Tryd.underlying66 rfl ti66.siz) ?_
  refine Run.op rfl rfl rfl (y_loadW rfl Tryd.underlying68 rfl ti68.siz) ?_
  refine Run.op rfl rfl rfl (Yields.bool (c := true) (q_call en117 rfl (fits_fn s k hk t ht h97 cs hcs hc)) (rfl)) ?_
  refine Run.op rfl rfl rfl (y_not rfl) ?_
  refine Run.op rfl rfl rfl (y_move rfl) ?_
  refine Run.opG rfl rfl rfl rfl rfl (y_move rfl) ?_
  refine Run.opG rfl rfl rfl rfl rfl (y_move rfl) ?_
  refine Run.opG rfl rfl rfl rfl rfl (y_max rfl rfl) ?_
  refine Run.opG rfl rfl rfl rfl rfl (y_load rfl Tryd.underlying3 rfl) ?_
  refine Run.opG rfl rfl rfl rfl rfl (q_call en109 rfl (P_fn s _)) ?_
  refine Run.opG rfl rfl rfl rfl rfl (Yields.bool (c := false) (y_geq rfl rfl) (by rw [decide_eq_false_iff_not, fP0]; split <;> omega)) ?_
  refine Run.op rfl rfl rfl (y_pickF rfl rfl) ?_
  refine Run.nil ?_
  refine Run.nT ?_
  refine Run.cond0 rfl ?_
  refine Run.skip ?_
  refine Run.nT ?_
  refine Run.seq ?_
  refine Run.region ?_
  refine Run.op rfl rfl rfl (y_field rfl Tryd.underlying66 rfl ti3.siz rfl) ?_
  refine Run.op rfl rfl rfl (y_load rfl Tryd.underlying3 rfl) ?_
  refine Run.op rfl rfl rfl (y_shl (r := ((2 ^ k : Nat) : Int)) rfl rfl (by omega) (shl1 (by omega))) ?_
  refine q_make (K := KrwO c d) (none) rfl rfl (rfl) (rfl) Tryd.underlying208 ti211 rfl rfl rfl (by omega) rfl ?_
  intro v42
  refine Run.own (t := 42) (e' := Ent.rows (KrwO c d) v42 211 5 (rowsO cs t (2 ^ k) 0)) rfl (by rw [rowsO_zero]) ?_
  refine Run.op rfl rfl rfl (y_assign rfl) ?_
  refine Run.nil ?_
  refine Run.nT ?_
  refine Run.seq ?_
  refine Run.seq ?_
  refine Run.region ?_
  refine Run.op rfl rfl rfl (y_move rfl) ?_
  refine Run.op rfl rfl rfl (y_lenR 42 rfl rfl Tryd.underlying208) ?_
  refine Run.op rfl rfl rfl (y_move rfl) ?_
  refine Run.nil ?_
  refine Run.nT ?_
  refine Run.block ?_
  refine Run.loopK (ι := Nat) (fun j => j ≤ 2 ^ k) (fun j => 2 ^ k - j) (fun j => [(42, .rows (KrwO c d) v42 211 5 (rowsO cs t (2 ^ k) j))]) [2, 3, 4, 5, 8, 9, 10, 11, 44] (fun j => [(45, i64 j)]) 0 (by omega) rfl (Incl.same (t := 45) rfl (Incl.pick [2, 3, 4, 5, 8, 9, 10, 11, 44])) ?_
  rintro j hj
  refine Run.seq ?_
  refine Run.region ?_
  refine Run.op rfl rfl rfl (y_lss rfl rfl) ?_
  refine Run.nil ?_
  refine Run.nT ?_
  refine Run.seq ?_
  refine Run.cond rfl (fun hb => ?_) (fun hb => ?_)
  · have hjl : j < 2 ^ k := by have := of_decide_eq_true hb; rw [rowsO_len] at this; omega
    refine Run.skip ?_
    refine Run.nT ?_
    refine Run.seq ?_
    refine Run.block ?_
    refine Run.seq ?_
    refine Run.region ?_
    refine Run.op rfl rfl rfl (y_move rfl) ?_
    refine Run.op rfl rfl rfl (y_assign rfl) ?_
    refine Run.nil ?_
    refine Run.nT ?_
    refine Run.weaken (Incl.same (t := 45) rfl (Incl.same (t := 2) rfl (Incl.same (t := 3) rfl (Incl.same (t := 4) rfl (Incl.same (t := 5) rfl (Incl.same (t := 8) rfl (Incl.same (t := 9) rfl (Incl.same (t := 10) rfl (Incl.same (t := 11) rfl (Incl.same (t := 44) rfl (Incl.same (t := 12) rfl Incl.nil))))))))))) ?_
    refine q_draw ?_ rfl
    refine Draw.step rfl rfl rfl (StepOk.op rfl rfl rfl (y_move rfl)) rfl ?_
    refine Draw.step rfl rfl rfl (StepOk.op rfl rfl rfl (y_move rfl)) rfl ?_
    refine Draw.step rfl rfl rfl (StepOk.op rfl rfl rfl (y_load rfl Tryd.underlying3 rfl)) rfl ?_
    refine Draw.step rfl rfl rfl (StepOk.op rfl rfl rfl (y_field rfl Tryd.underlying68 rfl ti61.siz rfl)) rfl ?_
    refine Draw.step rfl rfl rfl (StepOk.op rfl rfl rfl (y_load rfl Tryd.underlying61 rfl)) rfl ?_
    refine Draw.step rfl rfl rfl (StepOk.op rfl rfl rfl (y_move rfl)) rfl ?_
    refine Draw.step rfl rfl rfl (StepOk.op rfl rfl rfl (q_call en133 rfl (at_fn s cs (by omega) j (fun q hq => by rw [(hc q hq).1]; exact hjl) (by omega)))) rfl ?_
    refine Draw.step rfl rfl rfl (StepOk.op rfl rfl rfl (y_field rfl Tryd.underlying66 rfl ti61.siz rfl)) rfl ?_
    refine Draw.step rfl rfl rfl (StepOk.op rfl rfl rfl (y_load rfl Tryd.underlying61 rfl)) rfl ?_
    refine Draw.step rfl rfl rfl (StepOk.op rfl rfl rfl (y_move rfl)) rfl ?_
    refine Draw.step rfl rfl rfl (StepOk.op rfl rfl rfl (q_call en133 rfl (at_fn s [t] (by simp) j (fun q hq => by simp at hq; subst hq; omega) (by omega)))) rfl ?_
    refine Draw.step rfl rfl rfl (StepOk.op rfl rfl rfl (y_move rfl)) rfl ?_
    refine Draw.step rfl rfl rfl (StepOk.op rfl rfl rfl (y_move rfl)) rfl ?_
    refine Draw.step rfl rfl rfl (StepOk.op rfl rfl rfl (q_buildS [(0, 1), (1, 1), (2, 1), (3, 1), (4, 1)] Tryd.underlying211 ti211 rfl (fun w => by simp [run_sizeOf ti29.siz, run_sizeOf ti3.siz, run_sizeOf ti33.siz]) (.cons rfl (Part.one' rfl) rfl (.cons rfl (Part.one' rfl) rfl (.cons rfl (Part.one' rfl) rfl (.cons rfl (Part.one' rfl) rfl (.cons rfl (Part.one' rfl) rfl .nil))))))) rfl ?_
    refine Draw.step rfl rfl rfl (StepOk.op rfl rfl rfl (y_indexR 42 (j) rfl rfl rfl Tryd.underlying208 ti211.siz (rfl) (by rw [rowsO_len]; exact hjl))) rfl ?_
    refine Draw.tail (m := 15) rfl rfl rfl ?_
    refine Run.storeRA 42 rfl rfl rfl ti211.siz (by rw [List.length_flatMap, List.map_congr_left (g := fun _ => 5) (fun x _ => KrwO_len c d x), List.map_const', List.sum_replicate_nat, rowsO_len]; show j * 5 + 5 ≤ _; omega) ?_
    refine Run.own (t := 42) rfl (rowsO_own hjl) ?_
    refine Run.nil ?_
    refine Run.nB ?_
    refine Run.nT ?_
    refine Run.region ?_
    refine Run.op rfl rfl rfl (y_add rfl rfl (by first | exact wI_in (by omega) | rfl)) ?_
    refine Run.op rfl rfl rfl (y_move rfl) ?_
    refine Run.nil ?_
    refine Run.nT ?_
    refine Run.round (j + 1) ?_ ?_ ?_ ?_
    · show j + 1 ≤ 2 ^ k; omega
    · show 2 ^ k - (j + 1) < 2 ^ k - j; omega
    · rfl
    · exact (Incl.int (t := 45) rfl (by omega) (Incl.same (t := 2) rfl (Incl.same (t := 3) rfl (Incl.same (t := 4) rfl (Incl.same (t := 5) rfl (Incl.same (t := 8) rfl (Incl.same (t := 9) rfl (Incl.same (t := 10) rfl (Incl.same (t := 11) rfl (Incl.same (t := 44) rfl Incl.nil))))))))))
  · obtain rfl : j = 2 ^ k := by have := of_decide_eq_false hb; rw [rowsO_len] at this; omega
    refine Run.freeze (K := KrwO c d) (l := rowsO cs t (2 ^ k) (2 ^ k)) 42 11 rfl rfl ?_
    refine Run.exit ?_
    refine Run.eT ?_
    refine Run.eT ?_
    refine Run.eB ?_
    refine Run.nT ?_
    refine Run.seq ?_
    refine Run.region ?_
    refine Run.op rfl rfl rfl (y_assign rfl) ?_
    refine q_nilRow 13 (Kc) 29 1 ?_
    refine Run.nil ?_
    refine Run.nT ?_
    refine Run.seq ?_
    refine Run.seq ?_
    refine Run.region ?_
    refine Run.op rfl rfl rfl (y_field rfl Tryd.underlying66 rfl ti63.siz rfl) ?_
    refine Run.op rfl rfl rfl (y_load rfl Tryd.underlying63 rfl) ?_
    refine Run.op rfl rfl rfl (y_lenS rfl Tryd.underlying63) ?_
    refine Run.op rfl rfl rfl (y_move rfl) ?_
    refine Run.nil ?_
    refine Run.nT ?_
    refine Run.block ?_
    refine Run.loopK (ι := Nat × Value × List (List Int)) (fun ⟨j, v, l⟩ => j ≤ 1 ∧ (j = 0 → l = []) ∧ (j = 1 → l = [rng (2 ^ k) (colZ cs t c d)] ∧ noneZ cs t c d (2 ^ k) = false)) (fun ⟨j, v, l⟩ => 1 - j) (fun ⟨j, v, l⟩ => [(13, .rows Kc v 29 1 l)]) [4, 5, 10, 11, 65, 66] (fun ⟨j, v, l⟩ => [(67, i64 j), (13, sval v)]) (0, .slice none 0 0, []) ⟨by omega, fun _ => rfl, fun h => (by cases h)⟩ rfl (Incl.same (t := 67) rfl (Incl.same (t := 13) rfl (Incl.pick [4, 5, 10, 11, 65, 66]))) ?_
    rintro ⟨j, v, l⟩ ⟨hj, hl0, hl1⟩
    refine Run.seq ?_
    refine Run.region ?_
    refine Run.op rfl rfl rfl (y_lss rfl rfl) ?_
    refine Run.nil ?_
    refine Run.nT ?_
    refine Run.seq ?_
    refine Run.cond rfl (fun hb => ?_) (fun hb => ?_)
    · obtain rfl : j = 0 := by have : (j : Int) < 1 := of_decide_eq_true hb; omega
      obtain rfl := hl0 rfl
      refine Run.skip ?_
      refine Run.nT ?_
      refine Run.seq ?_
      refine Run.block ?_
      refine Run.seq ?_
      refine Run.region ?_
      refine Run.op rfl rfl rfl (q_index (0) (perm14) rfl rfl Tryd.underlying63 ti133 (fun _ => rfl) (rfl) (rfl)) ?_
      refine Run.op rfl rfl rfl (y_loadW rfl Tryd.underlying133 rfl ti133.siz) ?_
      refine q_alloc ti133 rfl rfl ?_
      intro b15
      refine Run.storeW 15 rfl rfl rfl ti133.siz rfl ?_
      refine Run.freezeB 15 15 rfl rfl ?_
      refine Run.nil ?_
      refine Run.nT ?_
      refine Run.seq ?_
      refine Run.region ?_
      refine q_alloc ti29 rfl rfl ?_
      intro b16
      refine q_nilRow 1016 Ku 33 1 ?_
      refine q_alloc ti29 rfl rfl ?_
      intro b17
      refine q_nilRow 1017 Ku 33 1 ?_
      refine Run.nil ?_
      refine Run.nT ?_
      refine Run.seq ?_
      refine Run.seq ?_
      refine Run.region ?_
      refine Run.op rfl rfl rfl (y_move rfl) ?_
      refine Run.op rfl rfl rfl (y_lenS rfl Tryd.underlying208) ?_
      refine Run.op rfl rfl rfl (y_move rfl) ?_
      refine Run.nil ?_
      refine Run.nT ?_
      refine Run.block ?_
      refine Run.loopK (ι := Nat × Value × Value) (fun ⟨j, v1, v2⟩ => j ≤ 2 ^ k) (fun ⟨j, v1, v2⟩ => 2 ^ k - j) (fun ⟨j, v1, v2⟩ => [(16, .blk b16 29 [sval v1]), (1016, .rows Ku v1 33 1 (rng j (LW cs t c d))), (17, .blk b17 29 [sval v2]), (1017, .rows Ku v2 33 1 (rng j (RW cs t c d)))]) [67, 13, 4, 5, 10, 11, 65, 66, 15, 16, 17, 71, 72] (fun ⟨j, v1, v2⟩ => [(73, i64 j)]) (0, .slice none 0 0, .slice none 0 0) (by show 0 ≤ _; omega) rfl (Incl.same (t := 73) rfl (Incl.pick [67, 13, 4, 5, 10, 11, 65, 66, 15, 16, 17, 71, 72])) ?_
      rintro ⟨j, v1, v2⟩ hj
      have hj : j ≤ 2 ^ k := hj
      refine Run.seq ?_
      refine Run.region ?_
      refine Run.op rfl rfl rfl (y_lss rfl rfl) ?_
      refine Run.nil ?_
      refine Run.nT ?_
      refine Run.seq ?_
      refine Run.cond rfl (fun hb => ?_) (fun hb => ?_)
      · have hjl : j < 2 ^ k := by rw [decide_eq_true_eq, rowsO_len] at hb; omega
        have hr1 := rowM_main (t := t) hjl hc
        have hr2 := rowM_fix (cs := cs) hjl ht h97
        refine Run.skip ?_
        refine Run.nT ?_
        refine Run.seq ?_
        refine Run.block ?_
        refine Run.seq ?_
        refine Run.region ?_
        refine Run.op rfl rfl rfl (q_index (j) (some (rowM cs t j)) rfl rfl Tryd.underlying208 ti211 (KrwO_len c d) (rfl) (rowsO_get hjl)) ?_
        refine Run.op rfl rfl rfl (y_loadW rfl Tryd.underlying211 rfl ti211.siz) ?_
        refine q_alloc ti211 rfl rfl ?_
        intro b19
        refine Run.storeW 19 rfl rfl rfl ti211.siz rfl ?_
        refine Run.freezeB 19 19 rfl rfl ?_
        refine Run.nil ?_
        refine Run.nT ?_
        refine Run.seq ?_
        refine Run.weaken (Incl.same (t := 73) rfl (Incl.same (t := 67) rfl (Incl.same (t := 13) rfl (Incl.same (t := 4) rfl (Incl.same (t := 5) rfl (Incl.same (t := 10) rfl (Incl.same (t := 11) rfl (Incl.same (t := 65) rfl (Incl.same (t := 66) rfl (Incl.same (t := 15) rfl (Incl.same (t := 16) rfl (Incl.same (t := 17) rfl (Incl.same (t := 71) rfl (Incl.same (t := 72) rfl (Incl.same (t := 19) rfl Incl.nil))))))))))))))) ?_
        refine q_draw ?_ rfl
        refine Draw.step rfl rfl rfl (StepOk.op rfl rfl rfl (y_loadP 16 rfl rfl (rfl) Tryd.underlying29 rfl)) rfl ?_
        refine Draw.step rfl rfl rfl (StepOk.op rfl rfl rfl (y_loadW rfl Tryd.underlying211 rfl ti211.siz)) rfl ?_
        refine Draw.step rfl rfl rfl (StepOk.op rfl rfl rfl (y_field rfl Tryd.underlying133 rfl ti131.siz rfl)) rfl ?_
        refine Draw.step rfl rfl rfl (StepOk.op rfl rfl rfl (y_load rfl Tryd.underlying131 rfl)) rfl ?_
        refine Draw.step rfl rfl rfl (StepOk.op rfl rfl rfl (q_call en134 rfl (product_fn s 0 c d rfl hc_.1 hd_.1 (rowM cs t j) (by rw [show (rowM cs t j).1.length = cs.length by simp [rowM]]; exact hcs) (by simp [rowM]) (fun x hx => (hr1 x hx).1) (fun x hx => (hr2 x hx).1) perm14.1 (by simp [perm14]) hP1))) rfl ?_
        refine Draw.step rfl rfl rfl (StepOk.op rfl rfl rfl (q_buildL (K := Ku) ([_]) Tryd.underlying29 ti33 rfl rfl rfl (.cons rfl (Part.one' rfl) rfl .nil) rfl)) rfl ?_
        refine Draw.tail (m := 6) rfl rfl rfl ?_
        refine q_append 1016 rfl rfl rfl Tryd.underlying29 ti33 rfl rfl (fun _ => rfl) (by simp; omega) rfl ?_
        intro v83
        refine Run.own (t := 1016) (e' := Ent.rows Ku v83 33 1 (rng (j + 1) (LW cs t c d))) rfl (by rw [← rng_snoc]; rfl) ?_
        refine q_store1V 1016 16 rfl rfl rfl rfl ti29 (Nat.le_of_ble_eq_true rfl) ?_
        refine Run.nil ?_
        refine Run.nT ?_
        refine Run.weaken (Incl.same (t := 73) rfl (Incl.same (t := 67) rfl (Incl.same (t := 13) rfl (Incl.same (t := 4) rfl (Incl.same (t := 5) rfl (Incl.same (t := 10) rfl (Incl.same (t := 11) rfl (Incl.same (t := 65) rfl (Incl.same (t := 66) rfl (Incl.same (t := 15) rfl (Incl.same (t := 16) rfl (Incl.same (t := 17) rfl (Incl.same (t := 71) rfl (Incl.same (t := 72) rfl (Incl.same (t := 19) rfl Incl.nil))))))))))))))) ?_
        refine q_draw ?_ rfl
        refine Draw.step rfl rfl rfl (StepOk.op rfl rfl rfl (y_loadP 17 rfl rfl (rfl) Tryd.underlying29 rfl)) rfl ?_
        refine Draw.step rfl rfl rfl (StepOk.op rfl rfl rfl (y_loadW rfl Tryd.underlying211 rfl ti211.siz)) rfl ?_
        refine Draw.step rfl rfl rfl (StepOk.op rfl rfl rfl (y_field rfl Tryd.underlying133 rfl ti131.siz rfl)) rfl ?_
        refine Draw.step rfl rfl rfl (StepOk.op rfl rfl rfl (y_load rfl Tryd.underlying131 rfl)) rfl ?_
        refine Draw.step rfl rfl rfl (StepOk.op rfl rfl rfl (q_call en134 rfl (product_fn s 0 c d rfl hc_.1 hd_.1 (rowM cs t j) (by rw [show (rowM cs t j).1.length = cs.length by simp [rowM]]; exact hcs) (by simp [rowM]) (fun x hx => (hr1 x hx).1) (fun x hx => (hr2 x hx).1) perm14.2 (by simp [perm14]) hP2))) rfl ?_
        refine Draw.step rfl rfl rfl (StepOk.op rfl rfl rfl (q_buildL (K := Ku) ([_]) Tryd.underlying29 ti33 rfl rfl rfl (.cons rfl (Part.one' rfl) rfl .nil) rfl)) rfl ?_
        refine Draw.tail (m := 6) rfl rfl rfl ?_
        refine q_append 1017 rfl rfl rfl Tryd.underlying29 ti33 rfl rfl (fun _ => rfl) (by simp; omega) rfl ?_
        intro v90
        refine Run.own (t := 1017) (e' := Ent.rows Ku v90 33 1 (rng (j + 1) (RW cs t c d))) rfl (by rw [← rng_snoc]; rfl) ?_
        refine q_store1V 1017 17 rfl rfl rfl rfl ti29 (Nat.le_of_ble_eq_true rfl) ?_
        refine Run.nil ?_
        refine Run.nB ?_
        refine Run.nT ?_
        refine Run.region ?_
        refine Run.op rfl rfl rfl (y_add rfl rfl (by first | exact wI_in (by omega) | rfl)) ?_
        refine Run.op rfl rfl rfl (y_move rfl) ?_
        refine Run.nil ?_
        refine Run.nT ?_
        refine Run.round (j + 1, v83, v90) ?_ ?_ ?_ ?_
        · show j + 1 ≤ 2 ^ k; omega
        · show 2 ^ k - (j + 1) < 2 ^ k - j; omega
        · rfl
        · exact (Incl.int (t := 73) rfl (by omega) (Incl.same (t := 67) rfl (Incl.same (t := 13) rfl (Incl.same (t := 4) rfl (Incl.same (t := 5) rfl (Incl.same (t := 10) rfl (Incl.same (t := 11) rfl (Incl.same (t := 65) rfl (Incl.same (t := 66) rfl (Incl.same (t := 15) rfl (Incl.same (t := 16) rfl (Incl.same (t := 17) rfl (Incl.same (t := 71) rfl (Incl.same (t := 72) rfl Incl.nil))))))))))))))
      · obtain rfl : j = 2 ^ k := by rw [decide_eq_false_iff_not, rowsO_len] at hb; omega
        refine Run.freezeInB (K := Ku) (l := rng (2 ^ k) (LW cs t c d)) (f0 := 0) 1016 16 rfl rfl rfl ?_
        refine Run.freezeInB (K := Ku) (l := rng (2 ^ k) (RW cs t c d)) (f0 := 0) 1017 17 rfl rfl rfl ?_
        have hRn : in97 (rng (2 ^ k) (RW cs t c d)) := in97_rng fun i hi => rprod_nn (p := fP 0) (by decide) _ _ _ _
        have hLn : in97 (rng (2 ^ k) (LW cs t c d)) := in97_rng fun i hi => rprod_nn (p := fP 0) (by decide) _ _ _ _
        refine Run.exit ?_
        refine Run.eT ?_
        refine Run.eT ?_
        refine Run.eB ?_
        refine Run.nT ?_
        refine Run.seq ?_
        refine Run.seq ?_
        refine Run.region ?_
        refine Run.op rfl rfl rfl (y_loadP 17 rfl rfl (rfl) Tryd.underlying29 rfl) ?_
        refine Run.op rfl rfl rfl (q_call en135 rfl (has_fn s 0 (rng (2 ^ k) (RW cs t c d)) (by simp; omega))) ?_
        refine Run.nil ?_
        refine Run.nT ?_
        refine Run.cond rfl (fun hb => ?_) (fun hb => ?_)
        · have hno : noneZ cs t c d (2 ^ k) = true := hb
          refine Run.seq ?_
          refine Run.region ?_
          refine Run.op rfl rfl rfl (y_assign rfl) ?_
          refine Run.op rfl rfl rfl (y_assign rfl) ?_
          refine Run.nil ?_
          refine Run.nT ?_
          refine Run.ret ?_
          refine Run.rT ?_
          refine Run.rB ?_
          refine Run.rT ?_
          refine Run.rT ?_
          refine Run.rB ?_
          refine Run.rT ?_
          refine Run.fin2 rfl rfl rfl (.tmp rfl) (.tmp rfl) (fun _ _ h => ?_) (fun _ _ h => ?_)
          · rw [show colsR cs t c d (2 ^ k) = [] by unfold colsR; rw [if_pos (by rw [hno]; simp)]]; exact nil_slc h
          · rw [show errR cs t c d (2 ^ k) = 7 by unfold errR; rw [if_pos (by rw [hno]; simp)]]; exact h
        · have hno : noneZ cs t c d (2 ^ k) = false := hb
          refine Run.skip ?_
          refine Run.nT ?_
          refine Run.seq ?_
          refine Run.region ?_
          refine Run.op rfl rfl rfl (y_load rfl Tryd.underlying3 rfl) ?_
          refine Run.op rfl rfl rfl (y_loadP 17 rfl rfl (rfl) Tryd.underlying29 rfl) ?_
          refine Run.op rfl rfl rfl (q_call en136 rfl (inverses_fn s 0 rfl (rng (2 ^ k) (RW cs t c d)) (by simp; omega) (fun x hx => (hRn x hx).1))) ?_
          refine q_store1 17 rfl rfl rfl ti29 (Nat.le_of_ble_eq_true rfl) ?_
          refine Run.nil ?_
          refine Run.nT ?_
          refine Run.region ?_
          refine Run.op rfl rfl rfl (y_move rfl) ?_
          refine Run.op rfl rfl rfl (y_move rfl) ?_
          refine Run.freezeB 16 16 rfl rfl ?_
          refine Run.freezeB 17 17 rfl rfl ?_
          refine Run.op rfl rfl rfl (Yields.int (y_lenS rfl Tryd.underlying208) (show ((rowsO cs t (2 ^ k) (2 ^ k)).length : Int) = ((2 ^ k : Nat) : Int) by rw [rowsO_len])) ?_
          refine Run.op rfl rfl rfl (q_makeFunc rfl) ?_
          refine Run.op rfl rfl rfl (q_call en137 rfl (column_fn s (nxZ (LW cs t c d) (RW cs t c d)) 138 [spts [i64 0], spts [slc Ku (rng (2 ^ k) (LW cs t c d))], spts [slc Ku ((rng (2 ^ k) (RW cs t c d)).map (finv (fP 0)))]] en138 (2 ^ k) (by omega) (fun z i hi hz => ⟨by have := next1_fn s z i (rng (2 ^ k) (LW cs t c d)) ((rng (2 ^ k) (RW cs t c d)).map (finv (fP 0))) hz (by simpa using hi) (by simpa using hi) (by omega) hLn (in97_inv _); rw [map_getD _ _ _ (by simpa using hi), rng_getD hi, rng_getD hi] at this; exact this, em_lt (by decide) _⟩) 1 (by omega))) ?_
          refine Run.op rfl rfl rfl (q_buildL (K := Kc) ([rng (2 ^ k) (colZ cs t c d)]) Tryd.underlying61 ti29 rfl rfl rfl (.cons rfl (Part.one' rfl) rfl .nil) rfl) ?_
          refine q_append 13 rfl rfl rfl Tryd.underlying61 ti29 rfl rfl (fun _ => rfl) (by simp) rfl ?_
          intro v103
          refine Run.op rfl rfl rfl (y_assign rfl) ?_
          refine Run.nil ?_
          refine Run.nB ?_
          refine Run.nT ?_
          refine Run.region ?_
          refine Run.op rfl rfl rfl (y_add rfl rfl (by first | exact wI_in (by omega) | rfl)) ?_
          refine Run.op rfl rfl rfl (y_move rfl) ?_
          refine Run.nil ?_
          refine Run.nT ?_
          refine Run.round (0 + 1, v103, [rng (2 ^ k) (colZ cs t c d)]) ?_ ?_ ?_ ?_
          · exact ⟨by omega, fun h => (by cases h), fun _ => ⟨rfl, hno⟩⟩
          · show 1 - (0 + 1) < 1 - 0; omega
          · rfl
          · exact (Incl.same (t := 67) rfl (Incl.same (t := 13) rfl (Incl.same (t := 4) rfl (Incl.same (t := 5) rfl (Incl.same (t := 10) rfl (Incl.same (t := 11) rfl (Incl.same (t := 65) rfl (Incl.same (t := 66) rfl Incl.nil))))))))
    · obtain rfl : j = 1 := by have : ¬ (j : Int) < 1 := of_decide_eq_false hb; omega
      obtain ⟨rfl, hnz⟩ := hl1 rfl
      refine Run.exit ?_
      refine Run.eT ?_
      refine Run.eT ?_
      refine Run.eB ?_
      refine Run.nT ?_
      refine Run.seq ?_
      refine Run.seq ?_
      refine Run.region ?_
      refine Run.op rfl rfl rfl (y_field rfl Tryd.underlying66 rfl ti64.siz rfl) ?_
      refine Run.op rfl rfl rfl (y_load rfl Tryd.underlying64 rfl) ?_
      refine Run.op rfl rfl rfl (y_lenS rfl Tryd.underlying64) ?_
      refine Run.op rfl rfl rfl (y_move rfl) ?_
      refine Run.nil ?_
      refine Run.nT ?_
      refine Run.block ?_
      refine Run.loopK (ι := Nat × Value × List (List Int)) (fun ⟨j, v, l⟩ => j ≤ 1 ∧ (j = 0 → l = [rng (2 ^ k) (colZ cs t c d)] ∧ noneZ cs t c d (2 ^ k) = false) ∧ (j = 1 → l = [rng (2 ^ k) (colZ cs t c d), rng (2 ^ k) (colY cs t c d)] ∧ noneZ cs t c d (2 ^ k) = false ∧ noneY cs t c d (2 ^ k) = false)) (fun ⟨j, v, l⟩ => 1 - j) (fun ⟨j, v, l⟩ => [(13, .rows Kc v 29 1 l)]) [5, 10, 11, 106, 107] (fun ⟨j, v, l⟩ => [(108, i64 j), (13, sval v)]) (0, v, [rng (2 ^ k) (colZ cs t c d)]) ⟨by omega, fun _ => ⟨rfl, hnz⟩, fun h => (by cases h)⟩ rfl (Incl.same (t := 108) rfl (Incl.same (t := 13) rfl (Incl.pick [5, 10, 11, 106, 107]))) ?_
      rintro ⟨j, v, l⟩ ⟨hj, hl0, hl1⟩
      refine Run.seq ?_
      refine Run.region ?_
      refine Run.op rfl rfl rfl (y_lss rfl rfl) ?_
      refine Run.nil ?_
      refine Run.nT ?_
      refine Run.seq ?_
      refine Run.cond rfl (fun hb => ?_) (fun hb => ?_)
      · obtain rfl : j = 0 := by have : (j : Int) < 1 := of_decide_eq_true hb; omega
        obtain ⟨rfl, hnz⟩ := hl0 rfl
        refine Run.skip ?_
        refine Run.nT ?_
        refine Run.seq ?_
        refine Run.block ?_
        refine Run.seq ?_
        refine Run.region ?_
        refine Run.op rfl rfl rfl (q_index (0) (look14) rfl rfl Tryd.underlying64 ti135 (fun _ => rfl) (rfl) (rfl)) ?_
        refine Run.op rfl rfl rfl (y_loadW rfl Tryd.underlying135 rfl ti135.siz) ?_
        refine q_alloc ti135 rfl rfl ?_
        intro b21
        refine Run.storeW 21 rfl rfl rfl ti135.siz rfl ?_
        refine Run.freezeB 21 21 rfl rfl ?_
        refine Run.nil ?_
        refine Run.nT ?_
        refine Run.seq ?_
        refine Run.region ?_
        refine q_alloc ti29 rfl rfl ?_
        intro b22
        refine q_nilRow 1022 Ku 33 1 ?_
        refine Run.nil ?_
        refine Run.nT ?_
        refine Run.seq ?_
        refine Run.seq ?_
        refine Run.region ?_
        refine Run.op rfl rfl rfl (y_move rfl) ?_
        refine Run.op rfl rfl rfl (y_lenS rfl Tryd.underlying208) ?_
        refine Run.op rfl rfl rfl (y_move rfl) ?_
        refine Run.nil ?_
        refine Run.nT ?_
        refine Run.block ?_
        refine Run.loopK (ι := Nat × Value) (fun ⟨j, v1⟩ => j ≤ 2 ^ k) (fun ⟨j, v1⟩ => 2 ^ k - j) (fun ⟨j, v1⟩ => [(22, .blk b22 29 [sval v1]), (1022, .rows Ku v1 33 1 (prt (UW cs t c d) (TW cs t c d) j))]) [108, 13, 5, 10, 11, 106, 107, 21, 22, 112, 113] (fun ⟨j, v1⟩ => [(114, i64 j)]) (0, .slice none 0 0) (by show 0 ≤ _; omega) rfl (Incl.same (t := 114) rfl (Incl.pick [108, 13, 5, 10, 11, 106, 107, 21, 22, 112, 113])) ?_
        rintro ⟨j, v1⟩ hj
        have hj : j ≤ 2 ^ k := hj
        refine Run.seq ?_
        refine Run.region ?_
        refine Run.op rfl rfl rfl (y_lss rfl rfl) ?_
        refine Run.nil ?_
        refine Run.nT ?_
        refine Run.seq ?_
        refine Run.cond rfl (fun hb => ?_) (fun hb => ?_)
        · have hjl : j < 2 ^ k := by rw [decide_eq_true_eq, rowsO_len] at hb; omega
          have hr1 := rowM_main (t := t) hjl hc
          have hr2 := rowM_fix (cs := cs) hjl ht h97
          refine Run.skip ?_
          refine Run.nT ?_
          refine Run.seq ?_
          refine Run.block ?_
          refine Run.seq ?_
          refine Run.region ?_
          refine Run.op rfl rfl rfl (q_index (j) (some (rowM cs t j)) rfl rfl Tryd.underlying208 ti211 (KrwO_len c d) (rfl) (rowsO_get hjl)) ?_
          refine Run.op rfl rfl rfl (y_loadW rfl Tryd.underlying211 rfl ti211.siz) ?_
          refine q_alloc ti211 rfl rfl ?_
          intro b24
          refine Run.storeW 24 rfl rfl rfl ti211.siz rfl ?_
          refine Run.freezeB 24 24 rfl rfl ?_
          refine Run.nil ?_
          refine Run.nT ?_
          refine Run.weaken (Incl.same (t := 114) rfl (Incl.same (t := 108) rfl (Incl.same (t := 13) rfl (Incl.same (t := 5) rfl (Incl.same (t := 10) rfl (Incl.same (t := 11) rfl (Incl.same (t := 106) rfl (Incl.same (t := 107) rfl (Incl.same (t := 21) rfl (Incl.same (t := 22) rfl (Incl.same (t := 112) rfl (Incl.same (t := 113) rfl (Incl.same (t := 24) rfl Incl.nil))))))))))))) ?_
          refine q_draw ?_ rfl
          refine Draw.step rfl rfl rfl (StepOk.op rfl rfl rfl (y_loadP 22 rfl rfl (rfl) Tryd.underlying29 rfl)) rfl ?_
          refine Draw.step rfl rfl rfl (StepOk.op rfl rfl rfl (y_loadW rfl Tryd.underlying211 rfl ti211.siz)) rfl ?_
          refine Draw.step rfl rfl rfl (StepOk.op rfl rfl rfl (y_field rfl Tryd.underlying135 rfl ti130.siz rfl)) rfl ?_
          refine Draw.step rfl rfl rfl (StepOk.op rfl rfl rfl (y_load rfl Tryd.underlying130 rfl)) rfl ?_
          refine Draw.step rfl rfl rfl (StepOk.op rfl rfl rfl (q_call en139 rfl (rowWeight_fn s 0 c d rfl hc_.1 hd_.1 (rowM cs t j) (by rw [show (rowM cs t j).1.length = cs.length by simp [rowM]]; exact hcs) (by simp [rowM]) (fun x hx => (hr1 x hx).1) (fun x hx => (hr2 x hx).1) look14.1 (by simp [look14]) hL1))) rfl ?_
          refine Draw.step rfl rfl rfl (StepOk.op rfl rfl rfl (y_loadW rfl Tryd.underlying211 rfl ti211.siz)) rfl ?_
          refine Draw.step rfl rfl rfl (StepOk.op rfl rfl rfl (y_field rfl Tryd.underlying135 rfl ti130.siz rfl)) rfl ?_
          refine Draw.step rfl rfl rfl (StepOk.op rfl rfl rfl (y_load rfl Tryd.underlying130 rfl)) rfl ?_
          refine Draw.step rfl rfl rfl (StepOk.op rfl rfl rfl (q_call en139 rfl (rowWeight_fn s 0 c d rfl hc_.1 hd_.1 (rowM cs t j) (by rw [show (rowM cs t j).1.length = cs.length by simp [rowM]]; exact hcs) (by simp [rowM]) (fun x hx => (hr1 x hx).1) (fun x hx => (hr2 x hx).1) look14.2.1 (by simp [look14]) hL2))) rfl ?_
          refine Draw.step rfl rfl rfl (StepOk.op rfl rfl rfl (q_buildL (K := Ku) ([_, _]) Tryd.underlying29 ti33 rfl rfl rfl (.cons rfl (Part.one' rfl) rfl (.cons rfl (Part.one' rfl) rfl .nil)) rfl)) rfl ?_
          refine Draw.tail (m := 10) rfl rfl rfl ?_
          refine q_append 1022 rfl rfl rfl Tryd.underlying29 ti33 rfl rfl (fun _ => rfl) (by rw [prt_len]; simp; omega) rfl ?_
          intro v128
          refine Run.own (t := 1022) (e' := Ent.rows Ku v128 33 1 (prt (UW cs t c d) (TW cs t c d) (j + 1))) rfl rfl ?_
          refine q_store1V 1022 22 rfl rfl rfl rfl ti29 (Nat.le_of_ble_eq_true rfl) ?_
          refine Run.nil ?_
          refine Run.nB ?_
          refine Run.nT ?_
          refine Run.region ?_
          refine Run.op rfl rfl rfl (y_add rfl rfl (by first | exact wI_in (by omega) | rfl)) ?_
          refine Run.op rfl rfl rfl (y_move rfl) ?_
          refine Run.nil ?_
          refine Run.nT ?_
          refine Run.round (j + 1, v128) ?_ ?_ ?_ ?_
          · show j + 1 ≤ 2 ^ k; omega
          · show 2 ^ k - (j + 1) < 2 ^ k - j; omega
          · rfl
          · exact (Incl.int (t := 114) rfl (by omega) (Incl.same (t := 108) rfl (Incl.same (t := 13) rfl (Incl.same (t := 5) rfl (Incl.same (t := 10) rfl (Incl.same (t := 11) rfl (Incl.same (t := 106) rfl (Incl.same (t := 107) rfl (Incl.same (t := 21) rfl (Incl.same (t := 22) rfl (Incl.same (t := 112) rfl (Incl.same (t := 113) rfl Incl.nil))))))))))))
        · obtain rfl : j = 2 ^ k := by rw [decide_eq_false_iff_not, rowsO_len] at hb; omega
          refine Run.freezeInB (K := Ku) (l := prt (UW cs t c d) (TW cs t c d) (2 ^ k)) (f0 := 0) 1022 22 rfl rfl rfl ?_
          have hPn : in97 (prt (UW cs t c d) (TW cs t c d) (2 ^ k)) := in97_prt fun i hi => ⟨wgt_lt hp97 _ _ _, wgt_lt hp97 _ _ _⟩
          refine Run.exit ?_
          refine Run.eT ?_
          refine Run.eT ?_
          refine Run.eB ?_
          refine Run.nT ?_
          refine Run.seq ?_
          refine Run.seq ?_
          refine Run.region ?_
          refine Run.op rfl rfl rfl (y_loadP 22 rfl rfl (rfl) Tryd.underlying29 rfl) ?_
          refine Run.op rfl rfl rfl (q_call en135 rfl (has_fn s 0 (prt (UW cs t c d) (TW cs t c d) (2 ^ k)) (by rw [prt_len]; omega))) ?_
          refine Run.nil ?_
          refine Run.nT ?_
          refine Run.cond rfl (fun hb => ?_) (fun hb => ?_)
          · have hno : noneY cs t c d (2 ^ k) = true := hb
            refine Run.seq ?_
            refine Run.region ?_
            refine Run.op rfl rfl rfl (y_assign rfl) ?_
            refine Run.op rfl rfl rfl (y_assign rfl) ?_
            refine Run.nil ?_
            refine Run.nT ?_
            refine Run.ret ?_
            refine Run.rT ?_
            refine Run.rB ?_
            refine Run.rT ?_
            refine Run.rT ?_
            refine Run.rB ?_
            refine Run.rT ?_
            refine Run.fin2 rfl rfl rfl (.tmp rfl) (.tmp rfl) (fun _ _ h => ?_) (fun _ _ h => ?_)
            · rw [show colsR cs t c d (2 ^ k) = [] by unfold colsR; rw [if_pos (by rw [hno]; simp)]]; exact nil_slc h
            · rw [show errR cs t c d (2 ^ k) = 7 by unfold errR; rw [if_pos (by rw [hno]; simp)]]; exact h
          · have hno : noneY cs t c d (2 ^ k) = false := hb
            refine Run.skip ?_
            refine Run.nT ?_
            refine Run.seq ?_
            refine Run.region ?_
            refine Run.op rfl rfl rfl (y_load rfl Tryd.underlying3 rfl) ?_
            refine Run.op rfl rfl rfl (y_loadP 22 rfl rfl (rfl) Tryd.underlying29 rfl) ?_
            refine Run.op rfl rfl rfl (q_call en136 rfl (inverses_fn s 0 rfl (prt (UW cs t c d) (TW cs t c d) (2 ^ k)) (by rw [prt_len]; omega) (fun x hx => (hPn x hx).1))) ?_
            refine q_store1 22 rfl rfl rfl ti29 (Nat.le_of_ble_eq_true rfl) ?_
            refine Run.nil ?_
            refine Run.nT ?_
            refine Run.region ?_
            refine Run.op rfl rfl rfl (y_move rfl) ?_
            refine Run.op rfl rfl rfl (y_move rfl) ?_
            refine Run.freezeB 22 22 rfl rfl ?_
            refine Run.op rfl rfl rfl (Yields.int (y_lenS rfl Tryd.underlying208) (show ((rowsO cs t (2 ^ k) (2 ^ k)).length : Int) = ((2 ^ k : Nat) : Int) by rw [rowsO_len])) ?_
            refine Run.op rfl rfl rfl (q_makeFunc rfl) ?_
            refine Run.op rfl rfl rfl (q_call en137 rfl (column_fn s (nxY (UW cs t c d) (TW cs t c d) (fun i => (cs.getD 5 []).getD i 0)) 140 [spts [i64 0], spts (Ktr cs), spts (Klo look14), spts [slc Ku ((prt (UW cs t c d) (TW cs t c d) (2 ^ k)).map (finv (fP 0)))]] en140 (2 ^ k) (by omega) (fun z i hi hz => ⟨by have := next2_fn s z i cs ((prt (UW cs t c d) (TW cs t c d) (2 ^ k)).map (finv (fP 0))) hz hcs (fun q hq => ⟨by rw [(hc q hq).1]; exact hi, (hc q hq).2⟩) (by simp [prt_len]; omega) (in97_inv _) (by omega); rw [map_getD _ _ _ (by rw [prt_len]; omega), map_getD _ _ _ (by rw [prt_len]; omega), List.getD_eq_getElem?_getD, (prt_get _ _ _ i hi).1, List.getD_eq_getElem?_getD (i := 2 * i + 1), (prt_get _ _ _ i hi).2] at this; exact this, em_lt (by decide) _⟩) 0 (by omega))) ?_
            refine Run.op rfl rfl rfl (q_buildL (K := Kc) ([rng (2 ^ k) (colY cs t c d)]) Tryd.underlying61 ti29 rfl rfl rfl (.cons rfl (Part.one' rfl) rfl .nil) rfl) ?_
            refine q_append 13 rfl rfl rfl Tryd.underlying61 ti29 rfl rfl (fun _ => rfl) (by simp) rfl ?_
            intro v141
            refine Run.op rfl rfl rfl (y_assign rfl) ?_
            refine Run.nil ?_
            refine Run.nB ?_
            refine Run.nT ?_
            refine Run.region ?_
            refine Run.op rfl rfl rfl (y_add rfl rfl (by first | exact wI_in (by omega) | rfl)) ?_
            refine Run.op rfl rfl rfl (y_move rfl) ?_
            refine Run.nil ?_
            refine Run.nT ?_
            refine Run.round (0 + 1, v141, [rng (2 ^ k) (colZ cs t c d), rng (2 ^ k) (colY cs t c d)]) ?_ ?_ ?_ ?_
            · exact ⟨by omega, fun h => (by cases h), fun _ => ⟨rfl, hnz, hno⟩⟩
            · show 1 - (0 + 1) < 1 - 0; omega
            · rfl
            · exact (Incl.same (t := 108) rfl (Incl.same (t := 13) rfl (Incl.same (t := 5) rfl (Incl.same (t := 10) rfl (Incl.same (t := 11) rfl (Incl.same (t := 106) rfl (Incl.same (t := 107) rfl Incl.nil)))))))
      · obtain rfl : j = 1 := by have : ¬ (j : Int) < 1 := of_decide_eq_false hb; omega
        obtain ⟨rfl, hnz, hny⟩ := hl1 rfl
        refine Run.exit ?_
        refine Run.eT ?_
        refine Run.eT ?_
        refine Run.eB ?_
        refine Run.nT ?_
        refine Run.seq ?_
        refine Run.region ?_
        refine Run.op rfl rfl rfl (y_move rfl) ?_
        refine Run.op rfl rfl rfl (y_assign rfl) ?_
        refine Run.op rfl rfl rfl (y_assign rfl) ?_
        refine Run.nil ?_
        refine Run.nT ?_
        refine Run.ret ?_
        refine Run.freeze (K := Kc) (l := [rng (2 ^ k) (colZ cs t c d), rng (2 ^ k) (colY cs t c d)]) 13 8 rfl rfl ?_
        refine Run.fin2 rfl rfl rfl (.tmp rfl) (.tmp rfl) (fun _ _ h => ?_) (fun _ _ h => ?_)
        · rw [show colsR cs t c d (2 ^ k) = [rng (2 ^ k) (colZ cs t c d), rng (2 ^ k) (colY cs t c d)] by unfold colsR; rw [if_neg (by rw [hnz, hny]; simp)]]; exact h
        · rw [show errR cs t c d (2 ^ k) = 0 by unfold errR; rw [if_neg (by rw [hnz, hny]; simp)]]; exact h

end

end Go.Vx
