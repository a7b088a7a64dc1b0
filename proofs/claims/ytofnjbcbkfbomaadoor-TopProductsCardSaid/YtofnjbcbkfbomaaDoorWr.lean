/- Walks: the statement: its columns. Conditions: as each says. Printed by a program of our own (wip/tools/gen2.py). -/
import Derived.Test.YtofnjbcbkfbomaaDoorWq
namespace Go.Vx
open Go Go.RowKit Go.Proofs
set_option maxRecDepth 100000
variable (s : Seat)

theorem cols_a (N : Nat) (l : List Int) (h : Bool) : (cols14 N l h).a = (base14 l).a := by cases h <;> rfl
theorem cols_b (N : Nat) (l : List Int) (h : Bool) : (cols14 N l h).b = (base14 l).b := by cases h <;> rfl
theorem cols_t (N : Nat) (l : List Int) (h : Bool) : (cols14 N l h).t = (base14 l).t := by cases h <;> rfl
theorem mix_end {N i : Nat} {h : Bool} {g g0 g1 : Nat → Int} (h1 : h = true → i = N) (h2 : h = false → i = 0) (hg : h = true → g1 = g) (hg0 : h = false → g1 = g0) : rng N (mixG g g0 i) = rng N g1 := by
  cases h with
  | true => rw [h1 rfl, mix_all, hg rfl]
  | false => rw [h2 rfl, ← mix_zero, hg0 rfl]
theorem cnt_put2 {N : Nat} {t e : Nat → Int} {i k : Nat} (hkf : kf N t e i = k) (hk : k < N) {x : Int} (hx : x = cnt14 N t e i k + 1) : (rng N (cnt14 N t e i)).set k x = rng N (cnt14 N t e (i + 1)) := by
  subst hkf; exact cnt_put hk hx
/-- The counts on the way. -/
def nS (N : Nat) (l : List Int) (h : Bool) (i : Nat) : Nat → Int := if h = true then cnt14 N (cols14 N l h).t (cols14 N l h).e i else (base14 l).n
theorem nS_t {N : Nat} {l : List Int} {h : Bool} (hh : h = true) (i : Nat) : nS N l h i = cnt14 N (cols14 N l h).t (cols14 N l h).e i := by unfold nS; rw [if_pos hh]
theorem nS_end {N : Nat} {l : List Int} {h : Bool} {i : Nat} (h1 : h = true → i = N) : nS N l h i = (cols14 N l h).n := by
  cases h with
  | true => rw [h1 rfl]; rfl
  | false => rfl
theorem e_at {N : Nat} {l : List Int} {h : Bool} (hh : h = true) (i : Nat) : (cols14 N l h).e i = (cols14 N l h).t (i * i % N) := by subst hh; rfl

set_option maxHeartbeats 4000000 in
theorem columns14s_fn (N : Nat) (hN : 2 ≤ N ∧ N ≤ 8) (l : List Int) (hl : ∀ x ∈ l, 0 ≤ x ∧ x < 256) (honest : Bool) : Fn s.env 9 [i64 N, slc Kk8 l, sbool honest] (sagg (Ktb N (cols14 N l honest))) := by
  have hat := at14_lt hl
  refine Fn.of Tryd.func9 rfl Tryd.ntmps9 rfl ?_
  intro w0 F0
  refine Run.seq ?_
  refine Run.region ?_
  refine q_box rfl rfl ?_
  intro b4
  refine Run.freezeB 4 4 rfl rfl ?_
  refine q_alloc ti31 rfl rfl ?_
  intro b6
  refine Run.nil ?_
  refine Run.nT ?_
  refine Run.seq ?_
  refine Run.region ?_
  refine Run.op rfl rfl rfl (q_makeFunc rfl) ?_
  refine Run.op rfl rfl rfl (y_assign rfl) ?_
  refine Run.nil ?_
  refine Run.nT ?_
  refine Run.seq ?_
  refine Run.region ?_
  refine q_alloc ti31 rfl rfl ?_
  intro b8
  refine q_nilRow 810 Ku 33 1 ?_
  refine q_nilRow 811 Ku 33 1 ?_
  refine q_nilRow 812 Ku 33 1 ?_
  refine q_nilRow 813 Ku 33 1 ?_
  refine q_nilRow 814 Ku 33 1 ?_
  refine q_nilRow 815 Ku 33 1 ?_
  refine q_nilRow 816 Ku 33 1 ?_
  refine Run.nil ?_
  refine Run.nT ?_
  refine Run.seq ?_
  refine Run.seq ?_
  refine Run.region ?_
  refine Run.op rfl rfl rfl (y_assign rfl) ?_
  refine Run.nil ?_
  refine Run.nT ?_
  refine Run.block ?_
  refine Run.loopK (ι := Nat × Value × Value × Value × Value × Value × Value × Value) (fun ⟨j, va, vb, vl, vr, ve, vn, vt⟩ => j ≤ N) (fun ⟨j, va, vb, vl, vr, ve, vn, vt⟩ => N - j) (fun ⟨j, va, vb, vl, vr, ve, vn, vt⟩ => [(8, .blk b8 31 [sval va, sval vb, sval vl, sval vr, sval ve, sval vn, sval vt]), (810, .rows Ku va 33 1 (rng j ((base14 l).a))), (811, .rows Ku vb 33 1 (rng j ((base14 l).b))), (812, .rows Ku vl 33 1 (rng j ((base14 l).l))), (813, .rows Ku vr 33 1 (rng j ((base14 l).r))), (814, .rows Ku ve 33 1 (rng j ((base14 l).e))), (815, .rows Ku vn 33 1 (rng j ((base14 l).n))), (816, .rows Ku vt 33 1 (rng j ((base14 l).t)))]) [0, 2, 6, 7, 8] (fun ⟨j, va, vb, vl, vr, ve, vn, vt⟩ => [(9, i64 j)]) (0, .slice none 0 0, .slice none 0 0, .slice none 0 0, .slice none 0 0, .slice none 0 0, .slice none 0 0, .slice none 0 0) (by show 0 ≤ _; omega) rfl (Incl.same (t := 9) rfl (Incl.pick [0, 2, 6, 7, 8])) ?_
  rintro ⟨j, va, vb, vl, vr, ve, vn, vt⟩ hj
  show Run _ _ [(816, _), (815, _), (814, _), (813, _), (812, _), (811, _), (810, _), (8, _), (6, _)] [(9, _), (0, _), (2, _), (6, _), (7, _), (8, _)] _
  have hj : j ≤ N := hj
  refine Run.seq ?_
  refine Run.seq ?_
  refine Run.region ?_
  refine Run.op rfl rfl rfl (y_move rfl) ?_
  refine Run.op rfl rfl rfl (y_move rfl) ?_
  refine Run.op rfl rfl rfl (y_lss rfl rfl) ?_
  refine Run.nil ?_
  refine Run.nT ?_
  refine Run.cond rfl (fun hb => ?_) (fun hb => ?_)
  · have hjN : j < N := by have := of_decide_eq_true hb; omega
    refine Run.skip ?_
    refine Run.nT ?_
    refine Run.seq ?_
    refine Run.block ?_
    refine Run.seq ?_
    refine Run.weaken (Incl.same (t := 9) rfl (Incl.same (t := 0) rfl (Incl.same (t := 2) rfl (Incl.same (t := 6) rfl (Incl.same (t := 7) rfl (Incl.same (t := 8) rfl Incl.nil)))))) ?_
    refine Run.drawP (β := Value) (fun M gs => match gs with | [] => M | [v6_0] => setM (M) 810 (.rows Ku v6_0 33 1 (rng j ((base14 l).a) ++ [at14 l j])) | [v6_0, v6_1] => setM (setM (M) 810 (.rows Ku v6_0 33 1 (rng j ((base14 l).a) ++ [at14 l j]))) 811 (.rows Ku v6_1 33 1 (rng j ((base14 l).b) ++ [at14 l (j + 3)])) | [v6_0, v6_1, v6_2] => setM (setM (setM (M) 810 (.rows Ku v6_0 33 1 (rng j ((base14 l).a) ++ [at14 l j]))) 811 (.rows Ku v6_1 33 1 (rng j ((base14 l).b) ++ [at14 l (j + 3)]))) 816 (.rows Ku v6_2 33 1 (rng j ((base14 l).t) ++ [at14 l (2 * j + 1)])) | _ => M) [⟨6, some 25, fun v => sval v⟩, ⟨14, some 33, fun v => sval v⟩, ⟨23, some 42, fun v => sval v⟩] rfl rfl ?_
    refine DrawP.step 0 1 rfl rfl rfl (by kernel_rfl) (by kernel_rfl) ⟨(StepOk.op rfl rfl rfl (y_fieldP rfl Tryd.underlying31 rfl ti29.siz)), trivial⟩ rfl rfl ?_
    refine DrawP.step 0 1 rfl rfl rfl (by kernel_rfl) (by kernel_rfl) ⟨(StepOk.op rfl rfl rfl (y_loadP 8 rfl rfl (rfl) Tryd.underlying29 rfl)), trivial⟩ rfl rfl ?_
    refine DrawP.step 0 1 rfl rfl rfl (by kernel_rfl) (by kernel_rfl) ⟨(StepOk.op rfl rfl rfl (y_move rfl)), trivial⟩ rfl rfl ?_
    refine DrawP.step 0 1 rfl rfl rfl (by kernel_rfl) (by kernel_rfl) ⟨(StepOk.op rfl rfl rfl (y_move rfl)), trivial⟩ rfl rfl ?_
    refine DrawP.step 0 1 rfl rfl rfl (by kernel_rfl) (by kernel_rfl) ⟨(StepOk.op rfl rfl rfl (q_callV en30 rfl rfl (at14_fn s l hl (j) (by omega)))), trivial⟩ rfl rfl ?_
    refine DrawP.step 0 1 rfl rfl rfl (by kernel_rfl) (by kernel_rfl) ⟨(StepOk.op rfl rfl rfl (q_buildL (K := Ku) ([at14 l j]) Tryd.underlying29 ti33 rfl rfl rfl (.cons rfl (Part.one' rfl) rfl .nil) rfl)), trivial⟩ rfl rfl ?_
    refine DrawP.skip rfl ?_
    refine DrawP.step 0 2 rfl rfl rfl (by kernel_rfl) (by kernel_rfl) ⟨(StepOk.op rfl rfl rfl (y_fieldP rfl Tryd.underlying31 rfl ti29.siz)), (fun _ => StepOk.op rfl rfl rfl (y_fieldP rfl Tryd.underlying31 rfl ti29.siz)), trivial⟩ rfl rfl ?_
    refine DrawP.step 0 2 rfl rfl rfl (by kernel_rfl) (by kernel_rfl) ⟨(StepOk.op rfl rfl rfl (y_loadP 8 rfl rfl (rfl) Tryd.underlying29 rfl)), (fun _ => StepOk.op rfl rfl rfl (y_loadP 8 rfl rfl (rfl) Tryd.underlying29 rfl)), trivial⟩ rfl rfl ?_
    refine DrawP.step 0 2 rfl rfl rfl (by kernel_rfl) (by kernel_rfl) ⟨(StepOk.op rfl rfl rfl (y_move rfl)), (fun _ => StepOk.op rfl rfl rfl (y_move rfl)), trivial⟩ rfl rfl ?_
    refine DrawP.step 0 2 rfl rfl rfl (by kernel_rfl) (by kernel_rfl) ⟨(StepOk.op rfl rfl rfl (y_move rfl)), (fun _ => StepOk.op rfl rfl rfl (y_move rfl)), trivial⟩ rfl rfl ?_
    refine DrawP.step 0 2 rfl rfl rfl (by kernel_rfl) (by kernel_rfl) ⟨(StepOk.op rfl rfl rfl (y_add (r := ((j + 3 : Nat) : Int)) rfl rfl (by rw [wI_in (by omega)]; omega))), (fun _ => StepOk.op rfl rfl rfl (y_add (r := ((j + 3 : Nat) : Int)) rfl rfl (by rw [wI_in (by omega)]; omega))), trivial⟩ rfl rfl ?_
    refine DrawP.step 1 1 rfl rfl rfl (by kernel_rfl) (by kernel_rfl) ⟨(fun _ => StepOk.op rfl rfl rfl (q_callV en30 rfl rfl (at14_fn s l hl (j + 3) (by omega)))), trivial⟩ rfl rfl ?_
    refine DrawP.step 1 1 rfl rfl rfl (by kernel_rfl) (by kernel_rfl) ⟨(fun _ => StepOk.op rfl rfl rfl (q_buildL (K := Ku) ([at14 l (j + 3)]) Tryd.underlying29 ti33 rfl rfl rfl (.cons rfl (Part.one' rfl) rfl .nil) rfl)), trivial⟩ rfl rfl ?_
    refine DrawP.skip rfl ?_
    refine DrawP.step 0 3 rfl rfl rfl (by kernel_rfl) (by kernel_rfl) ⟨(StepOk.op rfl rfl rfl (y_fieldP rfl Tryd.underlying31 rfl ti29.siz)), (fun _ => StepOk.op rfl rfl rfl (y_fieldP rfl Tryd.underlying31 rfl ti29.siz)), (fun _ _ => StepOk.op rfl rfl rfl (y_fieldP rfl Tryd.underlying31 rfl ti29.siz)), trivial⟩ rfl rfl ?_
    refine DrawP.step 0 3 rfl rfl rfl (by kernel_rfl) (by kernel_rfl) ⟨(StepOk.op rfl rfl rfl (y_loadP 8 rfl rfl (rfl) Tryd.underlying29 rfl)), (fun _ => StepOk.op rfl rfl rfl (y_loadP 8 rfl rfl (rfl) Tryd.underlying29 rfl)), (fun _ _ => StepOk.op rfl rfl rfl (y_loadP 8 rfl rfl (rfl) Tryd.underlying29 rfl)), trivial⟩ rfl rfl ?_
    refine DrawP.step 0 3 rfl rfl rfl (by kernel_rfl) (by kernel_rfl) ⟨(StepOk.op rfl rfl rfl (y_move rfl)), (fun _ => StepOk.op rfl rfl rfl (y_move rfl)), (fun _ _ => StepOk.op rfl rfl rfl (y_move rfl)), trivial⟩ rfl rfl ?_
    refine DrawP.step 0 3 rfl rfl rfl (by kernel_rfl) (by kernel_rfl) ⟨(StepOk.op rfl rfl rfl (y_move rfl)), (fun _ => StepOk.op rfl rfl rfl (y_move rfl)), (fun _ _ => StepOk.op rfl rfl rfl (y_move rfl)), trivial⟩ rfl rfl ?_
    refine DrawP.step 0 3 rfl rfl rfl (by kernel_rfl) (by kernel_rfl) ⟨(StepOk.op rfl rfl rfl (y_mul (r := ((2 * j : Nat) : Int)) rfl rfl (by rw [wI_in (by omega)]; omega))), (fun _ => StepOk.op rfl rfl rfl (y_mul (r := ((2 * j : Nat) : Int)) rfl rfl (by rw [wI_in (by omega)]; omega))), (fun _ _ => StepOk.op rfl rfl rfl (y_mul (r := ((2 * j : Nat) : Int)) rfl rfl (by rw [wI_in (by omega)]; omega))), trivial⟩ rfl rfl ?_
    refine DrawP.step 0 3 rfl rfl rfl (by kernel_rfl) (by kernel_rfl) ⟨(StepOk.op rfl rfl rfl (y_add (r := ((2 * j + 1 : Nat) : Int)) rfl rfl (by rw [wI_in (by omega)]; omega))), (fun _ => StepOk.op rfl rfl rfl (y_add (r := ((2 * j + 1 : Nat) : Int)) rfl rfl (by rw [wI_in (by omega)]; omega))), (fun _ _ => StepOk.op rfl rfl rfl (y_add (r := ((2 * j + 1 : Nat) : Int)) rfl rfl (by rw [wI_in (by omega)]; omega))), trivial⟩ rfl rfl ?_
    refine DrawP.step 2 1 rfl rfl rfl (by kernel_rfl) (by kernel_rfl) ⟨(fun _ _ => StepOk.op rfl rfl rfl (q_callV en30 rfl rfl (at14_fn s l hl (2 * j + 1) (by omega)))), trivial⟩ rfl rfl ?_
    refine DrawP.step 2 1 rfl rfl rfl (by kernel_rfl) (by kernel_rfl) ⟨(fun _ _ => StepOk.op rfl rfl rfl (q_buildL (K := Ku) ([at14 l (2 * j + 1)]) Tryd.underlying29 ti33 rfl rfl rfl (.cons rfl (Part.one' rfl) rfl .nil) rfl)), trivial⟩ rfl rfl ?_
    refine DrawP.skip rfl ?_
    refine DrawP.step 1 3 rfl rfl rfl (by kernel_rfl) (by kernel_rfl) ⟨(fun _ => StepOk.op rfl rfl rfl (y_fieldP rfl Tryd.underlying31 rfl ti29.siz)), (fun _ _ => StepOk.op rfl rfl rfl (y_fieldP rfl Tryd.underlying31 rfl ti29.siz)), (fun _ _ _ => StepOk.op rfl rfl rfl (y_fieldP rfl Tryd.underlying31 rfl ti29.siz)), trivial⟩ rfl rfl ?_
    refine DrawP.tail (m := 25) (by kernel_rfl) (by kernel_rfl) rfl rfl ⟨⟨_, rfl, ?_⟩, ⟨_, rfl, ?_⟩, ⟨_, rfl, ?_⟩, trivial⟩ ?_
    · intro L' hS K hK
      refine Run.opAt rfl ?_
      refine q_append 810 (hS _ _ rfl) rfl (hS _ _ rfl) Tryd.underlying29 ti33 rfl rfl (fun _ => rfl) (by simp; omega) rfl ?_
      intro v25
      refine Run.nil ?_
      refine Run.nT ?_
      exact hK v25
    · intro v6_0 L' hS K hK
      refine Run.opAt rfl ?_
      refine q_append 811 (hS _ _ rfl) rfl (hS _ _ rfl) Tryd.underlying29 ti33 rfl rfl (fun _ => rfl) (by simp; omega) rfl ?_
      intro v33
      refine Run.nil ?_
      refine Run.nT ?_
      exact hK v33
    · intro v6_0 v6_1 L' hS K hK
      refine Run.opAt rfl ?_
      refine q_append 816 (hS _ _ rfl) rfl (hS _ _ rfl) Tryd.underlying29 ti33 rfl rfl (fun _ => rfl) (by simp; omega) rfl ?_
      intro v42
      refine Run.nil ?_
      refine Run.nT ?_
      exact hK v42
    · intro v6_0 v6_1 v6_2
      refine Run.own (t := 810) (e' := Ent.rows Ku v6_0 33 1 (rng (j + 1) ((base14 l).a))) rfl (by rw [← rng_snoc]; rfl) ?_
      refine Run.own (t := 811) (e' := Ent.rows Ku v6_1 33 1 (rng (j + 1) ((base14 l).b))) rfl (by rw [← rng_snoc]; rfl) ?_
      refine Run.own (t := 816) (e' := Ent.rows Ku v6_2 33 1 (rng (j + 1) ((base14 l).t))) rfl (by rw [← rng_snoc]; rfl) ?_
      show Run _ _ [(816, _), (815, _), (814, _), (813, _), (812, _), (811, _), (810, _), (8, _), (6, _)] _ _
      refine q_store1V 810 8 rfl rfl rfl rfl ti29 (Nat.le_of_ble_eq_true rfl) ?_
      refine Run.op rfl rfl rfl (y_fieldP rfl Tryd.underlying31 rfl ti29.siz) ?_
      refine q_store1V 811 8 rfl rfl rfl rfl ti29 (Nat.le_of_ble_eq_true rfl) ?_
      refine Run.op rfl rfl rfl (y_fieldP rfl Tryd.underlying31 rfl ti29.siz) ?_
      refine q_store1V 816 8 rfl rfl rfl rfl ti29 (Nat.le_of_ble_eq_true rfl) ?_
      refine Run.own (t := 8) (e' := .blk b8 31 [sval v6_0, sval v6_1, sval vl, sval vr, sval ve, sval vn, sval v6_2]) rfl rfl ?_
      show Run _ _ [(816, _), (815, _), (814, _), (813, _), (812, _), (811, _), (810, _), (8, _), (6, _)] _ _
      refine Run.nil ?_
      refine Run.nT ?_
      refine Run.weaken (Incl.same (t := 9) rfl (Incl.same (t := 0) rfl (Incl.same (t := 2) rfl (Incl.same (t := 6) rfl (Incl.same (t := 7) rfl (Incl.same (t := 8) rfl Incl.nil)))))) ?_
      refine Run.drawP (β := Value) (fun M gs => match gs with | [] => M | [v7_0] => setM (M) 812 (.rows Ku v7_0 33 1 (rng j ((base14 l).l) ++ [at14 l (j + 7)])) | [v7_0, v7_1] => setM (setM (M) 812 (.rows Ku v7_0 33 1 (rng j ((base14 l).l) ++ [at14 l (j + 7)]))) 813 (.rows Ku v7_1 33 1 (rng j ((base14 l).r) ++ [at14 l (j + 9)])) | [v7_0, v7_1, v7_2] => setM (setM (setM (M) 812 (.rows Ku v7_0 33 1 (rng j ((base14 l).l) ++ [at14 l (j + 7)]))) 813 (.rows Ku v7_1 33 1 (rng j ((base14 l).r) ++ [at14 l (j + 9)]))) 814 (.rows Ku v7_2 33 1 (rng j ((base14 l).e) ++ [at14 l (j + 5)])) | [v7_0, v7_1, v7_2, v7_3] => setM (setM (setM (setM (M) 812 (.rows Ku v7_0 33 1 (rng j ((base14 l).l) ++ [at14 l (j + 7)]))) 813 (.rows Ku v7_1 33 1 (rng j ((base14 l).r) ++ [at14 l (j + 9)]))) 814 (.rows Ku v7_2 33 1 (rng j ((base14 l).e) ++ [at14 l (j + 5)]))) 815 (.rows Ku v7_3 33 1 (rng j ((base14 l).n) ++ [at14 l (j + 4) % 3])) | _ => M) [⟨7, some 53, fun v => sval v⟩, ⟨15, some 61, fun v => sval v⟩, ⟨23, some 69, fun v => sval v⟩, ⟨32, some 78, fun v => sval v⟩] rfl rfl ?_
      refine DrawP.step 0 1 rfl rfl rfl (by kernel_rfl) (by kernel_rfl) ⟨(StepOk.op rfl rfl rfl (y_fieldP rfl Tryd.underlying31 rfl ti29.siz)), trivial⟩ rfl rfl ?_
      refine DrawP.step 0 1 rfl rfl rfl (by kernel_rfl) (by kernel_rfl) ⟨(StepOk.op rfl rfl rfl (y_loadP 8 rfl rfl (rfl) Tryd.underlying29 rfl)), trivial⟩ rfl rfl ?_
      refine DrawP.step 0 1 rfl rfl rfl (by kernel_rfl) (by kernel_rfl) ⟨(StepOk.op rfl rfl rfl (y_move rfl)), trivial⟩ rfl rfl ?_
      refine DrawP.step 0 1 rfl rfl rfl (by kernel_rfl) (by kernel_rfl) ⟨(StepOk.op rfl rfl rfl (y_move rfl)), trivial⟩ rfl rfl ?_
      refine DrawP.step 0 1 rfl rfl rfl (by kernel_rfl) (by kernel_rfl) ⟨(StepOk.op rfl rfl rfl (y_add (r := ((j + 7 : Nat) : Int)) rfl rfl (by rw [wI_in (by omega)]; omega))), trivial⟩ rfl rfl ?_
      refine DrawP.step 0 1 rfl rfl rfl (by kernel_rfl) (by kernel_rfl) ⟨(StepOk.op rfl rfl rfl (q_callV en30 rfl rfl (at14_fn s l hl (j + 7) (by omega)))), trivial⟩ rfl rfl ?_
      refine DrawP.step 0 1 rfl rfl rfl (by kernel_rfl) (by kernel_rfl) ⟨(StepOk.op rfl rfl rfl (q_buildL (K := Ku) ([at14 l (j + 7)]) Tryd.underlying29 ti33 rfl rfl rfl (.cons rfl (Part.one' rfl) rfl .nil) rfl)), trivial⟩ rfl rfl ?_
      refine DrawP.skip rfl ?_
      refine DrawP.step 0 2 rfl rfl rfl (by kernel_rfl) (by kernel_rfl) ⟨(StepOk.op rfl rfl rfl (y_fieldP rfl Tryd.underlying31 rfl ti29.siz)), (fun _ => StepOk.op rfl rfl rfl (y_fieldP rfl Tryd.underlying31 rfl ti29.siz)), trivial⟩ rfl rfl ?_
      refine DrawP.step 0 2 rfl rfl rfl (by kernel_rfl) (by kernel_rfl) ⟨(StepOk.op rfl rfl rfl (y_loadP 8 rfl rfl (rfl) Tryd.underlying29 rfl)), (fun _ => StepOk.op rfl rfl rfl (y_loadP 8 rfl rfl (rfl) Tryd.underlying29 rfl)), trivial⟩ rfl rfl ?_
      refine DrawP.step 0 2 rfl rfl rfl (by kernel_rfl) (by kernel_rfl) ⟨(StepOk.op rfl rfl rfl (y_move rfl)), (fun _ => StepOk.op rfl rfl rfl (y_move rfl)), trivial⟩ rfl rfl ?_
      refine DrawP.step 0 2 rfl rfl rfl (by kernel_rfl) (by kernel_rfl) ⟨(StepOk.op rfl rfl rfl (y_move rfl)), (fun _ => StepOk.op rfl rfl rfl (y_move rfl)), trivial⟩ rfl rfl ?_
      refine DrawP.step 0 2 rfl rfl rfl (by kernel_rfl) (by kernel_rfl) ⟨(StepOk.op rfl rfl rfl (y_add (r := ((j + 9 : Nat) : Int)) rfl rfl (by rw [wI_in (by omega)]; omega))), (fun _ => StepOk.op rfl rfl rfl (y_add (r := ((j + 9 : Nat) : Int)) rfl rfl (by rw [wI_in (by omega)]; omega))), trivial⟩ rfl rfl ?_
      refine DrawP.step 1 1 rfl rfl rfl (by kernel_rfl) (by kernel_rfl) ⟨(fun _ => StepOk.op rfl rfl rfl (q_callV en30 rfl rfl (at14_fn s l hl (j + 9) (by omega)))), trivial⟩ rfl rfl ?_
      refine DrawP.step 1 1 rfl rfl rfl (by kernel_rfl) (by kernel_rfl) ⟨(fun _ => StepOk.op rfl rfl rfl (q_buildL (K := Ku) ([at14 l (j + 9)]) Tryd.underlying29 ti33 rfl rfl rfl (.cons rfl (Part.one' rfl) rfl .nil) rfl)), trivial⟩ rfl rfl ?_
      refine DrawP.skip rfl ?_
      refine DrawP.step 0 3 rfl rfl rfl (by kernel_rfl) (by kernel_rfl) ⟨(StepOk.op rfl rfl rfl (y_fieldP rfl Tryd.underlying31 rfl ti29.siz)), (fun _ => StepOk.op rfl rfl rfl (y_fieldP rfl Tryd.underlying31 rfl ti29.siz)), (fun _ _ => StepOk.op rfl rfl rfl (y_fieldP rfl Tryd.underlying31 rfl ti29.siz)), trivial⟩ rfl rfl ?_
      refine DrawP.step 0 3 rfl rfl rfl (by kernel_rfl) (by kernel_rfl) ⟨(StepOk.op rfl rfl rfl (y_loadP 8 rfl rfl (rfl) Tryd.underlying29 rfl)), (fun _ => StepOk.op rfl rfl rfl (y_loadP 8 rfl rfl (rfl) Tryd.underlying29 rfl)), (fun _ _ => StepOk.op rfl rfl rfl (y_loadP 8 rfl rfl (rfl) Tryd.underlying29 rfl)), trivial⟩ rfl rfl ?_
      refine DrawP.step 0 3 rfl rfl rfl (by kernel_rfl) (by kernel_rfl) ⟨(StepOk.op rfl rfl rfl (y_move rfl)), (fun _ => StepOk.op rfl rfl rfl (y_move rfl)), (fun _ _ => StepOk.op rfl rfl rfl (y_move rfl)), trivial⟩ rfl rfl ?_
      refine DrawP.step 0 3 rfl rfl rfl (by kernel_rfl) (by kernel_rfl) ⟨(StepOk.op rfl rfl rfl (y_move rfl)), (fun _ => StepOk.op rfl rfl rfl (y_move rfl)), (fun _ _ => StepOk.op rfl rfl rfl (y_move rfl)), trivial⟩ rfl rfl ?_
      refine DrawP.step 0 3 rfl rfl rfl (by kernel_rfl) (by kernel_rfl) ⟨(StepOk.op rfl rfl rfl (y_add (r := ((j + 5 : Nat) : Int)) rfl rfl (by rw [wI_in (by omega)]; omega))), (fun _ => StepOk.op rfl rfl rfl (y_add (r := ((j + 5 : Nat) : Int)) rfl rfl (by rw [wI_in (by omega)]; omega))), (fun _ _ => StepOk.op rfl rfl rfl (y_add (r := ((j + 5 : Nat) : Int)) rfl rfl (by rw [wI_in (by omega)]; omega))), trivial⟩ rfl rfl ?_
      refine DrawP.step 2 1 rfl rfl rfl (by kernel_rfl) (by kernel_rfl) ⟨(fun _ _ => StepOk.op rfl rfl rfl (q_callV en30 rfl rfl (at14_fn s l hl (j + 5) (by omega)))), trivial⟩ rfl rfl ?_
      refine DrawP.step 2 1 rfl rfl rfl (by kernel_rfl) (by kernel_rfl) ⟨(fun _ _ => StepOk.op rfl rfl rfl (q_buildL (K := Ku) ([at14 l (j + 5)]) Tryd.underlying29 ti33 rfl rfl rfl (.cons rfl (Part.one' rfl) rfl .nil) rfl)), trivial⟩ rfl rfl ?_
      refine DrawP.skip rfl ?_
      refine DrawP.step 0 4 rfl rfl rfl (by kernel_rfl) (by kernel_rfl) ⟨(StepOk.op rfl rfl rfl (y_fieldP rfl Tryd.underlying31 rfl ti29.siz)), (fun _ => StepOk.op rfl rfl rfl (y_fieldP rfl Tryd.underlying31 rfl ti29.siz)), (fun _ _ => StepOk.op rfl rfl rfl (y_fieldP rfl Tryd.underlying31 rfl ti29.siz)), (fun _ _ _ => StepOk.op rfl rfl rfl (y_fieldP rfl Tryd.underlying31 rfl ti29.siz)), trivial⟩ rfl rfl ?_
      refine DrawP.step 0 4 rfl rfl rfl (by kernel_rfl) (by kernel_rfl) ⟨(StepOk.op rfl rfl rfl (y_loadP 8 rfl rfl (rfl) Tryd.underlying29 rfl)), (fun _ => StepOk.op rfl rfl rfl (y_loadP 8 rfl rfl (rfl) Tryd.underlying29 rfl)), (fun _ _ => StepOk.op rfl rfl rfl (y_loadP 8 rfl rfl (rfl) Tryd.underlying29 rfl)), (fun _ _ _ => StepOk.op rfl rfl rfl (y_loadP 8 rfl rfl (rfl) Tryd.underlying29 rfl)), trivial⟩ rfl rfl ?_
      refine DrawP.step 0 4 rfl rfl rfl (by kernel_rfl) (by kernel_rfl) ⟨(StepOk.op rfl rfl rfl (y_move rfl)), (fun _ => StepOk.op rfl rfl rfl (y_move rfl)), (fun _ _ => StepOk.op rfl rfl rfl (y_move rfl)), (fun _ _ _ => StepOk.op rfl rfl rfl (y_move rfl)), trivial⟩ rfl rfl ?_
      refine DrawP.step 0 4 rfl rfl rfl (by kernel_rfl) (by kernel_rfl) ⟨(StepOk.op rfl rfl rfl (y_move rfl)), (fun _ => StepOk.op rfl rfl rfl (y_move rfl)), (fun _ _ => StepOk.op rfl rfl rfl (y_move rfl)), (fun _ _ _ => StepOk.op rfl rfl rfl (y_move rfl)), trivial⟩ rfl rfl ?_
      refine DrawP.step 0 4 rfl rfl rfl (by kernel_rfl) (by kernel_rfl) ⟨(StepOk.op rfl rfl rfl (y_add (r := ((j + 4 : Nat) : Int)) rfl rfl (by rw [wI_in (by omega)]; omega))), (fun _ => StepOk.op rfl rfl rfl (y_add (r := ((j + 4 : Nat) : Int)) rfl rfl (by rw [wI_in (by omega)]; omega))), (fun _ _ => StepOk.op rfl rfl rfl (y_add (r := ((j + 4 : Nat) : Int)) rfl rfl (by rw [wI_in (by omega)]; omega))), (fun _ _ _ => StepOk.op rfl rfl rfl (y_add (r := ((j + 4 : Nat) : Int)) rfl rfl (by rw [wI_in (by omega)]; omega))), trivial⟩ rfl rfl ?_
      refine DrawP.step 3 1 rfl rfl rfl (by kernel_rfl) (by kernel_rfl) ⟨(fun _ _ _ => StepOk.op rfl rfl rfl (q_callV en30 rfl rfl (at14_fn s l hl (j + 4) (by omega)))), trivial⟩ rfl rfl ?_
      refine DrawP.step 3 1 rfl rfl rfl (by kernel_rfl) (by kernel_rfl) ⟨(fun _ _ _ => StepOk.op rfl rfl rfl (y_rem (r := at14 l (j + 4) % 3) rfl rfl (by omega) (tmod_of (hat (j + 4)).1))), trivial⟩ rfl rfl ?_
      refine DrawP.step 3 1 rfl rfl rfl (by kernel_rfl) (by kernel_rfl) ⟨(fun _ _ _ => StepOk.op rfl rfl rfl (q_buildL (K := Ku) ([at14 l (j + 4) % 3]) Tryd.underlying29 ti33 rfl rfl rfl (.cons rfl (Part.one' rfl) rfl .nil) rfl)), trivial⟩ rfl rfl ?_
      refine DrawP.skip rfl ?_
      refine DrawP.step 1 4 rfl rfl rfl (by kernel_rfl) (by kernel_rfl) ⟨(fun _ => StepOk.op rfl rfl rfl (y_fieldP rfl Tryd.underlying31 rfl ti29.siz)), (fun _ _ => StepOk.op rfl rfl rfl (y_fieldP rfl Tryd.underlying31 rfl ti29.siz)), (fun _ _ _ => StepOk.op rfl rfl rfl (y_fieldP rfl Tryd.underlying31 rfl ti29.siz)), (fun _ _ _ _ => StepOk.op rfl rfl rfl (y_fieldP rfl Tryd.underlying31 rfl ti29.siz)), trivial⟩ rfl rfl ?_
      refine DrawP.tail (m := 34) (by kernel_rfl) (by kernel_rfl) rfl rfl ⟨⟨_, rfl, ?_⟩, ⟨_, rfl, ?_⟩, ⟨_, rfl, ?_⟩, ⟨_, rfl, ?_⟩, trivial⟩ ?_
      · intro L' hS K hK
        refine Run.opAt rfl ?_
        refine q_append 812 (hS _ _ rfl) rfl (hS _ _ rfl) Tryd.underlying29 ti33 rfl rfl (fun _ => rfl) (by simp; omega) rfl ?_
        intro v53
        refine Run.nil ?_
        refine Run.nT ?_
        exact hK v53
      · intro v7_0 L' hS K hK
        refine Run.opAt rfl ?_
        refine q_append 813 (hS _ _ rfl) rfl (hS _ _ rfl) Tryd.underlying29 ti33 rfl rfl (fun _ => rfl) (by simp; omega) rfl ?_
        intro v61
        refine Run.nil ?_
        refine Run.nT ?_
        exact hK v61
      · intro v7_0 v7_1 L' hS K hK
        refine Run.opAt rfl ?_
        refine q_append 814 (hS _ _ rfl) rfl (hS _ _ rfl) Tryd.underlying29 ti33 rfl rfl (fun _ => rfl) (by simp; omega) rfl ?_
        intro v69
        refine Run.nil ?_
        refine Run.nT ?_
        exact hK v69
      · intro v7_0 v7_1 v7_2 L' hS K hK
        refine Run.opAt rfl ?_
        refine q_append 815 (hS _ _ rfl) rfl (hS _ _ rfl) Tryd.underlying29 ti33 rfl rfl (fun _ => rfl) (by simp; omega) rfl ?_
        intro v78
        refine Run.nil ?_
        refine Run.nT ?_
        exact hK v78
      · intro v7_0 v7_1 v7_2 v7_3
        refine Run.own (t := 812) (e' := Ent.rows Ku v7_0 33 1 (rng (j + 1) ((base14 l).l))) rfl (by rw [← rng_snoc]; rfl) ?_
        refine Run.own (t := 813) (e' := Ent.rows Ku v7_1 33 1 (rng (j + 1) ((base14 l).r))) rfl (by rw [← rng_snoc]; rfl) ?_
        refine Run.own (t := 814) (e' := Ent.rows Ku v7_2 33 1 (rng (j + 1) ((base14 l).e))) rfl (by rw [← rng_snoc]; rfl) ?_
        refine Run.own (t := 815) (e' := Ent.rows Ku v7_3 33 1 (rng (j + 1) ((base14 l).n))) rfl (by rw [← rng_snoc]; rfl) ?_
        show Run _ _ [(816, _), (815, _), (814, _), (813, _), (812, _), (811, _), (810, _), (8, _), (6, _)] _ _
        refine q_store1V 812 8 rfl rfl rfl rfl ti29 (Nat.le_of_ble_eq_true rfl) ?_
        refine Run.op rfl rfl rfl (y_fieldP rfl Tryd.underlying31 rfl ti29.siz) ?_
        refine q_store1V 813 8 rfl rfl rfl rfl ti29 (Nat.le_of_ble_eq_true rfl) ?_
        refine Run.op rfl rfl rfl (y_fieldP rfl Tryd.underlying31 rfl ti29.siz) ?_
        refine q_store1V 814 8 rfl rfl rfl rfl ti29 (Nat.le_of_ble_eq_true rfl) ?_
        refine Run.op rfl rfl rfl (y_fieldP rfl Tryd.underlying31 rfl ti29.siz) ?_
        refine q_store1V 815 8 rfl rfl rfl rfl ti29 (Nat.le_of_ble_eq_true rfl) ?_
        refine Run.own (t := 8) (e' := .blk b8 31 [sval v6_0, sval v6_1, sval v7_0, sval v7_1, sval v7_2, sval v7_3, sval v6_2]) rfl rfl ?_
        show Run _ _ [(816, _), (815, _), (814, _), (813, _), (812, _), (811, _), (810, _), (8, _), (6, _)] _ _
        refine Run.nil ?_
        refine Run.nB ?_
        refine Run.nT ?_
        refine Run.region ?_
        refine Run.op rfl rfl rfl (y_move rfl) ?_
        refine Run.op rfl rfl rfl (y_add rfl rfl (by first | exact wI_in (by omega) | rfl)) ?_
        refine Run.op rfl rfl rfl (y_assign rfl) ?_
        refine Run.nil ?_
        refine Run.nT ?_
        refine Run.round (j + 1, v6_0, v6_1, v7_0, v7_1, v7_2, v7_3, v6_2) ?_ ?_ ?_ ?_
        · show j + 1 ≤ N; omega
        · show N - (j + 1) < N - j; omega
        · rfl
        · exact (Incl.int (t := 9) rfl (by omega) (Incl.same (t := 0) rfl (Incl.same (t := 2) rfl (Incl.same (t := 6) rfl (Incl.same (t := 7) rfl (Incl.same (t := 8) rfl Incl.nil))))))
  · obtain rfl : N = j := by have := of_decide_eq_false hb; omega
    refine Run.exit ?_
    refine Run.eT ?_
    refine Run.eT ?_
    refine Run.eB ?_
    refine Run.nT ?_
    refine Run.seq ?_
    refine Run.seq ?_
    refine Run.region ?_
    refine Run.op rfl rfl rfl (y_assign rfl) ?_
    refine Run.nil ?_
    refine Run.nT ?_
    refine Run.block ?_
    refine Run.own (t := 812) (e' := Ent.rows Ku vl 33 1 (rng N (mixG ((hon14 N (base14 l)).l) ((base14 l).l) 0))) rfl (by rw [← mix_zero]) ?_
    refine Run.own (t := 813) (e' := Ent.rows Ku vr 33 1 (rng N (mixG ((hon14 N (base14 l)).r) ((base14 l).r) 0))) rfl (by rw [← mix_zero]) ?_
    refine Run.own (t := 814) (e' := Ent.rows Ku ve 33 1 (rng N (mixG ((hon14 N (base14 l)).e) ((base14 l).e) 0))) rfl (by rw [← mix_zero]) ?_
    refine Run.own (t := 815) (e' := Ent.rows Ku vn 33 1 (rng N (mixG (fun _ => 0) ((base14 l).n) 0))) rfl (by rw [← mix_zero]) ?_
    refine Run.loopK (ι := Nat) (fun i => i ≤ N ∧ (honest = false → i = 0)) (fun i => N - i) (fun i => [(812, .rows Ku vl 33 1 (rng N (mixG ((hon14 N (base14 l)).l) ((base14 l).l) i))), (813, .rows Ku vr 33 1 (rng N (mixG ((hon14 N (base14 l)).r) ((base14 l).r) i))), (814, .rows Ku ve 33 1 (rng N (mixG ((hon14 N (base14 l)).e) ((base14 l).e) i))), (815, .rows Ku vn 33 1 (rng N (mixG (fun _ => 0) ((base14 l).n) i)))]) [0, 2, 6, 8] (fun i => [(10, i64 i)]) 0 ⟨by omega, fun _ => rfl⟩ rfl (Incl.same (t := 10) rfl (Incl.pick [0, 2, 6, 8])) ?_
    rintro i ⟨hi, hi0⟩
    show Run _ _ [(816, _), (815, _), (814, _), (813, _), (812, _), (811, _), (810, _), (8, _), (6, _)] [(10, _), (0, _), (2, _), (6, _), (8, _)] _
    refine Run.seq ?_
    refine Run.seq ?_
    refine Run.region ?_
    refine Run.op rfl rfl rfl (y_move rfl) ?_
    refine Run.op rfl rfl rfl (y_move rfl) ?_
    refine Run.op rfl rfl rfl (y_lss rfl rfl) ?_
    refine Run.op rfl rfl rfl (y_move rfl) ?_
    refine Run.opC rfl rfl rfl rfl rfl (fun hg => Yields.incl (Incl.same (t := 2) rfl Incl.nil) (y_move rfl)) ?_
    refine Run.op rfl rfl rfl (y_pickAnd rfl rfl) ?_
    refine Run.nil ?_
    refine Run.nT ?_
    refine Run.cond rfl (fun hb => ?_) (fun hb => ?_)
    · obtain ⟨hb1, hh⟩ : i < N ∧ honest = true := by rw [Bool.and_eq_true, decide_eq_true_eq] at hb; exact ⟨by omega, hb.2⟩
      have hiN := hb1
      have hmod : (i + 1) % N < N := Nat.mod_lt _ (by omega)
      have hmod2 : i * i % N < N := Nat.mod_lt _ (by omega)
      have hii : i * i ≤ 7 * 7 := Nat.mul_le_mul (show i ≤ 7 by omega) (show i ≤ 7 by omega)
      have hii2 : (i : Int) * (i : Int) = ((i * i : Nat) : Int) := (Int.natCast_mul i i).symm
      refine Run.skip ?_
      refine Run.nT ?_
      refine Run.seq ?_
      refine Run.block ?_
      refine Run.seq ?_
      refine Run.weaken (Incl.same (t := 10) rfl (Incl.same (t := 0) rfl (Incl.same (t := 2) rfl (Incl.same (t := 6) rfl (Incl.same (t := 8) rfl Incl.nil))))) ?_
      refine Run.drawP (β := Value) (fun M gs => match gs with | [] => M | [v11_0] => setM M 812 (.row vl 33 1 (rng N (mixG ((hon14 N (base14 l)).l) ((base14 l).l) i)).length (spl ((rng N (mixG ((hon14 N (base14 l)).l) ((base14 l).l) i)).flatMap Ku) (i * 1) [u64 ((base14 l).a ((i + 1) % N))])) | _ => M) [⟨23, none, fun v => sval v⟩] rfl rfl ?_
      refine DrawP.step 0 1 rfl rfl rfl (by kernel_rfl) (by kernel_rfl) ⟨(StepOk.op rfl rfl rfl (y_fieldP rfl Tryd.underlying31 rfl ti29.siz)), trivial⟩ rfl rfl ?_
      refine DrawP.step 0 1 rfl rfl rfl (by kernel_rfl) (by kernel_rfl) ⟨(StepOk.op rfl rfl rfl (y_loadP 8 rfl rfl (rfl) Tryd.underlying29 rfl)), trivial⟩ rfl rfl ?_
      refine DrawP.step 0 1 rfl rfl rfl (by kernel_rfl) (by kernel_rfl) ⟨(StepOk.op rfl rfl rfl (y_move rfl)), trivial⟩ rfl rfl ?_
      refine DrawP.step 0 2 rfl rfl rfl (by kernel_rfl) (by kernel_rfl) ⟨(StepOk.op rfl rfl rfl (y_fieldP rfl Tryd.underlying31 rfl ti29.siz)), (fun _ => StepOk.op rfl rfl rfl (y_fieldP rfl Tryd.underlying31 rfl ti29.siz)), trivial⟩ rfl rfl ?_
      refine DrawP.step 0 2 rfl rfl rfl (by kernel_rfl) (by kernel_rfl) ⟨(StepOk.op rfl rfl rfl (y_loadP 8 rfl rfl (rfl) Tryd.underlying29 rfl)), (fun _ => StepOk.op rfl rfl rfl (y_loadP 8 rfl rfl (rfl) Tryd.underlying29 rfl)), trivial⟩ rfl rfl ?_
      refine DrawP.step 0 2 rfl rfl rfl (by kernel_rfl) (by kernel_rfl) ⟨(StepOk.op rfl rfl rfl (y_move rfl)), (fun _ => StepOk.op rfl rfl rfl (y_move rfl)), trivial⟩ rfl rfl ?_
      refine DrawP.step 0 1 rfl rfl rfl (by kernel_rfl) (by kernel_rfl) ⟨(StepOk.op rfl rfl rfl (y_fieldP rfl Tryd.underlying31 rfl ti29.siz)), trivial⟩ rfl rfl ?_
      refine DrawP.step 0 1 rfl rfl rfl (by kernel_rfl) (by kernel_rfl) ⟨(StepOk.op rfl rfl rfl (y_loadP 8 rfl rfl (rfl) Tryd.underlying29 rfl)), trivial⟩ rfl rfl ?_
      refine DrawP.step 0 1 rfl rfl rfl (by kernel_rfl) (by kernel_rfl) ⟨(StepOk.op rfl rfl rfl (y_move rfl)), trivial⟩ rfl rfl ?_
      refine DrawP.step 0 1 rfl rfl rfl (by kernel_rfl) (by kernel_rfl) ⟨(StepOk.op rfl rfl rfl (y_add (r := ((i + 1 : Nat) : Int)) rfl rfl (by rw [wI_in (by omega)]; omega))), trivial⟩ rfl rfl ?_
      refine DrawP.step 0 1 rfl rfl rfl (by kernel_rfl) (by kernel_rfl) ⟨(StepOk.op rfl rfl rfl (y_move rfl)), trivial⟩ rfl rfl ?_
      refine DrawP.step 0 1 rfl rfl rfl (by kernel_rfl) (by kernel_rfl) ⟨(StepOk.op rfl rfl rfl (y_rem (r := (((i + 1) % N : Nat) : Int)) rfl rfl (by omega) (by rw [tmod_of (by omega)]; rfl))), trivial⟩ rfl rfl ?_
      refine DrawP.step 0 1 rfl rfl rfl (by kernel_rfl) (by kernel_rfl) ⟨(StepOk.op rfl rfl rfl (y_indexR 810 ((i + 1) % N) rfl rfl rfl Tryd.underlying29 ti33.siz (rfl) (by rw [rng_len]; exact hmod))), trivial⟩ rfl rfl ?_
      refine DrawP.step 0 1 rfl rfl rfl (by kernel_rfl) (by kernel_rfl) ⟨(StepOk.op rfl rfl rfl (y_loadR 810 rfl rfl (row_is (x := (base14 l).a ((i + 1) % N)) (rng_get hmod)) Tryd.underlying33 rfl)), trivial⟩ rfl rfl ?_
      refine DrawP.step 0 1 rfl rfl rfl (by kernel_rfl) (by kernel_rfl) ⟨(StepOk.op rfl rfl rfl (y_fieldP rfl Tryd.underlying31 rfl ti29.siz)), trivial⟩ rfl rfl ?_
      refine DrawP.step 0 1 rfl rfl rfl (by kernel_rfl) (by kernel_rfl) ⟨(StepOk.op rfl rfl rfl (y_loadP 8 rfl rfl (rfl) Tryd.underlying29 rfl)), trivial⟩ rfl rfl ?_
      refine DrawP.step 0 1 rfl rfl rfl (by kernel_rfl) (by kernel_rfl) ⟨(StepOk.op rfl rfl rfl (y_move rfl)), trivial⟩ rfl rfl ?_
      refine DrawP.step 0 1 rfl rfl rfl (by kernel_rfl) (by kernel_rfl) ⟨(StepOk.op rfl rfl rfl (y_add (r := ((i + 1 : Nat) : Int)) rfl rfl (by rw [wI_in (by omega)]; omega))), trivial⟩ rfl rfl ?_
      refine DrawP.step 0 1 rfl rfl rfl (by kernel_rfl) (by kernel_rfl) ⟨(StepOk.op rfl rfl rfl (y_move rfl)), trivial⟩ rfl rfl ?_
      refine DrawP.step 0 1 rfl rfl rfl (by kernel_rfl) (by kernel_rfl) ⟨(StepOk.op rfl rfl rfl (y_rem (r := (((i + 1) % N : Nat) : Int)) rfl rfl (by omega) (by rw [tmod_of (by omega)]; rfl))), trivial⟩ rfl rfl ?_
      refine DrawP.step 0 1 rfl rfl rfl (by kernel_rfl) (by kernel_rfl) ⟨(StepOk.op rfl rfl rfl (y_indexR 811 ((i + 1) % N) rfl rfl rfl Tryd.underlying29 ti33.siz (rfl) (by rw [rng_len]; exact hmod))), trivial⟩ rfl rfl ?_
      refine DrawP.step 0 1 rfl rfl rfl (by kernel_rfl) (by kernel_rfl) ⟨(StepOk.op rfl rfl rfl (y_loadR 811 rfl rfl (row_is (x := (base14 l).b ((i + 1) % N)) (rng_get hmod)) Tryd.underlying33 rfl)), trivial⟩ rfl rfl ?_
      refine DrawP.step 0 1 rfl rfl rfl (by kernel_rfl) (by kernel_rfl) ⟨(StepOk.op rfl rfl rfl (y_indexR 812 (i) rfl rfl rfl Tryd.underlying29 ti33.siz (rfl) (by rw [rng_len]; omega))), trivial⟩ rfl rfl ?_
      refine DrawP.skip rfl ?_
      refine DrawP.tail (m := 24) (by kernel_rfl) (by kernel_rfl) rfl rfl ⟨⟨_, rfl, ?_⟩, trivial⟩ ?_
      · intro L' hS K hK
        refine Run.opAt rfl ?_
        refine q_storeR1 812 (hS _ _ rfl) rfl (hS _ _ rfl) ti33 (by rw [flatKu]; simp; omega) ?_
        refine Run.nil ?_
        refine Run.nT ?_
        exact hK (.slice none 0 0)
      · intro v11_0
        refine Run.own (t := 812) rfl (row_put' (j := i) (by rw [rng_len]; omega) (mix_put hiN rfl) (by simp)) ?_
        show Run _ _ [(816, _), (815, _), (814, _), (813, _), (812, _), (811, _), (810, _), (8, _), (6, _)] _ _
        refine Run.op rfl rfl rfl (y_indexR 813 (i) rfl rfl rfl Tryd.underlying29 ti33.siz (rfl) (by rw [rng_len]; omega)) ?_
        refine q_storeR1 813 rfl rfl rfl ti33 (by rw [flatKu]; simp; omega) ?_
        refine Run.own (t := 813) rfl (row_put' (j := i) (by rw [rng_len]; omega) (mix_put hiN rfl) (by simp)) ?_
        show Run _ _ [(816, _), (815, _), (814, _), (813, _), (812, _), (811, _), (810, _), (8, _), (6, _)] _ _
        refine Run.nil ?_
        refine Run.nT ?_
        refine Run.weaken (Incl.same (t := 10) rfl (Incl.same (t := 0) rfl (Incl.same (t := 2) rfl (Incl.same (t := 6) rfl (Incl.same (t := 8) rfl Incl.nil))))) ?_
        refine Run.drawP (β := Value) (fun M gs => match gs with | [] => M | [v12_0] => setM M 814 (.row ve 33 1 (rng N (mixG ((hon14 N (base14 l)).e) ((base14 l).e) i)).length (spl ((rng N (mixG ((hon14 N (base14 l)).e) ((base14 l).e) i)).flatMap Ku) (i * 1) [u64 ((base14 l).t (i * i % N))])) | _ => M) [⟨16, none, fun v => sval v⟩] rfl rfl ?_
        refine DrawP.step 0 1 rfl rfl rfl (by kernel_rfl) (by kernel_rfl) ⟨(StepOk.op rfl rfl rfl (y_fieldP rfl Tryd.underlying31 rfl ti29.siz)), trivial⟩ rfl rfl ?_
        refine DrawP.step 0 1 rfl rfl rfl (by kernel_rfl) (by kernel_rfl) ⟨(StepOk.op rfl rfl rfl (y_loadP 8 rfl rfl (rfl) Tryd.underlying29 rfl)), trivial⟩ rfl rfl ?_
        refine DrawP.step 0 1 rfl rfl rfl (by kernel_rfl) (by kernel_rfl) ⟨(StepOk.op rfl rfl rfl (y_move rfl)), trivial⟩ rfl rfl ?_
        refine DrawP.step 0 2 rfl rfl rfl (by kernel_rfl) (by kernel_rfl) ⟨(StepOk.op rfl rfl rfl (y_fieldP rfl Tryd.underlying31 rfl ti29.siz)), (fun _ => StepOk.op rfl rfl rfl (y_fieldP rfl Tryd.underlying31 rfl ti29.siz)), trivial⟩ rfl rfl ?_
        refine DrawP.step 0 2 rfl rfl rfl (by kernel_rfl) (by kernel_rfl) ⟨(StepOk.op rfl rfl rfl (y_loadP 8 rfl rfl (rfl) Tryd.underlying29 rfl)), (fun _ => StepOk.op rfl rfl rfl (y_loadP 8 rfl rfl (rfl) Tryd.underlying29 rfl)), trivial⟩ rfl rfl ?_
        refine DrawP.step 0 2 rfl rfl rfl (by kernel_rfl) (by kernel_rfl) ⟨(StepOk.op rfl rfl rfl (y_move rfl)), (fun _ => StepOk.op rfl rfl rfl (y_move rfl)), trivial⟩ rfl rfl ?_
        refine DrawP.step 0 1 rfl rfl rfl (by kernel_rfl) (by kernel_rfl) ⟨(StepOk.op rfl rfl rfl (y_fieldP rfl Tryd.underlying31 rfl ti29.siz)), trivial⟩ rfl rfl ?_
        refine DrawP.step 0 1 rfl rfl rfl (by kernel_rfl) (by kernel_rfl) ⟨(StepOk.op rfl rfl rfl (y_loadP 8 rfl rfl (rfl) Tryd.underlying29 rfl)), trivial⟩ rfl rfl ?_
        refine DrawP.step 0 1 rfl rfl rfl (by kernel_rfl) (by kernel_rfl) ⟨(StepOk.op rfl rfl rfl (y_move rfl)), trivial⟩ rfl rfl ?_
        refine DrawP.step 0 1 rfl rfl rfl (by kernel_rfl) (by kernel_rfl) ⟨(StepOk.op rfl rfl rfl (y_move rfl)), trivial⟩ rfl rfl ?_
        refine DrawP.step 0 1 rfl rfl rfl (by kernel_rfl) (by kernel_rfl) ⟨(StepOk.op rfl rfl rfl (y_mul (r := ((i * i : Nat) : Int)) rfl rfl (by rw [hii2, wI_in (by omega)]))), trivial⟩ rfl rfl ?_
        refine DrawP.step 0 1 rfl rfl rfl (by kernel_rfl) (by kernel_rfl) ⟨(StepOk.op rfl rfl rfl (y_move rfl)), trivial⟩ rfl rfl ?_
        refine DrawP.step 0 1 rfl rfl rfl (by kernel_rfl) (by kernel_rfl) ⟨(StepOk.op rfl rfl rfl (y_rem (r := ((i * i % N : Nat) : Int)) rfl rfl (by omega) (by rw [tmod_of (by omega)]; rfl))), trivial⟩ rfl rfl ?_
        refine DrawP.step 0 1 rfl rfl rfl (by kernel_rfl) (by kernel_rfl) ⟨(StepOk.op rfl rfl rfl (y_indexR 816 (i * i % N) rfl rfl rfl Tryd.underlying29 ti33.siz (rfl) (by rw [rng_len]; exact hmod2))), trivial⟩ rfl rfl ?_
        refine DrawP.step 0 1 rfl rfl rfl (by kernel_rfl) (by kernel_rfl) ⟨(StepOk.op rfl rfl rfl (y_loadR 816 rfl rfl (row_is (x := (base14 l).t (i * i % N)) (rng_get hmod2)) Tryd.underlying33 rfl)), trivial⟩ rfl rfl ?_
        refine DrawP.step 0 1 rfl rfl rfl (by kernel_rfl) (by kernel_rfl) ⟨(StepOk.op rfl rfl rfl (y_indexR 814 (i) rfl rfl rfl Tryd.underlying29 ti33.siz (rfl) (by rw [rng_len]; omega))), trivial⟩ rfl rfl ?_
        refine DrawP.skip rfl ?_
        refine DrawP.tail (m := 17) (by kernel_rfl) (by kernel_rfl) rfl rfl ⟨⟨_, rfl, ?_⟩, trivial⟩ ?_
        · intro L' hS K hK
          refine Run.opAt rfl ?_
          refine q_storeR1 814 (hS _ _ rfl) rfl (hS _ _ rfl) ti33 (by rw [flatKu]; simp; omega) ?_
          refine Run.nil ?_
          refine Run.nT ?_
          exact hK (.slice none 0 0)
        · intro v12_0
          refine Run.own (t := 814) rfl (row_put' (j := i) (by rw [rng_len]; omega) (mix_put hiN rfl) (by simp)) ?_
          show Run _ _ [(816, _), (815, _), (814, _), (813, _), (812, _), (811, _), (810, _), (8, _), (6, _)] _ _
          refine Run.op rfl rfl rfl (y_indexR 815 (i) rfl rfl rfl Tryd.underlying29 ti33.siz (rfl) (by rw [rng_len]; omega)) ?_
          refine q_storeR1 815 rfl rfl rfl ti33 (by rw [flatKu]; simp; omega) ?_
          refine Run.own (t := 815) rfl (row_put' (j := i) (by rw [rng_len]; omega) (mix_put hiN rfl) (by simp)) ?_
          show Run _ _ [(816, _), (815, _), (814, _), (813, _), (812, _), (811, _), (810, _), (8, _), (6, _)] _ _
          refine Run.nil ?_
          refine Run.nB ?_
          refine Run.nT ?_
          refine Run.region ?_
          refine Run.op rfl rfl rfl (y_move rfl) ?_
          refine Run.op rfl rfl rfl (y_add rfl rfl (by first | exact wI_in (by omega) | rfl)) ?_
          refine Run.op rfl rfl rfl (y_assign rfl) ?_
          refine Run.nil ?_
          refine Run.nT ?_
          refine Run.round (i + 1) ?_ ?_ ?_ ?_
          · exact ⟨by omega, fun h => (by rw [hh] at h; cases h)⟩
          · show N - (i + 1) < N - i; omega
          · rfl
          · exact (Incl.int (t := 10) rfl (by omega) (Incl.same (t := 0) rfl (Incl.same (t := 2) rfl (Incl.same (t := 6) rfl (Incl.same (t := 8) rfl Incl.nil)))))
    · have hex : honest = true → i = N := fun h => by rw [h, Bool.and_true, decide_eq_false_iff_not] at hb; omega
      refine Run.own (t := 810) (e' := Ent.rows Ku va 33 1 (rng N ((cols14 N l honest).a))) rfl (by rw [cols_a]) ?_
      refine Run.own (t := 811) (e' := Ent.rows Ku vb 33 1 (rng N ((cols14 N l honest).b))) rfl (by rw [cols_b]) ?_
      refine Run.own (t := 816) (e' := Ent.rows Ku vt 33 1 (rng N ((cols14 N l honest).t))) rfl (by rw [cols_t]) ?_
      refine Run.own (t := 812) (e' := Ent.rows Ku vl 33 1 (rng N ((cols14 N l honest).l))) rfl (by rw [mix_end (g1 := (cols14 N l honest).l) hex hi0 (fun h => by subst h; rfl) (fun h => by subst h; rfl)]) ?_
      refine Run.own (t := 813) (e' := Ent.rows Ku vr 33 1 (rng N ((cols14 N l honest).r))) rfl (by rw [mix_end (g1 := (cols14 N l honest).r) hex hi0 (fun h => by subst h; rfl) (fun h => by subst h; rfl)]) ?_
      refine Run.own (t := 814) (e' := Ent.rows Ku ve 33 1 (rng N ((cols14 N l honest).e))) rfl (by rw [mix_end (g1 := (cols14 N l honest).e) hex hi0 (fun h => by subst h; rfl) (fun h => by subst h; rfl)]) ?_
      refine Run.own (t := 815) (e' := Ent.rows Ku vn 33 1 (rng N (nS N l honest 0))) rfl (by rw [mix_end (g1 := nS N l honest 0) hex hi0 (fun h => by subst h; rfl) (fun h => by subst h; rfl)]) ?_
      refine Run.exit ?_
      refine Run.eT ?_
      refine Run.eT ?_
      refine Run.eB ?_
      refine Run.nT ?_
      refine Run.seq ?_
      refine Run.seq ?_
      refine Run.region ?_
      refine Run.op rfl rfl rfl (y_assign rfl) ?_
      refine Run.nil ?_
      refine Run.nT ?_
      refine Run.block ?_
      refine Run.loopK (ι := Nat) (fun i => i ≤ N ∧ (honest = false → i = 0)) (fun i => N - i) (fun i => [(815, .rows Ku vn 33 1 (rng N (nS N l honest i)))]) [0, 2, 6, 8] (fun i => [(11, i64 i)]) 0 ⟨by omega, fun _ => rfl⟩ rfl (Incl.same (t := 11) rfl (Incl.pick [0, 2, 6, 8])) ?_
      rintro i ⟨hi, hi0⟩
      show Run _ _ [(816, _), (815, _), (814, _), (813, _), (812, _), (811, _), (810, _), (8, _), (6, _)] [(11, _), (0, _), (2, _), (6, _), (8, _)] _
      refine Run.seq ?_
      refine Run.seq ?_
      refine Run.region ?_
      refine Run.op rfl rfl rfl (y_move rfl) ?_
      refine Run.op rfl rfl rfl (y_move rfl) ?_
      refine Run.op rfl rfl rfl (y_lss rfl rfl) ?_
      refine Run.op rfl rfl rfl (y_move rfl) ?_
      refine Run.opC rfl rfl rfl rfl rfl (fun hg => Yields.incl (Incl.same (t := 2) rfl Incl.nil) (y_move rfl)) ?_
      refine Run.op rfl rfl rfl (y_pickAnd rfl rfl) ?_
      refine Run.nil ?_
      refine Run.nT ?_
      refine Run.cond rfl (fun hb => ?_) (fun hb => ?_)
      · obtain ⟨hb1, hh⟩ : i < N ∧ honest = true := by rw [Bool.and_eq_true, decide_eq_true_eq] at hb; exact ⟨by omega, hb.2⟩
        have hiN := hb1
        have hmod2 : i * i % N < N := Nat.mod_lt _ (by omega)
        refine Run.own (t := 815) (e' := Ent.rows Ku vn 33 1 (rng N (cnt14 N ((cols14 N l honest).t) ((cols14 N l honest).e) i))) rfl (by rw [nS_t hh]) ?_
        refine Run.skip ?_
        refine Run.nT ?_
        refine Run.seq ?_
        refine Run.block ?_
        refine Run.seq ?_
        refine Run.region ?_
        refine Run.op rfl rfl rfl (y_assign rfl) ?_
        refine Run.nil ?_
        refine Run.nT ?_
        refine Run.seq ?_
        refine Run.block ?_
        refine Run.loopK (ι := Nat) (fun k => k ≤ i * i % N ∧ ∀ q, q < k → (cols14 N l honest).t q ≠ (cols14 N l honest).e i) (fun k => N - k) (fun k => []) [11, 0, 2, 6, 8] (fun k => [(12, i64 k)]) 0 ⟨by omega, fun q h => by omega⟩ rfl (Incl.same (t := 12) rfl (Incl.pick [11, 0, 2, 6, 8])) ?_
        rintro k ⟨hkq, hI⟩
        show Run _ _ [(816, _), (815, _), (814, _), (813, _), (812, _), (811, _), (810, _), (8, _), (6, _)] [(12, _), (11, _), (0, _), (2, _), (6, _), (8, _)] _
        have hkN : k < N := by omega
        refine Run.seq ?_
        refine Run.seq ?_
        refine Run.weaken (Incl.same (t := 12) rfl (Incl.same (t := 11) rfl (Incl.same (t := 0) rfl (Incl.same (t := 2) rfl (Incl.same (t := 6) rfl (Incl.same (t := 8) rfl Incl.nil)))))) ?_
        refine q_draw ?_ rfl
        refine Draw.step rfl rfl rfl (StepOk.op rfl rfl rfl (y_fieldP rfl Tryd.underlying31 rfl ti29.siz)) rfl ?_
        refine Draw.step rfl rfl rfl (StepOk.op rfl rfl rfl (y_loadP 8 rfl rfl (rfl) Tryd.underlying29 rfl)) rfl ?_
        refine Draw.step rfl rfl rfl (StepOk.op rfl rfl rfl (y_move rfl)) rfl ?_
        refine Draw.step rfl rfl rfl (StepOk.op rfl rfl rfl (y_indexR 816 (k) rfl rfl rfl Tryd.underlying29 ti33.siz (rfl) (by rw [rng_len]; omega))) rfl ?_
        refine Draw.step rfl rfl rfl (StepOk.op rfl rfl rfl (y_loadR 816 rfl rfl (row_is (x := (cols14 N l honest).t k) (rng_get hkN)) Tryd.underlying33 rfl)) rfl ?_
        refine Draw.step rfl rfl rfl (StepOk.op rfl rfl rfl (y_fieldP rfl Tryd.underlying31 rfl ti29.siz)) rfl ?_
        refine Draw.step rfl rfl rfl (StepOk.op rfl rfl rfl (y_loadP 8 rfl rfl (rfl) Tryd.underlying29 rfl)) rfl ?_
        refine Draw.step rfl rfl rfl (StepOk.op rfl rfl rfl (y_move rfl)) rfl ?_
        refine Draw.step rfl rfl rfl (StepOk.op rfl rfl rfl (y_indexR 814 (i) rfl rfl rfl Tryd.underlying29 ti33.siz (rfl) (by rw [rng_len]; omega))) rfl ?_
        refine Draw.step rfl rfl rfl (StepOk.op rfl rfl rfl (y_loadR 814 rfl rfl (row_is (x := (cols14 N l honest).e i) (rng_get hiN)) Tryd.underlying33 rfl)) rfl ?_
        refine Draw.step rfl rfl rfl (StepOk.op rfl rfl rfl (y_neq rfl rfl)) rfl ?_
        refine Draw.tail (m := 11) rfl rfl rfl ?_
        refine Run.nil ?_
        refine Run.nT ?_
        refine Run.cond rfl (fun hb => ?_) (fun hb => ?_)
        · have hne : (cols14 N l honest).t k ≠ (cols14 N l honest).e i := by simpa using hb
          refine Run.skip ?_
          refine Run.nT ?_
          refine Run.block ?_
          refine Run.region ?_
          refine Run.op rfl rfl rfl (y_move rfl) ?_
          refine Run.op rfl rfl rfl (y_add rfl rfl (by first | exact wI_in (by omega) | rfl)) ?_
          refine Run.op rfl rfl rfl (y_assign rfl) ?_
          refine Run.nil ?_
          refine Run.nB ?_
          refine Run.nT ?_
          refine Run.round (k + 1) ?_ ?_ ?_ ?_
          · refine ⟨?_, fun q hq => ?_⟩
            · rcases Nat.lt_or_ge k (i * i % N) with h | h; exact h; exact (hne (by rw [show k = i * i % N by omega, e_at hh])).elim
            · by_cases e : q = k
              · subst e; exact hne
              · exact hI q (by omega)
          · show N - (k + 1) < N - k; omega
          · rfl
          · exact (Incl.int (t := 12) rfl (by omega) (Incl.same (t := 11) rfl (Incl.same (t := 0) rfl (Incl.same (t := 2) rfl (Incl.same (t := 6) rfl (Incl.same (t := 8) rfl Incl.nil))))))
        · have heq : (cols14 N l honest).t k = (cols14 N l honest).e i := by simpa using hb
          have hkf := kf_is (N := N) hkN heq hI
          have hcb := cnt_bnd14 N ((cols14 N l honest).t) ((cols14 N l honest).e) k i
          refine Run.exit ?_
          refine Run.eT ?_
          refine Run.eT ?_
          refine Run.eB ?_
          refine Run.nT ?_
          refine Run.region ?_
          refine Run.op rfl rfl rfl (y_fieldP rfl Tryd.underlying31 rfl ti29.siz) ?_
          refine Run.op rfl rfl rfl (y_loadP 8 rfl rfl (rfl) Tryd.underlying29 rfl) ?_
          refine Run.op rfl rfl rfl (y_move rfl) ?_
          refine Run.op rfl rfl rfl (y_indexR 815 (k) rfl rfl rfl Tryd.underlying29 ti33.siz (rfl) (by rw [rng_len]; omega)) ?_
          refine Run.op rfl rfl rfl (y_loadR 815 rfl rfl (row_is (x := cnt14 N ((cols14 N l honest).t) ((cols14 N l honest).e) i k) (rng_get hkN)) Tryd.underlying33 rfl) ?_
          refine Run.op rfl rfl rfl (y_add rfl rfl (by first | exact wU_in (by omega) | rfl)) ?_
          refine Run.op rfl rfl rfl (y_indexR 815 (k) rfl rfl rfl Tryd.underlying29 ti33.siz (rfl) (by rw [rng_len]; omega)) ?_
          refine q_storeR1 815 rfl rfl rfl ti33 (by rw [flatKu]; simp; omega) ?_
          refine Run.own (t := 815) rfl (row_put' (j := k) (by rw [rng_len]; omega) (cnt_put2 hkf hkN rfl) (by simp)) ?_
          refine Run.own (t := 815) (e' := Ent.rows Ku vn 33 1 (rng N (nS N l honest (i + 1)))) rfl (by rw [nS_t hh]) ?_
          refine Run.nil ?_
          refine Run.nB ?_
          refine Run.nT ?_
          refine Run.region ?_
          refine Run.op rfl rfl rfl (y_move rfl) ?_
          refine Run.op rfl rfl rfl (y_add rfl rfl (by first | exact wI_in (by omega) | rfl)) ?_
          refine Run.op rfl rfl rfl (y_assign rfl) ?_
          refine Run.nil ?_
          refine Run.nT ?_
          refine Run.round (i + 1) ?_ ?_ ?_ ?_
          · exact ⟨by omega, fun h => (by rw [hh] at h; cases h)⟩
          · show N - (i + 1) < N - i; omega
          · rfl
          · exact (Incl.int (t := 11) rfl (by omega) (Incl.same (t := 0) rfl (Incl.same (t := 2) rfl (Incl.same (t := 6) rfl (Incl.same (t := 8) rfl Incl.nil)))))
      · have hex : honest = true → i = N := fun h => by rw [h, Bool.and_true, decide_eq_false_iff_not] at hb; omega
        refine Run.own (t := 815) (e' := Ent.rows Ku vn 33 1 (rng N ((cols14 N l honest).n))) rfl (by rw [nS_end hex]) ?_
        refine Run.freezeInB (K := Ku) (l := rng N ((cols14 N l honest).a)) (f0 := 0) 810 8 rfl rfl rfl ?_
        refine Run.freezeInB (K := Ku) (l := rng N ((cols14 N l honest).b)) (f0 := 1) 811 8 rfl rfl rfl ?_
        refine Run.freezeInB (K := Ku) (l := rng N ((cols14 N l honest).l)) (f0 := 2) 812 8 rfl rfl rfl ?_
        refine Run.freezeInB (K := Ku) (l := rng N ((cols14 N l honest).r)) (f0 := 3) 813 8 rfl rfl rfl ?_
        refine Run.freezeInB (K := Ku) (l := rng N ((cols14 N l honest).e)) (f0 := 4) 814 8 rfl rfl rfl ?_
        refine Run.freezeInB (K := Ku) (l := rng N ((cols14 N l honest).n)) (f0 := 5) 815 8 rfl rfl rfl ?_
        refine Run.freezeInB (K := Ku) (l := rng N ((cols14 N l honest).t)) (f0 := 6) 816 8 rfl rfl rfl ?_
        refine Run.exit ?_
        refine Run.eT ?_
        refine Run.eT ?_
        refine Run.eB ?_
        refine Run.nT ?_
        refine Run.seq ?_
        refine Run.region ?_
        refine Run.op rfl rfl rfl (y_loadPW 8 rfl rfl Tryd.underlying31 rfl ti31.siz) ?_
        refine Run.storeW 6 rfl rfl rfl ti31.siz rfl ?_
        refine Run.nil ?_
        refine Run.nT ?_
        refine Run.ret ?_
        exact Run.fin1 rfl rfl rfl (.agg 6 rfl rfl Tryd.underlying31 rfl ti31.siz) (fun _ _ h => h)

end Go.Vx
