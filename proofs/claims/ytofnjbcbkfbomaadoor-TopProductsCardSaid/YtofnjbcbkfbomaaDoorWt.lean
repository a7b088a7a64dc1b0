/- Walks: the statement: columns of challenges. Conditions: as each says. Printed by a program of our own (wip/tools/gen2.py). -/
import Derived.Test.YtofnjbcbkfbomaaDoorWs
namespace Go.Vx
open Go Go.RowKit Go.Proofs
set_option maxRecDepth 100000
variable (s : Seat)

def okT (x : T7) : Prop := ∀ q, (0 ≤ x.a q ∧ x.a q < 97) ∧ (0 ≤ x.b q ∧ x.b q < 97) ∧ (0 ≤ x.l q ∧ x.l q < 97) ∧ (0 ≤ x.r q ∧ x.r q < 97) ∧ (0 ≤ x.e q ∧ x.e q < 97) ∧ (0 ≤ x.n q ∧ x.n q < 97) ∧ (0 ≤ x.t q ∧ x.t q < 97)
theorem ok_rng {N : Nat} {g : Nat → Int} (h : ∀ q, 0 ≤ g q ∧ g q < 97) : in97 (rng N g) := in97_rng fun i _ => h i
theorem ok_csx {N : Nat} {x : T7} (hx : okT x) : ∀ c ∈ csx N x, c.length = N ∧ in97 c := by
  intro c hc
  simp only [csx, List.mem_cons, List.not_mem_nil, or_false] at hc
  rcases hc with rfl | rfl | rfl | rfl | rfl | rfl <;> refine ⟨rng_len _ _, ok_rng fun q => ?_⟩
  · exact (hx q).1
  · exact (hx q).2.1
  · exact (hx q).2.2.1
  · exact (hx q).2.2.2.1
  · exact (hx q).2.2.2.2.1
  · exact (hx q).2.2.2.2.2.1
/-- A row of the main columns. -/
abbrev mrow (N : Nat) (x : T7) (i : Nat) (n : Nat) : List Int := rng n (fun q => ((csx N x).getD q []).getD i 0)
theorem mrow_snoc (N : Nat) (x : T7) (i j : Nat) : mrow N x i j ++ [((csx N x).getD j []).getD i 0] = mrow N x i (j + 1) := rng_snoc j _
theorem mrow_in {N : Nat} {x : T7} (hx : okT x) {i : Nat} (hi : i < N) : in97 (mrow N x i 6) := by
  have := rowM_main (cs := csx N x) (t := ttx N x) hi (ok_csx hx)
  exact this
theorem mrow_is (N : Nat) (x : T7) (i : Nat) : (rowM (csx N x) (ttx N x) i).1 = mrow N x i 6 := rfl
theorem vals_is {N : Nat} {x : T7} {i : Nat} (hi : i < N) (z y z2 y2 c d : Int) : vals4 (mrow N x i 6) (x.t i) z y z2 y2 c d =
    [(z2 * w14 (x.l i) (x.r i) c d % 97 - z * w14 (x.a i) (x.b i) c d % 97) % 97, (z - 1) % 97,
     (((y2 - y) % 97 * (w14 (x.e i) 0 c d * w14 (x.t i) 0 c d % 97) % 97 + x.n i * w14 (x.e i) 0 c d % 97) % 97 - w14 (x.t i) 0 c d) % 97, (y - 0) % 97] := by
  have ht : ([x.t i] : List Int) = (rowM (csx N x) (ttx N x) i).2 := by
    show [x.t i] = [(rng N x.t).getD i 0]
    rw [rng_getD hi]
  have e1 : rprod (fP 0) (mrow N x i 6, [x.t i]) c d perm14.2 = w14 (x.l i) (x.r i) c d := by rw [ht]; exact RW_eq hi
  have e2 : rprod (fP 0) (mrow N x i 6, [x.t i]) c d perm14.1 = w14 (x.a i) (x.b i) c d := by rw [ht]; exact LW_eq hi
  have e3 : rwt (fP 0) (mrow N x i 6, [x.t i]) c d look14.1 = w14 (x.e i) 0 c d := by rw [ht]; exact UW_eq hi
  have e4 : rwt (fP 0) (mrow N x i 6, [x.t i]) c d look14.2.1 = w14 (x.t i) 0 c d := by rw [ht]; exact TW_eq hi
  have e5 : (mrow N x i 6).getD 5 0 = x.n i := by
    show (rng N x.n).getD i 0 = x.n i
    exact rng_getD hi
  unfold vals4
  rw [e1, e2, e3, e4, e5]
  rfl
section
variable [hF : HasF s]
theorem columns_b_fn (k : Nat) (hk : 1 ≤ k ∧ k ≤ 3) (x : T7) (hx : okT x) (c d : Int) (hc : 0 ≤ c ∧ c < 97) (hd : 0 ≤ d ∧ d < 97) (b : Bool) (hb : nacc (2 ^ k) x c d (2 ^ k) = b) : Fn s.env 79 [sagg (Ksys k (ttx (2 ^ k) x)), sagg (Ktr (csx (2 ^ k) x)), u64 c, u64 d] (stup [slc Kc (colsB (2 ^ k) x c d b), i64 (errB b)]) := by
  have h := columns14_fn s k hk (ttx (2 ^ k) x) (rng_len _ _) (ok_rng fun q => (hx q).2.2.2.2.2.2) (csx (2 ^ k) x) rfl (ok_csx hx) c d hc hd
  rwa [(cols_b' hb).1, (cols_b' hb).2] at h
theorem avals_fn (k : Nat) (hk : 1 ≤ k ∧ k ≤ 3) (x : T7) (hx : okT x) (c d : Int) (hc : 0 ≤ c ∧ c < 97) (hd : 0 ≤ d ∧ d < 97) (i : Nat) (hi : i < (2 ^ k)) (nx : List Int) (z y z2 y2 : Int) (hz : 0 ≤ z ∧ z < 97) (hy : 0 ≤ y ∧ y < 97) (hz2 : 0 ≤ z2 ∧ z2 < 97) (hy2 : 0 ≤ y2 ∧ y2 < 97) : Fn s.env 80 [sagg (Ksys k (ttx (2 ^ k) x)), sagg (Kenv (mrow (2 ^ k) x i 6) nx [x.t i] [z, y] [z2, y2] [c, d])]
    (stup [slc Ku [(z2 * w14 (x.l i) (x.r i) c d % 97 - z * w14 (x.a i) (x.b i) c d % 97) % 97, (z - 1) % 97,
     (((y2 - y) % 97 * (w14 (x.e i) 0 c d * w14 (x.t i) 0 c d % 97) % 97 + x.n i * w14 (x.e i) 0 c d % 97) % 97 - w14 (x.t i) 0 c d) % 97, (y - 0) % 97], i64 0]) := by
  have h := avalues_fn s k hk (ttx (2 ^ k) x) (rng_len _ _) (ok_rng fun q => (hx q).2.2.2.2.2.2) c d hc hd (mrow (2 ^ k) x i 6) nx (x.t i) z y z2 y2 rfl (mrow_in hx hi) (hx i).2.2.2.2.2.2 hz hy hz2 hy2
  rwa [vals_is hi] at h
end
theorem w14_fn (a b c d : Int) (ha : 0 ≤ a ∧ a < 97) (hb : 0 ≤ b ∧ b < 97) (hc : 0 ≤ c ∧ c < 97) (hd : 0 ≤ d ∧ d < 97) : Fn s.env 32 [u64 a, u64 b, u64 c, u64 d] (u64 (w14 a b c d)) := weight14_fn s a b c d ha hb hc hd

section
variable [hF : HasF s]

set_option maxHeartbeats 4000000 in
theorem challenged14_fn (k : Nat) (hk : 1 ≤ k ∧ k ≤ 3) (x : T7) (hx : okT x) (c d : Int) (hc : 0 ≤ c ∧ c < 97) (hd : 0 ≤ d ∧ d < 97) : Fn s.env 29 [sagg (Ksys k (ttx (2 ^ k) x)), sagg (Ktr (csx (2 ^ k) x)), sagg (Ktb (2 ^ k) x), u64 c, u64 d] (stup [sbool true, sbool (nacc (2 ^ k) x c d (2 ^ k) || decide (Zc (2 ^ k) x c d (2 ^ k) = 1)), sbool (nacc (2 ^ k) x c d (2 ^ k) || decide (Yc (2 ^ k) x c d (2 ^ k) = 0))]) := by
  have hp8 := pow2_le (k := k) (m := 3) (by omega)
  have hp8 : 2 ^ k ≤ 8 := hp8
  have hp2 : 2 ≤ (2 ^ k) := pow2_le (k := 1) (m := k) (by omega)
  have hzl := Zc_lt (2 ^ k) x c d
  have hyl := Yc_lt (2 ^ k) x c d
  refine Fn.of Tryd.func29 rfl Tryd.ntmps29 rfl ?_
  intro w0 F0
  refine Run.seq ?_
  refine Run.region ?_
  refine Run.boxA rfl rfl ?_
  intro b5
  refine Run.freezeB 5 5 rfl rfl ?_
  refine Run.boxA rfl rfl ?_
  intro b6
  refine Run.freezeB 6 6 rfl rfl ?_
  refine Run.boxA rfl rfl ?_
  intro b7
  refine Run.freezeB 7 7 rfl rfl ?_
  refine Run.op rfl rfl rfl (y_assign rfl) ?_
  refine Run.op rfl rfl rfl (y_assign rfl) ?_
  refine Run.op rfl rfl rfl (y_assign rfl) ?_
  refine Run.nil ?_
  refine Run.nT ?_
  refine Run.seq ?_
  refine Run.region ?_
  refine Run.op rfl rfl rfl (y_field rfl Tryd.underlying31 rfl ti29.siz rfl) ?_
  refine Run.op rfl rfl rfl (y_load rfl Tryd.underlying29 rfl) ?_
  refine Run.op rfl rfl rfl (Yields.int (y_lenS rfl Tryd.underlying29) (show ((rng (2 ^ k) x.a).length : Int) = (((2 ^ k) : Nat) : Int) by simp)) ?_
  refine Run.op rfl rfl rfl (y_assign rfl) ?_
  refine Run.nil ?_
  refine Run.nT ?_
  refine Run.seq ?_
  refine Run.region ?_
  refine q_buildR (K := Ku) ([1]) Tryd.underlying29 ti33 rfl rfl rfl rfl (.cons rfl (Part.one' rfl) rfl .nil) (fun _ => rfl) rfl rfl ?_
  intro v32
  refine Run.own (t := 32) (e' := Ent.rows Ku v32 33 1 (rng (0 + 1) (Zc (2 ^ k) x c d))) rfl rfl ?_
  refine q_buildR (K := Ku) ([0]) Tryd.underlying29 ti33 rfl rfl rfl rfl (.cons rfl (Part.one' rfl) rfl .nil) (fun _ => rfl) rfl rfl ?_
  intro v33
  refine Run.own (t := 33) (e' := Ent.rows Ku v33 33 1 (rng (0 + 1) (Yc (2 ^ k) x c d))) rfl rfl ?_
  refine Run.op rfl rfl rfl (y_assign rfl) ?_
  refine Run.op rfl rfl rfl (y_assign rfl) ?_
  refine Run.nil ?_
  refine Run.nT ?_
  refine Run.seq ?_
  refine Run.region ?_
  refine Run.op rfl rfl rfl (y_assign rfl) ?_
  refine Run.nil ?_
  refine Run.nT ?_
  refine Run.seq ?_
  refine Run.seq ?_
  refine Run.region ?_
  refine Run.op rfl rfl rfl (y_assign rfl) ?_
  refine Run.nil ?_
  refine Run.nT ?_
  refine Run.block ?_
  refine Run.loopK (ι := Nat × Value × Value) (fun ⟨i, vz, vy⟩ => i ≤ (2 ^ k)) (fun ⟨i, vz, vy⟩ => (2 ^ k) - i) (fun ⟨i, vz, vy⟩ => [(32, .rows Ku vz 33 1 (rng (i + 1) (Zc (2 ^ k) x c d))), (33, .rows Ku vy 33 1 (rng (i + 1) (Yc (2 ^ k) x c d)))]) [3, 4, 5, 6, 7, 10, 11, 12, 13] (fun ⟨i, vz, vy⟩ => [(17, i64 i), (14, sval vz), (15, sval vy), (16, sbool (nacc (2 ^ k) x c d i))]) (0, v32, v33) (by show 0 ≤ _; omega) rfl (Incl.same (t := 17) rfl (Incl.same (t := 14) rfl (Incl.same (t := 15) rfl (Incl.same (t := 16) rfl (Incl.pick [3, 4, 5, 6, 7, 10, 11, 12, 13]))))) ?_
  rintro ⟨i, vz, vy⟩ hi
  show Run _ _ [(33, _), (32, _)] [(17, _), (14, _), (15, _), (16, _), (3, _), (4, _), (5, _), (6, _), (7, _), (10, _), (11, _), (12, _), (13, _)] _
  have hi : i ≤ (2 ^ k) := hi
  refine Run.seq ?_
  refine Run.seq ?_
  refine Run.region ?_
  refine Run.op rfl rfl rfl (y_move rfl) ?_
  refine Run.op rfl rfl rfl (y_move rfl) ?_
  refine Run.op rfl rfl rfl (y_lss rfl rfl) ?_
  refine Run.nil ?_
  refine Run.nT ?_
  refine Run.cond rfl (fun hb => ?_) (fun hb => ?_)
  · have hiN : i < (2 ^ k) := by have := of_decide_eq_true hb; omega
    have hwU := w14_lt (x.e i) 0 c d
    have hwT := w14_lt (x.t i) 0 c d
    have hwR := w14_lt (x.l i) (x.r i) c d
    have hwA := w14_lt (x.a i) (x.b i) c d
    have hzi := hzl i
    have hyi := hyl i
    have hni := (hx i).2.2.2.2.2.1
    have hfu := finv_lt (p := 97) (by decide) (w14 (x.e i) 0 c d)
    have hft := finv_lt (p := 97) (by decide) (w14 (x.t i) 0 c d)
    have hfr := finv_lt (p := 97) (by decide) (w14 (x.l i) (x.r i) c d)
    have hm1 := mul_lt (p := 97) (by omega) hzi hwA
    have hm2 := mul_lt (p := 97) (by omega) (em_lt (p := 97) (by omega) (Zc (2 ^ k) x c d i * w14 (x.a i) (x.b i) c d)) hfr
    have hm3 : 0 ≤ (97 - x.n i) * finv 97 (w14 (x.t i) 0 c d) ∧ (97 - x.n i) * finv 97 (w14 (x.t i) 0 c d) ≤ 97 * 96 := ⟨Int.mul_nonneg (by omega) hft.1, Int.mul_le_mul (by omega) (by omega) hft.1 (by omega)⟩
    refine Run.skip ?_
    refine Run.nT ?_
    refine Run.seq ?_
    refine Run.block ?_
    refine Run.seq ?_
    refine Run.weaken (Incl.same (t := 17) rfl (Incl.same (t := 14) rfl (Incl.same (t := 15) rfl (Incl.same (t := 16) rfl (Incl.same (t := 3) rfl (Incl.same (t := 4) rfl (Incl.same (t := 5) rfl (Incl.same (t := 6) rfl (Incl.same (t := 7) rfl (Incl.same (t := 10) rfl (Incl.same (t := 11) rfl (Incl.same (t := 12) rfl (Incl.same (t := 13) rfl Incl.nil))))))))))))) ?_
    refine q_draw ?_ rfl
    refine Draw.step rfl rfl rfl (StepOk.op rfl rfl rfl (y_field rfl Tryd.underlying31 rfl ti29.siz rfl)) rfl ?_
    refine Draw.step rfl rfl rfl (StepOk.op rfl rfl rfl (y_load rfl Tryd.underlying29 rfl)) rfl ?_
    refine Draw.step rfl rfl rfl (StepOk.op rfl rfl rfl (y_move rfl)) rfl ?_
    refine Draw.step rfl rfl rfl (StepOk.op rfl rfl rfl (q_index (i) (_) rfl rfl Tryd.underlying29 ti33 (fun _ => rfl) (rfl) (rng_get hiN))) rfl ?_
    refine Draw.step rfl rfl rfl (StepOk.op rfl rfl rfl (y_load rfl Tryd.underlying33 rfl)) rfl ?_
    refine Draw.step rfl rfl rfl (StepOk.op rfl rfl rfl (y_move rfl)) rfl ?_
    refine Draw.step rfl rfl rfl (StepOk.op rfl rfl rfl (y_move rfl)) rfl ?_
    refine Draw.step rfl rfl rfl (StepOk.op rfl rfl rfl (q_call en32 rfl (w14_fn s (x.e i) 0 c d (hx i).2.2.2.2.1 (by omega) hc hd))) rfl ?_
    refine Draw.step rfl rfl rfl (StepOk.op rfl rfl rfl (y_field rfl Tryd.underlying31 rfl ti29.siz rfl)) rfl ?_
    refine Draw.step rfl rfl rfl (StepOk.op rfl rfl rfl (y_load rfl Tryd.underlying29 rfl)) rfl ?_
    refine Draw.step rfl rfl rfl (StepOk.op rfl rfl rfl (y_move rfl)) rfl ?_
    refine Draw.step rfl rfl rfl (StepOk.op rfl rfl rfl (q_index (i) (_) rfl rfl Tryd.underlying29 ti33 (fun _ => rfl) (rfl) (rng_get hiN))) rfl ?_
    refine Draw.step rfl rfl rfl (StepOk.op rfl rfl rfl (y_load rfl Tryd.underlying33 rfl)) rfl ?_
    refine Draw.step rfl rfl rfl (StepOk.op rfl rfl rfl (y_move rfl)) rfl ?_
    refine Draw.step rfl rfl rfl (StepOk.op rfl rfl rfl (y_move rfl)) rfl ?_
    refine Draw.step rfl rfl rfl (StepOk.op rfl rfl rfl (q_call en32 rfl (w14_fn s (x.t i) 0 c d (hx i).2.2.2.2.2.2 (by omega) hc hd))) rfl ?_
    refine Draw.step rfl rfl rfl (StepOk.op rfl rfl rfl (y_assign rfl)) rfl ?_
    refine Draw.step rfl rfl rfl (StepOk.op rfl rfl rfl (y_assign rfl)) rfl ?_
    refine Draw.tail (m := 18) rfl rfl rfl ?_
    refine Run.nil ?_
    refine Run.nT ?_
    refine Run.seq ?_
    refine Run.weaken (Incl.same (t := 17) rfl (Incl.same (t := 14) rfl (Incl.same (t := 15) rfl (Incl.same (t := 16) rfl (Incl.same (t := 3) rfl (Incl.same (t := 4) rfl (Incl.same (t := 5) rfl (Incl.same (t := 6) rfl (Incl.same (t := 7) rfl (Incl.same (t := 10) rfl (Incl.same (t := 11) rfl (Incl.same (t := 12) rfl (Incl.same (t := 13) rfl (Incl.same (t := 18) rfl (Incl.same (t := 19) rfl Incl.nil))))))))))))))) ?_
    refine q_draw ?_ rfl
    refine Draw.step rfl rfl rfl (StepOk.op rfl rfl rfl (y_field rfl Tryd.underlying31 rfl ti29.siz rfl)) rfl ?_
    refine Draw.step rfl rfl rfl (StepOk.op rfl rfl rfl (y_load rfl Tryd.underlying29 rfl)) rfl ?_
    refine Draw.step rfl rfl rfl (StepOk.op rfl rfl rfl (y_move rfl)) rfl ?_
    refine Draw.step rfl rfl rfl (StepOk.op rfl rfl rfl (q_index (i) (_) rfl rfl Tryd.underlying29 ti33 (fun _ => rfl) (rfl) (rng_get hiN))) rfl ?_
    refine Draw.step rfl rfl rfl (StepOk.op rfl rfl rfl (y_load rfl Tryd.underlying33 rfl)) rfl ?_
    refine Draw.step rfl rfl rfl (StepOk.op rfl rfl rfl (y_field rfl Tryd.underlying31 rfl ti29.siz rfl)) rfl ?_
    refine Draw.step rfl rfl rfl (StepOk.op rfl rfl rfl (y_load rfl Tryd.underlying29 rfl)) rfl ?_
    refine Draw.step rfl rfl rfl (StepOk.op rfl rfl rfl (y_move rfl)) rfl ?_
    refine Draw.step rfl rfl rfl (StepOk.op rfl rfl rfl (q_index (i) (_) rfl rfl Tryd.underlying29 ti33 (fun _ => rfl) (rfl) (rng_get hiN))) rfl ?_
    refine Draw.step rfl rfl rfl (StepOk.op rfl rfl rfl (y_load rfl Tryd.underlying33 rfl)) rfl ?_
    refine Draw.step rfl rfl rfl (StepOk.op rfl rfl rfl (y_move rfl)) rfl ?_
    refine Draw.step rfl rfl rfl (StepOk.op rfl rfl rfl (y_move rfl)) rfl ?_
    refine Draw.step rfl rfl rfl (StepOk.op rfl rfl rfl (q_call en32 rfl (w14_fn s (x.l i) (x.r i) c d (hx i).2.2.1 (hx i).2.2.2.1 hc hd))) rfl ?_
    refine Draw.step rfl rfl rfl (StepOk.op rfl rfl rfl (y_assign rfl)) rfl ?_
    refine Draw.tail (m := 14) rfl rfl rfl ?_
    refine Run.nil ?_
    refine Run.nT ?_
    refine Run.seq ?_
    refine Run.region ?_
    refine Run.op rfl rfl rfl (y_move rfl) ?_
    refine Run.op rfl rfl rfl (y_move rfl) ?_
    refine Run.opC rfl rfl rfl rfl rfl (fun hg => Yields.incl (Incl.same (t := 18) rfl Incl.nil) (y_move rfl)) ?_
    refine Run.opC rfl rfl rfl rfl rfl (fun hg => Yields.incl (Incl.cond (t := 70) rfl hg Incl.nil) (y_eql rfl rfl)) ?_
    refine Run.op rfl rfl rfl (y_pickOr rfl rfl) ?_
    refine Run.op rfl rfl rfl (y_move rfl) ?_
    refine Run.opC rfl rfl rfl rfl rfl (fun hg => Yields.incl (Incl.same (t := 19) rfl Incl.nil) (y_move rfl)) ?_
    refine Run.opC rfl rfl rfl rfl rfl (fun hg => Yields.incl (Incl.cond (t := 74) rfl hg Incl.nil) (y_eql rfl rfl)) ?_
    refine Run.op rfl rfl rfl (y_pickOr rfl rfl) ?_
    refine Run.op rfl rfl rfl (y_move rfl) ?_
    refine Run.opC rfl rfl rfl rfl rfl (fun hg => Yields.incl (Incl.same (t := 20) rfl Incl.nil) (y_move rfl)) ?_
    refine Run.opC rfl rfl rfl rfl rfl (fun hg => Yields.incl (Incl.cond (t := 78) rfl hg Incl.nil) (y_eql rfl rfl)) ?_
    refine Run.op rfl rfl rfl (y_pickOr rfl rfl) ?_
    refine Run.op rfl rfl rfl (y_assign rfl) ?_
    refine Run.nil ?_
    refine Run.nT ?_
    refine Run.seq ?_
    refine Run.weaken (Incl.same (t := 17) rfl (Incl.same (t := 14) rfl (Incl.same (t := 15) rfl (Incl.same (t := 16) rfl (Incl.same (t := 3) rfl (Incl.same (t := 4) rfl (Incl.same (t := 5) rfl (Incl.same (t := 6) rfl (Incl.same (t := 7) rfl (Incl.same (t := 10) rfl (Incl.same (t := 11) rfl (Incl.same (t := 12) rfl (Incl.same (t := 13) rfl (Incl.same (t := 18) rfl (Incl.same (t := 19) rfl (Incl.same (t := 20) rfl Incl.nil)))))))))))))))) ?_
    refine q_draw ?_ rfl
    refine Draw.step rfl rfl rfl (StepOk.op rfl rfl rfl (y_move rfl)) rfl ?_
    refine Draw.step rfl rfl rfl (StepOk.op rfl rfl rfl (y_move rfl)) rfl ?_
    refine Draw.step rfl rfl rfl (StepOk.op rfl rfl rfl (y_move rfl)) rfl ?_
    refine Draw.step rfl rfl rfl (StepOk.op rfl rfl rfl (y_indexR 32 (i) rfl rfl rfl Tryd.underlying29 ti33.siz (rfl) (by rw [rng_len]; omega))) rfl ?_
    refine Draw.step rfl rfl rfl (StepOk.op rfl rfl rfl (y_loadR 32 rfl rfl (row_is (x := Zc (2 ^ k) x c d i) (rng_get (by omega))) Tryd.underlying33 rfl)) rfl ?_
    refine Draw.step rfl rfl rfl (StepOk.op rfl rfl rfl (y_field rfl Tryd.underlying31 rfl ti29.siz rfl)) rfl ?_
    refine Draw.step rfl rfl rfl (StepOk.op rfl rfl rfl (y_load rfl Tryd.underlying29 rfl)) rfl ?_
    refine Draw.step rfl rfl rfl (StepOk.op rfl rfl rfl (y_move rfl)) rfl ?_
    refine Draw.step rfl rfl rfl (StepOk.op rfl rfl rfl (q_index (i) (_) rfl rfl Tryd.underlying29 ti33 (fun _ => rfl) (rfl) (rng_get hiN))) rfl ?_
    refine Draw.step rfl rfl rfl (StepOk.op rfl rfl rfl (y_load rfl Tryd.underlying33 rfl)) rfl ?_
    refine Draw.step rfl rfl rfl (StepOk.op rfl rfl rfl (y_field rfl Tryd.underlying31 rfl ti29.siz rfl)) rfl ?_
    refine Draw.step rfl rfl rfl (StepOk.op rfl rfl rfl (y_load rfl Tryd.underlying29 rfl)) rfl ?_
    refine Draw.step rfl rfl rfl (StepOk.op rfl rfl rfl (y_move rfl)) rfl ?_
    refine Draw.step rfl rfl rfl (StepOk.op rfl rfl rfl (q_index (i) (_) rfl rfl Tryd.underlying29 ti33 (fun _ => rfl) (rfl) (rng_get hiN))) rfl ?_
    refine Draw.step rfl rfl rfl (StepOk.op rfl rfl rfl (y_load rfl Tryd.underlying33 rfl)) rfl ?_
    refine Draw.step rfl rfl rfl (StepOk.op rfl rfl rfl (y_move rfl)) rfl ?_
    refine Draw.step rfl rfl rfl (StepOk.op rfl rfl rfl (y_move rfl)) rfl ?_
    refine Draw.step rfl rfl rfl (StepOk.op rfl rfl rfl (q_call en32 rfl (w14_fn s (x.a i) (x.b i) c d (hx i).1 (hx i).2.1 hc hd))) rfl ?_
    refine Draw.step rfl rfl rfl (StepOk.op rfl rfl rfl (y_mul rfl rfl (by first | exact wU_in (by omega) | rfl))) rfl ?_
    refine Draw.step rfl rfl rfl (StepOk.op rfl rfl rfl (y_rem rfl rfl (by omega) (by first | exact tmod_of (by omega) | rfl))) rfl ?_
    refine Draw.step rfl rfl rfl (StepOk.op rfl rfl rfl (y_move rfl)) rfl ?_
    refine Draw.step rfl rfl rfl (StepOk.op rfl rfl rfl (q_call en78 rfl (inverse14_fn s (w14 (x.l i) (x.r i) c d) (w14_lt _ _ _ _)))) rfl ?_
    refine Draw.step rfl rfl rfl (StepOk.op rfl rfl rfl (y_mul rfl rfl (by first | exact wU_in (by omega) | rfl))) rfl ?_
    refine Draw.step rfl rfl rfl (StepOk.op rfl rfl rfl (y_rem rfl rfl (by omega) (by first | exact tmod_of (by omega) | rfl))) rfl ?_
    refine Draw.step rfl rfl rfl (StepOk.op rfl rfl rfl (q_buildL (K := Ku) ([_]) Tryd.underlying29 ti33 rfl rfl rfl (.cons rfl (Part.one' rfl) rfl .nil) rfl)) rfl ?_
    refine Draw.tail (m := 25) rfl rfl rfl ?_
    refine q_append 32 rfl rfl rfl Tryd.underlying29 ti33 rfl rfl (fun _ => rfl) (by simp; omega) rfl ?_
    intro v106
    refine Run.own (t := 32) (e' := Ent.rows Ku v106 33 1 (rng (i + 1 + 1) (Zc (2 ^ k) x c d))) rfl (by rw [← rng_snoc (i + 1), ← Zc_succ hiN]) ?_
    refine Run.op rfl rfl rfl (y_assign rfl) ?_
    refine Run.nil ?_
    refine Run.nT ?_
    refine Run.weaken (Incl.same (t := 17) rfl (Incl.same (t := 14) rfl (Incl.same (t := 15) rfl (Incl.same (t := 16) rfl (Incl.same (t := 3) rfl (Incl.same (t := 4) rfl (Incl.same (t := 5) rfl (Incl.same (t := 6) rfl (Incl.same (t := 7) rfl (Incl.same (t := 10) rfl (Incl.same (t := 11) rfl (Incl.same (t := 12) rfl (Incl.same (t := 13) rfl (Incl.same (t := 18) rfl (Incl.same (t := 19) rfl (Incl.same (t := 20) rfl Incl.nil)))))))))))))))) ?_
    refine q_draw ?_ rfl
    refine Draw.step rfl rfl rfl (StepOk.op rfl rfl rfl (y_move rfl)) rfl ?_
    refine Draw.step rfl rfl rfl (StepOk.op rfl rfl rfl (y_move rfl)) rfl ?_
    refine Draw.step rfl rfl rfl (StepOk.op rfl rfl rfl (y_move rfl)) rfl ?_
    refine Draw.step rfl rfl rfl (StepOk.op rfl rfl rfl (y_indexR 33 (i) rfl rfl rfl Tryd.underlying29 ti33.siz (rfl) (by rw [rng_len]; omega))) rfl ?_
    refine Draw.step rfl rfl rfl (StepOk.op rfl rfl rfl (y_loadR 33 rfl rfl (row_is (x := Yc (2 ^ k) x c d i) (rng_get (by omega))) Tryd.underlying33 rfl)) rfl ?_
    refine Draw.step rfl rfl rfl (StepOk.op rfl rfl rfl (y_move rfl)) rfl ?_
    refine Draw.step rfl rfl rfl (StepOk.op rfl rfl rfl (q_call en78 rfl (inverse14_fn s (w14 (x.e i) 0 c d) (w14_lt _ _ _ _)))) rfl ?_
    refine Draw.step rfl rfl rfl (StepOk.op rfl rfl rfl (y_add rfl rfl (by first | exact wU_in (by omega) | rfl))) rfl ?_
    refine Draw.step rfl rfl rfl (StepOk.op rfl rfl rfl (y_field rfl Tryd.underlying31 rfl ti29.siz rfl)) rfl ?_
    refine Draw.step rfl rfl rfl (StepOk.op rfl rfl rfl (y_load rfl Tryd.underlying29 rfl)) rfl ?_
    refine Draw.step rfl rfl rfl (StepOk.op rfl rfl rfl (y_move rfl)) rfl ?_
    refine Draw.step rfl rfl rfl (StepOk.op rfl rfl rfl (q_index (i) (_) rfl rfl Tryd.underlying29 ti33 (fun _ => rfl) (rfl) (rng_get hiN))) rfl ?_
    refine Draw.step rfl rfl rfl (StepOk.op rfl rfl rfl (y_load rfl Tryd.underlying33 rfl)) rfl ?_
    refine Draw.step rfl rfl rfl (StepOk.op rfl rfl rfl (y_sub (r := 97 - x.n i) rfl rfl (by rw [wU_in (by omega)]))) rfl ?_
    refine Draw.step rfl rfl rfl (StepOk.op rfl rfl rfl (y_move rfl)) rfl ?_
    refine Draw.step rfl rfl rfl (StepOk.op rfl rfl rfl (q_call en78 rfl (inverse14_fn s (w14 (x.t i) 0 c d) (w14_lt _ _ _ _)))) rfl ?_
    refine Draw.step rfl rfl rfl (StepOk.op rfl rfl rfl (y_mul rfl rfl (by first | exact wU_in (by omega) | rfl))) rfl ?_
    refine Draw.step rfl rfl rfl (StepOk.op rfl rfl rfl (y_add rfl rfl (by first | exact wU_in (by omega) | rfl))) rfl ?_
    refine Draw.step rfl rfl rfl (StepOk.op rfl rfl rfl (y_rem rfl rfl (by omega) (by first | exact tmod_of (by omega) | rfl))) rfl ?_
    refine Draw.step rfl rfl rfl (StepOk.op rfl rfl rfl (q_buildL (K := Ku) ([_]) Tryd.underlying29 ti33 rfl rfl rfl (.cons rfl (Part.one' rfl) rfl .nil) rfl)) rfl ?_
    refine Draw.tail (m := 20) rfl rfl rfl ?_
    refine q_append 33 rfl rfl rfl Tryd.underlying29 ti33 rfl rfl (fun _ => rfl) (by simp; omega) rfl ?_
    intro v127
    refine Run.own (t := 33) (e' := Ent.rows Ku v127 33 1 (rng (i + 1 + 1) (Yc (2 ^ k) x c d))) rfl (by rw [← rng_snoc (i + 1), ← Yc_succ hiN]) ?_
    refine Run.op rfl rfl rfl (y_assign rfl) ?_
    refine Run.nil ?_
    refine Run.nB ?_
    refine Run.nT ?_
    refine Run.region ?_
    refine Run.op rfl rfl rfl (y_move rfl) ?_
    refine Run.op rfl rfl rfl (y_add rfl rfl (by first | exact wI_in (by omega) | rfl)) ?_
    refine Run.op rfl rfl rfl (y_assign rfl) ?_
    refine Run.nil ?_
    refine Run.nT ?_
    refine Run.round (i + 1, v106, v127) ?_ ?_ ?_ ?_
    · show i + 1 ≤ (2 ^ k); omega
    · show (2 ^ k) - (i + 1) < (2 ^ k) - i; omega
    · rfl
    · exact (Incl.int (t := 17) rfl (by omega) (Incl.same (t := 14) rfl (Incl.same (t := 15) rfl (Incl.same (t := 16) rfl (Incl.same (t := 3) rfl (Incl.same (t := 4) rfl (Incl.same (t := 5) rfl (Incl.same (t := 6) rfl (Incl.same (t := 7) rfl (Incl.same (t := 10) rfl (Incl.same (t := 11) rfl (Incl.same (t := 12) rfl (Incl.same (t := 13) rfl Incl.nil)))))))))))))
  · obtain rfl : i = (2 ^ k) := by have := of_decide_eq_false hb; omega
    refine Run.freeze (K := Ku) (l := rng ((2 ^ k) + 1) (Zc (2 ^ k) x c d)) 32 14 rfl rfl ?_
    refine Run.freeze (K := Ku) (l := rng ((2 ^ k) + 1) (Yc (2 ^ k) x c d)) 33 15 rfl rfl ?_
    refine Run.exit ?_
    refine Run.eT ?_
    refine Run.eT ?_
    refine Run.eB ?_
    refine Run.nT ?_
    refine Run.seq ?_
    refine Run.cases 16 rfl (fun hb => ?_) (fun hb => ?_)
    · skip
      refine Run.region ?_
      refine Run.op rfl rfl rfl (y_loadW rfl Tryd.underlying66 rfl ti66.siz) ?_
      refine Run.op rfl rfl rfl (y_loadW rfl Tryd.underlying68 rfl ti68.siz) ?_
      refine Run.op rfl rfl rfl (y_move rfl) ?_
      refine Run.op rfl rfl rfl (y_move rfl) ?_
      refine Run.op rfl rfl rfl (q_call en79 rfl (columns_b_fn s k hk x hx c d hc hd _ hb)) ?_
      refine Run.op rfl rfl rfl (y_move rfl) ?_
      refine Run.op rfl rfl rfl (y_extract rfl rfl) ?_
      refine Run.op rfl rfl rfl (y_extract rfl rfl) ?_
      refine Run.op rfl rfl rfl (y_assign rfl) ?_
      refine Run.op rfl rfl rfl (y_assign rfl) ?_
      refine Run.nil ?_
      refine Run.nT ?_
      refine Run.seq ?_
      refine Run.seq ?_
      refine Run.region ?_
      refine Run.op rfl rfl rfl (y_move rfl) ?_
      refine Run.nil ?_
      refine Run.nT ?_
      refine Run.cond1 rfl ?_
      refine Run.seq ?_
      refine Run.region ?_
      refine Run.op rfl rfl rfl (y_move rfl) ?_
      refine Run.op rfl rfl rfl (y_eql rfl rfl) ?_
      refine Run.op rfl rfl rfl (y_assign rfl) ?_
      refine Run.op rfl rfl rfl (y_assign rfl) ?_
      refine Run.op rfl rfl rfl (y_assign rfl) ?_
      refine Run.nil ?_
      refine Run.nT ?_
      refine Run.ret ?_
      refine Run.rT ?_
      exact Run.fin3 rfl rfl rfl (.tmp rfl) (.tmp rfl) (.tmp rfl) (fun _ _ h => h) (fun _ _ h => by rw [hb]; exact h) (fun _ _ h => by rw [hb]; exact h)
    · skip
      have hb_ := hb
      refine Run.region ?_
      refine Run.op rfl rfl rfl (y_loadW rfl Tryd.underlying66 rfl ti66.siz) ?_
      refine Run.op rfl rfl rfl (y_loadW rfl Tryd.underlying68 rfl ti68.siz) ?_
      refine Run.op rfl rfl rfl (y_move rfl) ?_
      refine Run.op rfl rfl rfl (y_move rfl) ?_
      refine Run.op rfl rfl rfl (q_call en79 rfl (columns_b_fn s k hk x hx c d hc hd _ hb)) ?_
      refine Run.op rfl rfl rfl (y_move rfl) ?_
      refine Run.op rfl rfl rfl (y_extract rfl rfl) ?_
      refine Run.op rfl rfl rfl (y_extract rfl rfl) ?_
      refine Run.op rfl rfl rfl (y_assign rfl) ?_
      refine Run.op rfl rfl rfl (y_assign rfl) ?_
      refine Run.nil ?_
      refine Run.nT ?_
      refine Run.seq ?_
      refine Run.seq ?_
      refine Run.region ?_
      refine Run.op rfl rfl rfl (y_move rfl) ?_
      refine Run.nil ?_
      refine Run.nT ?_
      refine Run.cond0 rfl ?_
      refine Run.skip ?_
      refine Run.nT ?_
      refine Run.seq ?_
      refine Run.seq ?_
      refine Run.region ?_
      refine Run.op rfl rfl rfl (y_move rfl) ?_
      refine Run.op rfl rfl rfl (Yields.bool (c := false) (y_neq rfl rfl) (rfl)) ?_
      refine Run.op rfl rfl rfl (y_move rfl) ?_
      refine Run.opG rfl rfl rfl rfl rfl (y_move rfl) ?_
      refine Run.opG rfl rfl rfl rfl rfl (y_lenS rfl Tryd.underlying61) ?_
      refine Run.opG rfl rfl rfl rfl rfl (Yields.bool (c := false) (y_neq rfl rfl) (rfl)) ?_
      refine Run.op rfl rfl rfl (y_pickF rfl rfl) ?_
      refine Run.op rfl rfl rfl (y_move rfl) ?_
      refine Run.opG rfl rfl rfl rfl rfl (y_move rfl) ?_
      refine Run.opG rfl rfl rfl rfl rfl (q_index (0) (rng (2 ^ k) (Zc (2 ^ k) x c d)) rfl rfl Tryd.underlying61 ti29 (fun _ => rfl) (rfl) (rfl)) ?_
      refine Run.opG rfl rfl rfl rfl rfl (y_load rfl Tryd.underlying29 rfl) ?_
      refine Run.opG rfl rfl rfl rfl rfl (y_lenS rfl Tryd.underlying29) ?_
      refine Run.opG rfl rfl rfl rfl rfl (y_move rfl) ?_
      refine Run.opG rfl rfl rfl rfl rfl (Yields.bool (c := false) (y_neq rfl rfl) (by simp)) ?_
      refine Run.op rfl rfl rfl (y_pickF rfl rfl) ?_
      refine Run.op rfl rfl rfl (y_move rfl) ?_
      refine Run.opG rfl rfl rfl rfl rfl (y_move rfl) ?_
      refine Run.opG rfl rfl rfl rfl rfl (q_index (1) (rng (2 ^ k) (Yc (2 ^ k) x c d)) rfl rfl Tryd.underlying61 ti29 (fun _ => rfl) (rfl) (rfl)) ?_
      refine Run.opG rfl rfl rfl rfl rfl (y_load rfl Tryd.underlying29 rfl) ?_
      refine Run.opG rfl rfl rfl rfl rfl (y_lenS rfl Tryd.underlying29) ?_
      refine Run.opG rfl rfl rfl rfl rfl (y_move rfl) ?_
      refine Run.opG rfl rfl rfl rfl rfl (Yields.bool (c := false) (y_neq rfl rfl) (by simp)) ?_
      refine Run.op rfl rfl rfl (y_pickF rfl rfl) ?_
      refine Run.nil ?_
      refine Run.nT ?_
      refine Run.cond0 rfl ?_
      refine Run.skip ?_
      refine Run.nT ?_
      refine Run.seq ?_
      refine Run.seq ?_
      refine Run.region ?_
      refine Run.op rfl rfl rfl (y_assign rfl) ?_
      refine Run.nil ?_
      refine Run.nT ?_
      refine Run.block ?_
      refine Run.loopK (ι := Nat) (fun i => i ≤ (2 ^ k)) (fun i => (2 ^ k) - i) (fun i => []) [14, 15, 3, 4, 5, 6, 7, 13, 21] (fun i => [(23, i64 i)]) 0 (by omega) rfl (Incl.same (t := 23) rfl (Incl.pick [14, 15, 3, 4, 5, 6, 7, 13, 21])) ?_
      rintro i hi
      show Run _ _ [] [(23, _), (14, _), (15, _), (3, _), (4, _), (5, _), (6, _), (7, _), (13, _), (21, _)] _
      refine Run.seq ?_
      refine Run.seq ?_
      refine Run.region ?_
      refine Run.op rfl rfl rfl (y_move rfl) ?_
      refine Run.op rfl rfl rfl (y_move rfl) ?_
      refine Run.op rfl rfl rfl (y_lss rfl rfl) ?_
      refine Run.nil ?_
      refine Run.nT ?_
      refine Run.cond rfl (fun hb => ?_) (fun hb => ?_)
      · have hiN : i < (2 ^ k) := by have := of_decide_eq_true hb; omega
        have hkN : (i + 1) % (2 ^ k) < (2 ^ k) := Nat.mod_lt _ (by omega)
        have hc6 := ok_csx (N := (2 ^ k)) hx
        have hlt : decide (((i + 1 : Nat) : Int) < (((2 ^ k) : Nat) : Int)) = decide (i + 1 < (2 ^ k)) := by rw [decide_eq_decide]; exact Int.ofNat_lt
        have hV0 := v0_law hb_ hiN
        have hV1 := v1_law (hzl i)
        have hV2 := v2_law hb_ hiN
        have hV3 := v3_law (hyl i)
        refine Run.skip ?_
        refine Run.nT ?_
        refine Run.seq ?_
        refine Run.block ?_
        refine Run.seq ?_
        refine Run.region ?_
        refine Run.op rfl rfl rfl (y_move rfl) ?_
        refine Run.op rfl rfl rfl (y_add (r := ((i + 1 : Nat) : Int)) rfl rfl (by rw [wI_in (by omega)]; omega)) ?_
        refine Run.op rfl rfl rfl (y_move rfl) ?_
        refine Run.op rfl rfl rfl (y_rem (r := (((i + 1) % (2 ^ k) : Nat) : Int)) rfl rfl (by omega) (by rw [tmod_of (by omega)]; rfl)) ?_
        refine Run.op rfl rfl rfl (y_assign rfl) ?_
        refine Run.nil ?_
        refine Run.nT ?_
        refine Run.seq ?_
        refine Run.weaken (Incl.same (t := 23) rfl (Incl.same (t := 14) rfl (Incl.same (t := 15) rfl (Incl.same (t := 3) rfl (Incl.same (t := 4) rfl (Incl.same (t := 5) rfl (Incl.same (t := 6) rfl (Incl.same (t := 7) rfl (Incl.same (t := 13) rfl (Incl.same (t := 21) rfl (Incl.same (t := 24) rfl Incl.nil))))))))))) ?_
        refine q_draw2 ⟨28, 25, 152, zeros (.agg #[.slice none 0 0, .slice none 0 0, .slice none 0 0, .slice none 0 0, .slice none 0 0, .slice none 0 0, .slice none 0 0])⟩ ?_ rfl
        refine Draw2.step rfl rfl rfl ⟨StepOk.op rfl rfl rfl (y_field rfl Tryd.underlying31 rfl ti29.siz rfl), fun _ => StepOk.op rfl rfl rfl (y_field rfl Tryd.underlying31 rfl ti29.siz rfl)⟩ rfl rfl ?_
        refine Draw2.step rfl rfl rfl ⟨StepOk.op rfl rfl rfl (y_load rfl Tryd.underlying29 rfl), fun _ => StepOk.op rfl rfl rfl (y_load rfl Tryd.underlying29 rfl)⟩ rfl rfl ?_
        refine Draw2.step rfl rfl rfl ⟨StepOk.op rfl rfl rfl (y_move rfl), fun _ => StepOk.op rfl rfl rfl (y_move rfl)⟩ rfl rfl ?_
        refine Draw2.step rfl rfl rfl ⟨StepOk.op rfl rfl rfl (q_index (i) (_) rfl rfl Tryd.underlying29 ti33 (fun _ => rfl) (rfl) (rng_get hiN)), fun _ => StepOk.op rfl rfl rfl (q_index (i) (_) rfl rfl Tryd.underlying29 ti33 (fun _ => rfl) (rfl) (rng_get hiN))⟩ rfl rfl ?_
        refine Draw2.step rfl rfl rfl ⟨StepOk.op rfl rfl rfl (y_load rfl Tryd.underlying33 rfl), fun _ => StepOk.op rfl rfl rfl (y_load rfl Tryd.underlying33 rfl)⟩ rfl rfl ?_
        refine Draw2.step rfl rfl rfl ⟨StepOk.op rfl rfl rfl (q_buildL (K := Ku) ([x.t i]) Tryd.underlying29 ti33 rfl rfl rfl (.cons rfl (Part.one' rfl) rfl .nil) rfl), fun _ => StepOk.op rfl rfl rfl (q_buildL (K := Ku) ([x.t i]) Tryd.underlying29 ti33 rfl rfl rfl (.cons rfl (Part.one' rfl) rfl .nil) rfl)⟩ rfl rfl ?_
        refine Draw2.step rfl rfl rfl ⟨StepOk.op rfl rfl rfl (y_move rfl), fun _ => StepOk.op rfl rfl rfl (y_move rfl)⟩ rfl rfl ?_
        refine Draw2.step rfl rfl rfl ⟨StepOk.op rfl rfl rfl (y_move rfl), fun _ => StepOk.op rfl rfl rfl (y_move rfl)⟩ rfl rfl ?_
        refine Draw2.step rfl rfl rfl ⟨StepOk.op rfl rfl rfl (q_index (i) (_) rfl rfl Tryd.underlying29 ti33 (fun _ => rfl) (rfl) (rng_get (by omega))), fun _ => StepOk.op rfl rfl rfl (q_index (i) (_) rfl rfl Tryd.underlying29 ti33 (fun _ => rfl) (rfl) (rng_get (by omega)))⟩ rfl rfl ?_
        refine Draw2.step rfl rfl rfl ⟨StepOk.op rfl rfl rfl (y_load rfl Tryd.underlying33 rfl), fun _ => StepOk.op rfl rfl rfl (y_load rfl Tryd.underlying33 rfl)⟩ rfl rfl ?_
        refine Draw2.step rfl rfl rfl ⟨StepOk.op rfl rfl rfl (y_move rfl), fun _ => StepOk.op rfl rfl rfl (y_move rfl)⟩ rfl rfl ?_
        refine Draw2.step rfl rfl rfl ⟨StepOk.op rfl rfl rfl (y_move rfl), fun _ => StepOk.op rfl rfl rfl (y_move rfl)⟩ rfl rfl ?_
        refine Draw2.step rfl rfl rfl ⟨StepOk.op rfl rfl rfl (q_index (i) (_) rfl rfl Tryd.underlying29 ti33 (fun _ => rfl) (rfl) (rng_get (by omega))), fun _ => StepOk.op rfl rfl rfl (q_index (i) (_) rfl rfl Tryd.underlying29 ti33 (fun _ => rfl) (rfl) (rng_get (by omega)))⟩ rfl rfl ?_
        refine Draw2.step rfl rfl rfl ⟨StepOk.op rfl rfl rfl (y_load rfl Tryd.underlying33 rfl), fun _ => StepOk.op rfl rfl rfl (y_load rfl Tryd.underlying33 rfl)⟩ rfl rfl ?_
        refine Draw2.step rfl rfl rfl ⟨StepOk.op rfl rfl rfl (q_buildL (K := Ku) ([Zc (2 ^ k) x c d i, Yc (2 ^ k) x c d i]) Tryd.underlying29 ti33 rfl rfl rfl (.cons rfl (Part.one' rfl) rfl (.cons rfl (Part.one' rfl) rfl .nil)) rfl), fun _ => StepOk.op rfl rfl rfl (q_buildL (K := Ku) ([Zc (2 ^ k) x c d i, Yc (2 ^ k) x c d i]) Tryd.underlying29 ti33 rfl rfl rfl (.cons rfl (Part.one' rfl) rfl (.cons rfl (Part.one' rfl) rfl .nil)) rfl)⟩ rfl rfl ?_
        refine Draw2.step rfl rfl rfl ⟨StepOk.op rfl rfl rfl (y_move rfl), fun _ => StepOk.op rfl rfl rfl (y_move rfl)⟩ rfl rfl ?_
        refine Draw2.step rfl rfl rfl ⟨StepOk.op rfl rfl rfl (y_move rfl), fun _ => StepOk.op rfl rfl rfl (y_move rfl)⟩ rfl rfl ?_
        refine Draw2.step rfl rfl rfl ⟨StepOk.op rfl rfl rfl (q_index ((i + 1) % (2 ^ k)) (_) rfl rfl Tryd.underlying29 ti33 (fun _ => rfl) (rfl) (rng_get (by omega))), fun _ => StepOk.op rfl rfl rfl (q_index ((i + 1) % (2 ^ k)) (_) rfl rfl Tryd.underlying29 ti33 (fun _ => rfl) (rfl) (rng_get (by omega)))⟩ rfl rfl ?_
        refine Draw2.step rfl rfl rfl ⟨StepOk.op rfl rfl rfl (y_load rfl Tryd.underlying33 rfl), fun _ => StepOk.op rfl rfl rfl (y_load rfl Tryd.underlying33 rfl)⟩ rfl rfl ?_
        refine Draw2.step rfl rfl rfl ⟨StepOk.op rfl rfl rfl (y_move rfl), fun _ => StepOk.op rfl rfl rfl (y_move rfl)⟩ rfl rfl ?_
        refine Draw2.step rfl rfl rfl ⟨StepOk.op rfl rfl rfl (y_move rfl), fun _ => StepOk.op rfl rfl rfl (y_move rfl)⟩ rfl rfl ?_
        refine Draw2.step rfl rfl rfl ⟨StepOk.op rfl rfl rfl (q_index ((i + 1) % (2 ^ k)) (_) rfl rfl Tryd.underlying29 ti33 (fun _ => rfl) (rfl) (rng_get (by omega))), fun _ => StepOk.op rfl rfl rfl (q_index ((i + 1) % (2 ^ k)) (_) rfl rfl Tryd.underlying29 ti33 (fun _ => rfl) (rfl) (rng_get (by omega)))⟩ rfl rfl ?_
        refine Draw2.step rfl rfl rfl ⟨StepOk.op rfl rfl rfl (y_load rfl Tryd.underlying33 rfl), fun _ => StepOk.op rfl rfl rfl (y_load rfl Tryd.underlying33 rfl)⟩ rfl rfl ?_
        refine Draw2.step rfl rfl rfl ⟨StepOk.op rfl rfl rfl (q_buildL (K := Ku) ([Zc (2 ^ k) x c d ((i + 1) % (2 ^ k)), Yc (2 ^ k) x c d ((i + 1) % (2 ^ k))]) Tryd.underlying29 ti33 rfl rfl rfl (.cons rfl (Part.one' rfl) rfl (.cons rfl (Part.one' rfl) rfl .nil)) rfl), fun _ => StepOk.op rfl rfl rfl (q_buildL (K := Ku) ([Zc (2 ^ k) x c d ((i + 1) % (2 ^ k)), Yc (2 ^ k) x c d ((i + 1) % (2 ^ k))]) Tryd.underlying29 ti33 rfl rfl rfl (.cons rfl (Part.one' rfl) rfl (.cons rfl (Part.one' rfl) rfl .nil)) rfl)⟩ rfl rfl ?_
        refine Draw2.step rfl rfl rfl ⟨StepOk.op rfl rfl rfl (y_move rfl), fun _ => StepOk.op rfl rfl rfl (y_move rfl)⟩ rfl rfl ?_
        refine Draw2.step rfl rfl rfl ⟨StepOk.op rfl rfl rfl (y_move rfl), fun _ => StepOk.op rfl rfl rfl (y_move rfl)⟩ rfl rfl ?_
        refine Draw2.step rfl rfl rfl ⟨StepOk.op rfl rfl rfl (q_buildL (K := Ku) ([c, d]) Tryd.underlying29 ti33 rfl rfl rfl (.cons rfl (Part.one' rfl) rfl (.cons rfl (Part.one' rfl) rfl .nil)) rfl), fun _ => StepOk.op rfl rfl rfl (q_buildL (K := Ku) ([c, d]) Tryd.underlying29 ti33 rfl rfl rfl (.cons rfl (Part.one' rfl) rfl (.cons rfl (Part.one' rfl) rfl .nil)) rfl)⟩ rfl rfl ?_
        refine Draw2.step rfl rfl rfl ⟨StepOk.op rfl rfl rfl (q_buildS [(0, 1), (1, 1), (2, 1), (3, 1), (4, 1), (5, 1), (6, 1)] Tryd.underlying152 ti152 rfl (fun w => by simp [run_sizeOf ti29.siz]) (.cons rfl (Part.one' rfl) rfl (.cons rfl (Part.one' rfl) rfl (.cons rfl (Part.one' rfl) rfl (.cons rfl (Part.one' rfl) rfl .nil))))), fun _ => StepOk.op rfl rfl rfl (q_buildS [(0, 1), (1, 1), (2, 1), (3, 1), (4, 1), (5, 1), (6, 1)] Tryd.underlying152 ti152 rfl (fun w => by simp [run_sizeOf ti29.siz]) (.cons rfl (Part.one' rfl) rfl (.cons rfl (Part.one' rfl) rfl (.cons rfl (Part.one' rfl) rfl (.cons rfl (Part.one' rfl) rfl .nil)))))⟩ rfl rfl ?_
        refine Draw2.new rfl ?_
        refine q_tail2 (m := 29) rfl rfl ti152 rfl rfl rfl rfl rfl rfl ?_
        intro b25
        refine Run.storeW 25 rfl rfl rfl ti152.siz rfl ?_
        refine q_nilRow 900 Ku 33 1 ?_
        refine q_nilRow 901 Ku 33 1 ?_
        refine Run.nil ?_
        refine Run.nT ?_
        refine Run.seq ?_
        refine Run.seq ?_
        refine Run.region ?_
        refine Run.op rfl rfl rfl (y_assign rfl) ?_
        refine Run.nil ?_
        refine Run.nT ?_
        refine Run.block ?_
        refine Run.loopK (ι := Nat × Value × Value) (fun ⟨j, v1, v2⟩ => j ≤ 6) (fun ⟨j, v1, v2⟩ => 6 - j) (fun ⟨j, v1, v2⟩ => [(25, .blk b25 152 [sval v1, sval v2, slc Ku [x.t i], sval (.slice none 0 0), slc Ku [Zc (2 ^ k) x c d i, Yc (2 ^ k) x c d i], slc Ku [Zc (2 ^ k) x c d ((i + 1) % (2 ^ k)), Yc (2 ^ k) x c d ((i + 1) % (2 ^ k))], slc Ku [c, d]]), (900, .rows Ku v1 33 1 (mrow (2 ^ k) x i j)), (901, .rows Ku v2 33 1 (mrow (2 ^ k) x ((i + 1) % (2 ^ k)) j))]) [23, 14, 15, 3, 4, 5, 6, 7, 13, 21, 24, 25] (fun ⟨j, v1, v2⟩ => [(26, i64 j)]) (0, .slice none 0 0, .slice none 0 0) (by show 0 ≤ _; omega) rfl (Incl.same (t := 26) rfl (Incl.pick [23, 14, 15, 3, 4, 5, 6, 7, 13, 21, 24, 25])) ?_
        rintro ⟨j, v1, v2⟩ hj
        show Run _ _ [(901, _), (900, _), (25, _)] [(26, _), (23, _), (14, _), (15, _), (3, _), (4, _), (5, _), (6, _), (7, _), (13, _), (21, _), (24, _), (25, _)] _
        have hj : j ≤ 6 := hj
        refine Run.seq ?_
        refine Run.seq ?_
        refine Run.region ?_
        refine Run.op rfl rfl rfl (y_move rfl) ?_
        refine Run.op rfl rfl rfl (y_field rfl Tryd.underlying68 rfl ti61.siz rfl) ?_
        refine Run.op rfl rfl rfl (y_load rfl Tryd.underlying61 rfl) ?_
        refine Run.op rfl rfl rfl (y_lenS rfl Tryd.underlying61) ?_
        refine Run.op rfl rfl rfl (y_lss rfl rfl) ?_
        refine Run.nil ?_
        refine Run.nT ?_
        refine Run.cond rfl (fun hb => ?_) (fun hb => ?_)
        · have hj6 : j < 6 := by have := of_decide_eq_true hb; simp at this; omega
          have hcm := hc6 _ (getD_mem (cs := csx (2 ^ k) x) (j := j) hj6)
          have hil : i < ((csx (2 ^ k) x).getD j []).length := by rw [hcm.1]; exact hiN
          have hkl : (i + 1) % (2 ^ k) < ((csx (2 ^ k) x).getD j []).length := by rw [hcm.1]; exact hkN
          refine Run.skip ?_
          refine Run.nT ?_
          refine Run.seq ?_
          refine Run.block ?_
          refine Run.weaken (Incl.same (t := 26) rfl (Incl.same (t := 23) rfl (Incl.same (t := 14) rfl (Incl.same (t := 15) rfl (Incl.same (t := 3) rfl (Incl.same (t := 4) rfl (Incl.same (t := 5) rfl (Incl.same (t := 6) rfl (Incl.same (t := 7) rfl (Incl.same (t := 13) rfl (Incl.same (t := 21) rfl (Incl.same (t := 24) rfl (Incl.same (t := 25) rfl Incl.nil))))))))))))) ?_
          refine Run.drawP (β := Value) (fun M gs => match gs with | [] => M | [v25_0] => setM M 900 (.rows Ku v25_0 33 1 (mrow (2 ^ k) x i j ++ [((csx (2 ^ k) x).getD j []).getD i 0])) | [v25_0, v25_1] => setM (setM M 900 (.rows Ku v25_0 33 1 (mrow (2 ^ k) x i j ++ [((csx (2 ^ k) x).getD j []).getD i 0]))) 901 (.rows Ku v25_1 33 1 (mrow (2 ^ k) x ((i + 1) % (2 ^ k)) j ++ [((csx (2 ^ k) x).getD j []).getD ((i + 1) % (2 ^ k)) 0])) | _ => M) [⟨11, some 217, fun v => sval v⟩, ⟨23, some 229, fun v => sval v⟩] rfl rfl ?_
          refine DrawP.step 0 1 rfl rfl rfl (by kernel_rfl) (by kernel_rfl) ⟨(StepOk.op rfl rfl rfl (y_fieldP rfl Tryd.underlying152 rfl ti29.siz)), trivial⟩ rfl rfl ?_
          refine DrawP.step 0 1 rfl rfl rfl (by kernel_rfl) (by kernel_rfl) ⟨(StepOk.op rfl rfl rfl (y_loadP 25 rfl rfl (rfl) Tryd.underlying29 rfl)), trivial⟩ rfl rfl ?_
          refine DrawP.step 0 1 rfl rfl rfl (by kernel_rfl) (by kernel_rfl) ⟨(StepOk.op rfl rfl rfl (y_field rfl Tryd.underlying68 rfl ti61.siz rfl)), trivial⟩ rfl rfl ?_
          refine DrawP.step 0 1 rfl rfl rfl (by kernel_rfl) (by kernel_rfl) ⟨(StepOk.op rfl rfl rfl (y_load rfl Tryd.underlying61 rfl)), trivial⟩ rfl rfl ?_
          refine DrawP.step 0 1 rfl rfl rfl (by kernel_rfl) (by kernel_rfl) ⟨(StepOk.op rfl rfl rfl (y_move rfl)), trivial⟩ rfl rfl ?_
          refine DrawP.step 0 1 rfl rfl rfl (by kernel_rfl) (by kernel_rfl) ⟨(StepOk.op rfl rfl rfl (q_index (j) ((csx (2 ^ k) x).getD j []) rfl rfl Tryd.underlying61 ti29 (fun _ => rfl) (rfl) (getDl_at hj6))), trivial⟩ rfl rfl ?_
          refine DrawP.step 0 1 rfl rfl rfl (by kernel_rfl) (by kernel_rfl) ⟨(StepOk.op rfl rfl rfl (y_load rfl Tryd.underlying29 rfl)), trivial⟩ rfl rfl ?_
          refine DrawP.step 0 1 rfl rfl rfl (by kernel_rfl) (by kernel_rfl) ⟨(StepOk.op rfl rfl rfl (y_move rfl)), trivial⟩ rfl rfl ?_
          refine DrawP.step 0 1 rfl rfl rfl (by kernel_rfl) (by kernel_rfl) ⟨(StepOk.op rfl rfl rfl (q_index (i) (_) rfl rfl Tryd.underlying29 ti33 (fun _ => rfl) (rfl) (getD_at hil))), trivial⟩ rfl rfl ?_
          refine DrawP.step 0 1 rfl rfl rfl (by kernel_rfl) (by kernel_rfl) ⟨(StepOk.op rfl rfl rfl (y_load rfl Tryd.underlying33 rfl)), trivial⟩ rfl rfl ?_
          refine DrawP.step 0 1 rfl rfl rfl (by kernel_rfl) (by kernel_rfl) ⟨(StepOk.op rfl rfl rfl (q_buildL (K := Ku) ([_]) Tryd.underlying29 ti33 rfl rfl rfl (.cons rfl (Part.one' rfl) rfl .nil) rfl)), trivial⟩ rfl rfl ?_
          refine DrawP.skip rfl ?_
          refine DrawP.step 0 2 rfl rfl rfl (by kernel_rfl) (by kernel_rfl) ⟨(StepOk.op rfl rfl rfl (y_fieldP rfl Tryd.underlying152 rfl ti29.siz)), (fun _ => StepOk.op rfl rfl rfl (y_fieldP rfl Tryd.underlying152 rfl ti29.siz)), trivial⟩ rfl rfl ?_
          refine DrawP.step 0 2 rfl rfl rfl (by kernel_rfl) (by kernel_rfl) ⟨(StepOk.op rfl rfl rfl (y_loadP 25 rfl rfl (rfl) Tryd.underlying29 rfl)), (fun _ => StepOk.op rfl rfl rfl (y_loadP 25 rfl rfl (rfl) Tryd.underlying29 rfl)), trivial⟩ rfl rfl ?_
          refine DrawP.step 0 2 rfl rfl rfl (by kernel_rfl) (by kernel_rfl) ⟨(StepOk.op rfl rfl rfl (y_field rfl Tryd.underlying68 rfl ti61.siz rfl)), (fun _ => StepOk.op rfl rfl rfl (y_field rfl Tryd.underlying68 rfl ti61.siz rfl)), trivial⟩ rfl rfl ?_
          refine DrawP.step 0 2 rfl rfl rfl (by kernel_rfl) (by kernel_rfl) ⟨(StepOk.op rfl rfl rfl (y_load rfl Tryd.underlying61 rfl)), (fun _ => StepOk.op rfl rfl rfl (y_load rfl Tryd.underlying61 rfl)), trivial⟩ rfl rfl ?_
          refine DrawP.step 0 2 rfl rfl rfl (by kernel_rfl) (by kernel_rfl) ⟨(StepOk.op rfl rfl rfl (y_move rfl)), (fun _ => StepOk.op rfl rfl rfl (y_move rfl)), trivial⟩ rfl rfl ?_
          refine DrawP.step 0 2 rfl rfl rfl (by kernel_rfl) (by kernel_rfl) ⟨(StepOk.op rfl rfl rfl (q_index (j) ((csx (2 ^ k) x).getD j []) rfl rfl Tryd.underlying61 ti29 (fun _ => rfl) (rfl) (getDl_at hj6))), (fun _ => StepOk.op rfl rfl rfl (q_index (j) ((csx (2 ^ k) x).getD j []) rfl rfl Tryd.underlying61 ti29 (fun _ => rfl) (rfl) (getDl_at hj6))), trivial⟩ rfl rfl ?_
          refine DrawP.step 0 2 rfl rfl rfl (by kernel_rfl) (by kernel_rfl) ⟨(StepOk.op rfl rfl rfl (y_load rfl Tryd.underlying29 rfl)), (fun _ => StepOk.op rfl rfl rfl (y_load rfl Tryd.underlying29 rfl)), trivial⟩ rfl rfl ?_
          refine DrawP.step 0 2 rfl rfl rfl (by kernel_rfl) (by kernel_rfl) ⟨(StepOk.op rfl rfl rfl (y_move rfl)), (fun _ => StepOk.op rfl rfl rfl (y_move rfl)), trivial⟩ rfl rfl ?_
          refine DrawP.step 0 2 rfl rfl rfl (by kernel_rfl) (by kernel_rfl) ⟨(StepOk.op rfl rfl rfl (q_index ((i + 1) % (2 ^ k)) (_) rfl rfl Tryd.underlying29 ti33 (fun _ => rfl) (rfl) (getD_at hkl))), (fun _ => StepOk.op rfl rfl rfl (q_index ((i + 1) % (2 ^ k)) (_) rfl rfl Tryd.underlying29 ti33 (fun _ => rfl) (rfl) (getD_at hkl))), trivial⟩ rfl rfl ?_
          refine DrawP.step 0 2 rfl rfl rfl (by kernel_rfl) (by kernel_rfl) ⟨(StepOk.op rfl rfl rfl (y_load rfl Tryd.underlying33 rfl)), (fun _ => StepOk.op rfl rfl rfl (y_load rfl Tryd.underlying33 rfl)), trivial⟩ rfl rfl ?_
          refine DrawP.step 0 2 rfl rfl rfl (by kernel_rfl) (by kernel_rfl) ⟨(StepOk.op rfl rfl rfl (q_buildL (K := Ku) ([_]) Tryd.underlying29 ti33 rfl rfl rfl (.cons rfl (Part.one' rfl) rfl .nil) rfl)), (fun _ => StepOk.op rfl rfl rfl (q_buildL (K := Ku) ([_]) Tryd.underlying29 ti33 rfl rfl rfl (.cons rfl (Part.one' rfl) rfl .nil) rfl)), trivial⟩ rfl rfl ?_
          refine DrawP.skip rfl ?_
          refine DrawP.step 1 2 rfl rfl rfl (by kernel_rfl) (by kernel_rfl) ⟨(fun _ => StepOk.op rfl rfl rfl (y_fieldP rfl Tryd.underlying152 rfl ti29.siz)), (fun _ _ => StepOk.op rfl rfl rfl (y_fieldP rfl Tryd.underlying152 rfl ti29.siz)), trivial⟩ rfl rfl ?_
          refine DrawP.tail (m := 25) (by kernel_rfl) (by kernel_rfl) rfl rfl ⟨⟨_, rfl, ?_⟩, ⟨_, rfl, ?_⟩, trivial⟩ ?_
          · intro L' hS K hK
            refine Run.opAt rfl ?_
            refine q_append 900 (hS _ _ rfl) rfl (hS _ _ rfl) Tryd.underlying29 ti33 rfl rfl (fun _ => rfl) (by simp; omega) rfl ?_
            intro v217
            refine Run.nil ?_
            refine Run.nT ?_
            exact hK v217
          · intro v25_0 L' hS K hK
            refine Run.opAt rfl ?_
            refine q_append 901 (hS _ _ rfl) rfl (hS _ _ rfl) Tryd.underlying29 ti33 rfl rfl (fun _ => rfl) (by simp; omega) rfl ?_
            intro v229
            refine Run.nil ?_
            refine Run.nT ?_
            exact hK v229
          · intro v25_0 v25_1
            refine Run.own (t := 900) (e' := Ent.rows Ku v25_0 33 1 (mrow (2 ^ k) x i (j + 1))) rfl (by rw [mrow_snoc]) ?_
            refine Run.own (t := 901) (e' := Ent.rows Ku v25_1 33 1 (mrow (2 ^ k) x ((i + 1) % (2 ^ k)) (j + 1))) rfl (by rw [mrow_snoc]) ?_
            show Run _ _ [(901, _), (900, _), (25, _)] _ _
            refine q_store1V 900 25 rfl rfl rfl rfl ti29 (Nat.le_of_ble_eq_true rfl) ?_
            refine Run.op rfl rfl rfl (y_fieldP rfl Tryd.underlying152 rfl ti29.siz) ?_
            refine q_store1V 901 25 rfl rfl rfl rfl ti29 (Nat.le_of_ble_eq_true rfl) ?_
            refine Run.own (t := 25) (e' := .blk b25 152 [sval v25_0, sval v25_1, slc Ku [x.t i], sval (.slice none 0 0), slc Ku [Zc (2 ^ k) x c d i, Yc (2 ^ k) x c d i], slc Ku [Zc (2 ^ k) x c d ((i + 1) % (2 ^ k)), Yc (2 ^ k) x c d ((i + 1) % (2 ^ k))], slc Ku [c, d]]) rfl rfl ?_
            show Run _ _ [(901, _), (900, _), (25, _)] _ _
            refine Run.nil ?_
            refine Run.nB ?_
            refine Run.nT ?_
            refine Run.region ?_
            refine Run.op rfl rfl rfl (y_move rfl) ?_
            refine Run.op rfl rfl rfl (y_add rfl rfl (by first | exact wI_in (by omega) | rfl)) ?_
            refine Run.op rfl rfl rfl (y_assign rfl) ?_
            refine Run.nil ?_
            refine Run.nT ?_
            refine Run.round (j + 1, v25_0, v25_1) ?_ ?_ ?_ ?_
            · show j + 1 ≤ 6; omega
            · show 6 - (j + 1) < 6 - j; omega
            · rfl
            · exact (Incl.int (t := 26) rfl (by omega) (Incl.same (t := 23) rfl (Incl.same (t := 14) rfl (Incl.same (t := 15) rfl (Incl.same (t := 3) rfl (Incl.same (t := 4) rfl (Incl.same (t := 5) rfl (Incl.same (t := 6) rfl (Incl.same (t := 7) rfl (Incl.same (t := 13) rfl (Incl.same (t := 21) rfl (Incl.same (t := 24) rfl (Incl.same (t := 25) rfl Incl.nil)))))))))))))
        · obtain rfl : j = 6 := by have := of_decide_eq_false hb; simp at this; omega
          refine Run.freezeInB (K := Ku) (l := mrow (2 ^ k) x i 6) (f0 := 0) 900 25 rfl rfl rfl ?_
          refine Run.freezeInB (K := Ku) (l := mrow (2 ^ k) x ((i + 1) % (2 ^ k)) 6) (f0 := 1) 901 25 rfl rfl rfl ?_
          refine Run.exit ?_
          refine Run.eT ?_
          refine Run.eT ?_
          refine Run.eB ?_
          refine Run.nT ?_
          refine Run.seq ?_
          refine Run.region ?_
          refine Run.op rfl rfl rfl (y_loadW rfl Tryd.underlying66 rfl ti66.siz) ?_
          refine Run.op rfl rfl rfl (y_loadPW 25 rfl rfl Tryd.underlying152 rfl ti152.siz) ?_
          refine Run.op rfl rfl rfl (q_call en80 rfl (avals_fn s k hk x hx c d hc hd i hiN (mrow (2 ^ k) x ((i + 1) % (2 ^ k)) 6) (Zc (2 ^ k) x c d i) (Yc (2 ^ k) x c d i) (Zc (2 ^ k) x c d ((i + 1) % (2 ^ k))) (Yc (2 ^ k) x c d ((i + 1) % (2 ^ k))) (hzl _) (hyl _) (hzl _) (hyl _))) ?_
          refine Run.op rfl rfl rfl (y_move rfl) ?_
          refine Run.op rfl rfl rfl (y_extract rfl rfl) ?_
          refine Run.op rfl rfl rfl (y_extract rfl rfl) ?_
          refine Run.op rfl rfl rfl (y_assign rfl) ?_
          refine Run.op rfl rfl rfl (y_assign rfl) ?_
          refine Run.nil ?_
          refine Run.nT ?_
          refine Run.seq ?_
          refine Run.seq ?_
          refine Run.weaken (Incl.same (t := 26) rfl (Incl.same (t := 23) rfl (Incl.same (t := 14) rfl (Incl.same (t := 15) rfl (Incl.same (t := 3) rfl (Incl.same (t := 4) rfl (Incl.same (t := 5) rfl (Incl.same (t := 6) rfl (Incl.same (t := 7) rfl (Incl.same (t := 13) rfl (Incl.same (t := 21) rfl (Incl.same (t := 24) rfl (Incl.same (t := 25) rfl (Incl.same (t := 27) rfl (Incl.same (t := 28) rfl Incl.nil))))))))))))))) ?_
          refine q_draw ?_ rfl
          refine Draw.step rfl rfl rfl (StepOk.op rfl rfl rfl (y_move rfl)) rfl ?_
          refine Draw.step rfl rfl rfl (StepOk.op rfl rfl rfl (Yields.bool (c := false) (y_neq rfl rfl) (rfl))) rfl ?_
          refine Draw.step rfl rfl rfl (StepOk.op rfl rfl rfl (y_move rfl)) rfl ?_
          refine Draw.step rfl rfl rfl (StepOk.opG rfl rfl rfl rfl rfl (y_move rfl)) rfl ?_
          refine Draw.step rfl rfl rfl (StepOk.opG rfl rfl rfl rfl rfl (y_lenS rfl Tryd.underlying29)) rfl ?_
          refine Draw.step rfl rfl rfl (StepOk.opG rfl rfl rfl rfl rfl (Yields.bool (c := false) (y_neq rfl rfl) (rfl))) rfl ?_
          refine Draw.step rfl rfl rfl (StepOk.op rfl rfl rfl (y_pickF rfl rfl)) rfl ?_
          refine Draw.step rfl rfl rfl (StepOk.op rfl rfl rfl (y_move rfl)) rfl ?_
          refine Draw.step rfl rfl rfl (StepOk.opG rfl rfl rfl rfl rfl (y_move rfl)) rfl ?_
          refine Draw.step rfl rfl rfl (StepOk.opG rfl rfl rfl rfl rfl (q_index (0) (rng (2 ^ k) (Zc (2 ^ k) x c d)) rfl rfl Tryd.underlying61 ti29 (fun _ => rfl) (rfl) (rfl))) rfl ?_
          refine Draw.step rfl rfl rfl (StepOk.opG rfl rfl rfl rfl rfl (y_load rfl Tryd.underlying29 rfl)) rfl ?_
          refine Draw.step rfl rfl rfl (StepOk.opG rfl rfl rfl rfl rfl (y_move rfl)) rfl ?_
          refine Draw.step rfl rfl rfl (StepOk.opG rfl rfl rfl rfl rfl (q_index (i) (_) rfl rfl Tryd.underlying29 ti33 (fun _ => rfl) (rfl) (rng_get hiN))) rfl ?_
          refine Draw.step rfl rfl rfl (StepOk.opG rfl rfl rfl rfl rfl (y_load rfl Tryd.underlying33 rfl)) rfl ?_
          refine Draw.step rfl rfl rfl (StepOk.opG rfl rfl rfl rfl rfl (y_move rfl)) rfl ?_
          refine Draw.step rfl rfl rfl (StepOk.opG rfl rfl rfl rfl rfl (y_move rfl)) rfl ?_
          refine Draw.step rfl rfl rfl (StepOk.opG rfl rfl rfl rfl rfl (q_index (i) (_) rfl rfl Tryd.underlying29 ti33 (fun _ => rfl) (rfl) (rng_get (by omega)))) rfl ?_
          refine Draw.step rfl rfl rfl (StepOk.opG rfl rfl rfl rfl rfl (y_load rfl Tryd.underlying33 rfl)) rfl ?_
          refine Draw.step rfl rfl rfl (StepOk.opG rfl rfl rfl rfl rfl (Yields.bool (c := false) (y_neq rfl rfl) (by simp))) rfl ?_
          refine Draw.step rfl rfl rfl (StepOk.op rfl rfl rfl (y_pickF rfl rfl)) rfl ?_
          refine Draw.step rfl rfl rfl (StepOk.op rfl rfl rfl (y_move rfl)) rfl ?_
          refine Draw.step rfl rfl rfl (StepOk.opG rfl rfl rfl rfl rfl (y_move rfl)) rfl ?_
          refine Draw.step rfl rfl rfl (StepOk.opG rfl rfl rfl rfl rfl (q_index (1) (rng (2 ^ k) (Yc (2 ^ k) x c d)) rfl rfl Tryd.underlying61 ti29 (fun _ => rfl) (rfl) (rfl))) rfl ?_
          refine Draw.step rfl rfl rfl (StepOk.opG rfl rfl rfl rfl rfl (y_load rfl Tryd.underlying29 rfl)) rfl ?_
          refine Draw.step rfl rfl rfl (StepOk.opG rfl rfl rfl rfl rfl (y_move rfl)) rfl ?_
          refine Draw.step rfl rfl rfl (StepOk.opG rfl rfl rfl rfl rfl (q_index (i) (_) rfl rfl Tryd.underlying29 ti33 (fun _ => rfl) (rfl) (rng_get hiN))) rfl ?_
          refine Draw.step rfl rfl rfl (StepOk.opG rfl rfl rfl rfl rfl (y_load rfl Tryd.underlying33 rfl)) rfl ?_
          refine Draw.step rfl rfl rfl (StepOk.opG rfl rfl rfl rfl rfl (y_move rfl)) rfl ?_
          refine Draw.step rfl rfl rfl (StepOk.opG rfl rfl rfl rfl rfl (y_move rfl)) rfl ?_
          refine Draw.step rfl rfl rfl (StepOk.opG rfl rfl rfl rfl rfl (q_index (i) (_) rfl rfl Tryd.underlying29 ti33 (fun _ => rfl) (rfl) (rng_get (by omega)))) rfl ?_
          refine Draw.step rfl rfl rfl (StepOk.opG rfl rfl rfl rfl rfl (y_load rfl Tryd.underlying33 rfl)) rfl ?_
          refine Draw.step rfl rfl rfl (StepOk.opG rfl rfl rfl rfl rfl (Yields.bool (c := false) (y_neq rfl rfl) (by simp))) rfl ?_
          refine Draw.step rfl rfl rfl (StepOk.op rfl rfl rfl (y_pickF rfl rfl)) rfl ?_
          refine Draw.tail (m := 33) rfl rfl rfl ?_
          refine Run.nil ?_
          refine Run.nT ?_
          refine Run.cond0 rfl ?_
          refine Run.skip ?_
          refine Run.nT ?_
          refine Run.seq ?_
          refine Run.weaken (Incl.same (t := 26) rfl (Incl.same (t := 23) rfl (Incl.same (t := 14) rfl (Incl.same (t := 15) rfl (Incl.same (t := 3) rfl (Incl.same (t := 4) rfl (Incl.same (t := 5) rfl (Incl.same (t := 6) rfl (Incl.same (t := 7) rfl (Incl.same (t := 13) rfl (Incl.same (t := 21) rfl (Incl.same (t := 24) rfl (Incl.same (t := 25) rfl (Incl.same (t := 27) rfl (Incl.same (t := 28) rfl Incl.nil))))))))))))))) ?_
          refine q_draw ?_ rfl
          refine Draw.step rfl rfl rfl (StepOk.op rfl rfl rfl (y_move rfl)) rfl ?_
          refine Draw.step rfl rfl rfl (StepOk.op rfl rfl rfl (q_index (0) (_) rfl rfl Tryd.underlying29 ti33 (fun _ => rfl) (rfl) (rfl))) rfl ?_
          refine Draw.step rfl rfl rfl (StepOk.op rfl rfl rfl (y_load rfl Tryd.underlying33 rfl)) rfl ?_
          refine Draw.step rfl rfl rfl (StepOk.op rfl rfl rfl (y_eql rfl rfl)) rfl ?_
          refine Draw.step rfl rfl rfl (StepOk.op rfl rfl rfl (y_move rfl)) rfl ?_
          refine Draw.step rfl rfl rfl (StepOk.op rfl rfl rfl (y_add (r := ((i + 1 : Nat) : Int)) rfl rfl (by rw [wI_in (by omega)]; omega))) rfl ?_
          refine Draw.step rfl rfl rfl (StepOk.op rfl rfl rfl (y_move rfl)) rfl ?_
          refine Draw.step rfl rfl rfl (StepOk.op rfl rfl rfl (y_lss rfl rfl)) rfl ?_
          refine Draw.step rfl rfl rfl (StepOk.op rfl rfl rfl (y_move rfl)) rfl ?_
          refine Draw.step rfl rfl rfl (StepOk.opC rfl rfl rfl rfl rfl (fun hg => Yields.incl (Incl.same (t := 14) rfl Incl.nil) (y_move rfl))) rfl ?_
          refine Draw.step rfl rfl rfl (StepOk.opC rfl rfl rfl rfl rfl (fun hg => Yields.incl (Incl.same (t := 13) rfl Incl.nil) (y_move rfl))) rfl ?_
          refine Draw.step rfl rfl rfl (StepOk.opC rfl rfl rfl rfl rfl (fun hg => Yields.incl (Incl.cond (t := 280) rfl hg (Incl.cond (t := 281) rfl hg Incl.nil)) (q_index ((2 ^ k)) (_) rfl rfl Tryd.underlying29 ti33 (fun _ => rfl) (rfl) (rng_get (by omega))))) rfl ?_
          refine Draw.step rfl rfl rfl (StepOk.opC rfl rfl rfl rfl rfl (fun hg => Yields.incl (Incl.cond (t := 282) rfl hg Incl.nil) (y_load rfl Tryd.underlying33 rfl))) rfl ?_
          refine Draw.step rfl rfl rfl (StepOk.opC rfl rfl rfl rfl rfl (fun hg => Yields.incl (Incl.cond (t := 283) rfl hg Incl.nil) (y_eql rfl rfl))) rfl ?_
          refine Draw.step rfl rfl rfl (StepOk.op rfl rfl rfl (y_pickOr rfl rfl)) rfl ?_
          refine Draw.step rfl rfl rfl (StepOk.op rfl rfl rfl (Yields.bool (c := false) (y_eqB true rfl rfl Tryd.underlying4) (by rw [hV0, hlt]; simp))) rfl ?_
          refine Draw.step rfl rfl rfl (StepOk.op rfl rfl rfl (y_move rfl)) rfl ?_
          refine Draw.step rfl rfl rfl (StepOk.opG rfl rfl rfl rfl rfl (y_move rfl)) rfl ?_
          refine Draw.step rfl rfl rfl (StepOk.opG rfl rfl rfl rfl rfl (q_index (1) (_) rfl rfl Tryd.underlying29 ti33 (fun _ => rfl) (rfl) (rfl))) rfl ?_
          refine Draw.step rfl rfl rfl (StepOk.opG rfl rfl rfl rfl rfl (y_load rfl Tryd.underlying33 rfl)) rfl ?_
          refine Draw.step rfl rfl rfl (StepOk.opG rfl rfl rfl rfl rfl (y_eql rfl rfl)) rfl ?_
          refine Draw.step rfl rfl rfl (StepOk.opG rfl rfl rfl rfl rfl (y_move rfl)) rfl ?_
          refine Draw.step rfl rfl rfl (StepOk.opG rfl rfl rfl rfl rfl (y_move rfl)) rfl ?_
          refine Draw.step rfl rfl rfl (StepOk.opG rfl rfl rfl rfl rfl (q_index (i) (_) rfl rfl Tryd.underlying29 ti33 (fun _ => rfl) (rfl) (rng_get (by omega)))) rfl ?_
          refine Draw.step rfl rfl rfl (StepOk.opG rfl rfl rfl rfl rfl (y_load rfl Tryd.underlying33 rfl)) rfl ?_
          refine Draw.step rfl rfl rfl (StepOk.opG rfl rfl rfl rfl rfl (y_eql rfl rfl)) rfl ?_
          refine Draw.step rfl rfl rfl (StepOk.opG rfl rfl rfl rfl rfl (Yields.bool (c := false) (y_eqB true rfl rfl Tryd.underlying4) (by rw [hV1]; simp))) rfl ?_
          refine Draw.step rfl rfl rfl (StepOk.op rfl rfl rfl (y_pickF rfl rfl)) rfl ?_
          refine Draw.step rfl rfl rfl (StepOk.op rfl rfl rfl (y_move rfl)) rfl ?_
          refine Draw.step rfl rfl rfl (StepOk.opG rfl rfl rfl rfl rfl (y_move rfl)) rfl ?_
          refine Draw.step rfl rfl rfl (StepOk.opG rfl rfl rfl rfl rfl (q_index (2) (_) rfl rfl Tryd.underlying29 ti33 (fun _ => rfl) (rfl) (rfl))) rfl ?_
          refine Draw.step rfl rfl rfl (StepOk.opG rfl rfl rfl rfl rfl (y_load rfl Tryd.underlying33 rfl)) rfl ?_
          refine Draw.step rfl rfl rfl (StepOk.opG rfl rfl rfl rfl rfl (y_eql rfl rfl)) rfl ?_
          refine Draw.step rfl rfl rfl (StepOk.opG rfl rfl rfl rfl rfl (y_move rfl)) rfl ?_
          refine Draw.step rfl rfl rfl (StepOk.opG rfl rfl rfl rfl rfl (y_add (r := ((i + 1 : Nat) : Int)) rfl rfl (by rw [wI_in (by omega)]; omega))) rfl ?_
          refine Draw.step rfl rfl rfl (StepOk.opG rfl rfl rfl rfl rfl (y_move rfl)) rfl ?_
          refine Draw.step rfl rfl rfl (StepOk.opG rfl rfl rfl rfl rfl (y_lss rfl rfl)) rfl ?_
          refine Draw.step rfl rfl rfl (StepOk.opG rfl rfl rfl rfl rfl (y_move rfl)) rfl ?_
          refine Draw.step rfl rfl rfl (StepOk.opC rfl rfl rfl rfl rfl (fun hg => Yields.incl (Incl.same (t := 15) rfl Incl.nil) (y_move rfl))) rfl ?_
          refine Draw.step rfl rfl rfl (StepOk.opC rfl rfl rfl rfl rfl (fun hg => Yields.incl (Incl.same (t := 13) rfl Incl.nil) (y_move rfl))) rfl ?_
          refine Draw.step rfl rfl rfl (StepOk.opC rfl rfl rfl rfl rfl (fun hg => Yields.incl (Incl.cond (t := 309) rfl hg (Incl.cond (t := 310) rfl hg Incl.nil)) (q_index ((2 ^ k)) (_) rfl rfl Tryd.underlying29 ti33 (fun _ => rfl) (rfl) (rng_get (by omega))))) rfl ?_
          refine Draw.step rfl rfl rfl (StepOk.opC rfl rfl rfl rfl rfl (fun hg => Yields.incl (Incl.cond (t := 311) rfl hg Incl.nil) (y_load rfl Tryd.underlying33 rfl))) rfl ?_
          refine Draw.step rfl rfl rfl (StepOk.opC rfl rfl rfl rfl rfl (fun hg => Yields.incl (Incl.cond (t := 312) rfl hg Incl.nil) (y_eql rfl rfl))) rfl ?_
          refine Draw.step rfl rfl rfl (StepOk.opG rfl rfl rfl rfl rfl (y_pickOr rfl rfl)) rfl ?_
          refine Draw.step rfl rfl rfl (StepOk.opG rfl rfl rfl rfl rfl (Yields.bool (c := false) (y_eqB true rfl rfl Tryd.underlying4) (by rw [hV2, hlt]; simp))) rfl ?_
          refine Draw.step rfl rfl rfl (StepOk.op rfl rfl rfl (y_pickF rfl rfl)) rfl ?_
          refine Draw.step rfl rfl rfl (StepOk.op rfl rfl rfl (y_move rfl)) rfl ?_
          refine Draw.step rfl rfl rfl (StepOk.opG rfl rfl rfl rfl rfl (y_move rfl)) rfl ?_
          refine Draw.step rfl rfl rfl (StepOk.opG rfl rfl rfl rfl rfl (q_index (3) (_) rfl rfl Tryd.underlying29 ti33 (fun _ => rfl) (rfl) (rfl))) rfl ?_
          refine Draw.step rfl rfl rfl (StepOk.opG rfl rfl rfl rfl rfl (y_load rfl Tryd.underlying33 rfl)) rfl ?_
          refine Draw.step rfl rfl rfl (StepOk.opG rfl rfl rfl rfl rfl (y_eql rfl rfl)) rfl ?_
          refine Draw.step rfl rfl rfl (StepOk.opG rfl rfl rfl rfl rfl (y_move rfl)) rfl ?_
          refine Draw.step rfl rfl rfl (StepOk.opG rfl rfl rfl rfl rfl (y_move rfl)) rfl ?_
          refine Draw.step rfl rfl rfl (StepOk.opG rfl rfl rfl rfl rfl (q_index (i) (_) rfl rfl Tryd.underlying29 ti33 (fun _ => rfl) (rfl) (rng_get (by omega)))) rfl ?_
          refine Draw.step rfl rfl rfl (StepOk.opG rfl rfl rfl rfl rfl (y_load rfl Tryd.underlying33 rfl)) rfl ?_
          refine Draw.step rfl rfl rfl (StepOk.opG rfl rfl rfl rfl rfl (y_eql rfl rfl)) rfl ?_
          refine Draw.step rfl rfl rfl (StepOk.opG rfl rfl rfl rfl rfl (Yields.bool (c := false) (y_eqB true rfl rfl Tryd.underlying4) (by rw [hV3]; simp))) rfl ?_
          refine Draw.step rfl rfl rfl (StepOk.op rfl rfl rfl (y_pickF rfl rfl)) rfl ?_
          refine Draw.tail (m := 58) rfl rfl rfl ?_
          refine Run.nil ?_
          refine Run.nT ?_
          refine Run.cond0 rfl ?_
          refine Run.skip ?_
          refine Run.nB ?_
          refine Run.nT ?_
          refine Run.region ?_
          refine Run.op rfl rfl rfl (y_move rfl) ?_
          refine Run.op rfl rfl rfl (y_add rfl rfl (by first | exact wI_in (by omega) | rfl)) ?_
          refine Run.op rfl rfl rfl (y_assign rfl) ?_
          refine Run.nil ?_
          refine Run.nT ?_
          refine Run.drop 25 rfl ?_
          refine Run.round (i + 1) ?_ ?_ ?_ ?_
          · show i + 1 ≤ (2 ^ k); omega
          · show (2 ^ k) - (i + 1) < (2 ^ k) - i; omega
          · rfl
          · exact (Incl.int (t := 23) rfl (by omega) (Incl.same (t := 14) rfl (Incl.same (t := 15) rfl (Incl.same (t := 3) rfl (Incl.same (t := 4) rfl (Incl.same (t := 5) rfl (Incl.same (t := 6) rfl (Incl.same (t := 7) rfl (Incl.same (t := 13) rfl (Incl.same (t := 21) rfl Incl.nil))))))))))
      · obtain rfl : i = (2 ^ k) := by have := of_decide_eq_false hb; omega
        refine Run.exit ?_
        refine Run.eT ?_
        refine Run.eT ?_
        refine Run.eB ?_
        refine Run.nT ?_
        refine Run.seq ?_
        refine Run.weaken (Incl.same (t := 23) rfl (Incl.same (t := 14) rfl (Incl.same (t := 15) rfl (Incl.same (t := 3) rfl (Incl.same (t := 4) rfl (Incl.same (t := 5) rfl (Incl.same (t := 6) rfl (Incl.same (t := 7) rfl (Incl.same (t := 13) rfl (Incl.same (t := 21) rfl Incl.nil)))))))))) ?_
        refine q_draw ?_ rfl
        refine Draw.step rfl rfl rfl (StepOk.op rfl rfl rfl (y_move rfl)) rfl ?_
        refine Draw.step rfl rfl rfl (StepOk.op rfl rfl rfl (y_move rfl)) rfl ?_
        refine Draw.step rfl rfl rfl (StepOk.op rfl rfl rfl (q_index ((2 ^ k)) (_) rfl rfl Tryd.underlying29 ti33 (fun _ => rfl) (rfl) (rng_get (by omega)))) rfl ?_
        refine Draw.step rfl rfl rfl (StepOk.op rfl rfl rfl (y_load rfl Tryd.underlying33 rfl)) rfl ?_
        refine Draw.step rfl rfl rfl (StepOk.op rfl rfl rfl (y_eql rfl rfl)) rfl ?_
        refine Draw.step rfl rfl rfl (StepOk.op rfl rfl rfl (y_move rfl)) rfl ?_
        refine Draw.step rfl rfl rfl (StepOk.op rfl rfl rfl (y_move rfl)) rfl ?_
        refine Draw.step rfl rfl rfl (StepOk.op rfl rfl rfl (q_index ((2 ^ k)) (_) rfl rfl Tryd.underlying29 ti33 (fun _ => rfl) (rfl) (rng_get (by omega)))) rfl ?_
        refine Draw.step rfl rfl rfl (StepOk.op rfl rfl rfl (y_load rfl Tryd.underlying33 rfl)) rfl ?_
        refine Draw.step rfl rfl rfl (StepOk.op rfl rfl rfl (y_eql rfl rfl)) rfl ?_
        refine Draw.step rfl rfl rfl (StepOk.op rfl rfl rfl (y_assign rfl)) rfl ?_
        refine Draw.step rfl rfl rfl (StepOk.op rfl rfl rfl (y_assign rfl)) rfl ?_
        refine Draw.step rfl rfl rfl (StepOk.op rfl rfl rfl (y_assign rfl)) rfl ?_
        refine Draw.tail (m := 13) rfl rfl rfl ?_
        refine Run.nil ?_
        refine Run.nT ?_
        refine Run.ret ?_
        exact Run.fin3 rfl rfl rfl (.tmp rfl) (.tmp rfl) (.tmp rfl) (fun _ _ h => h) (fun _ _ h => by rw [hb_]; exact h) (fun _ _ h => by rw [hb_]; exact h)

end

end Go.Vx
