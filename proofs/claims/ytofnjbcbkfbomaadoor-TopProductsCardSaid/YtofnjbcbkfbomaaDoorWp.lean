/- Walks: the statement: sums, systems. Conditions: as each says. Printed by a program of our own (wip/tools/gen2.py). -/
import Derived.Test.YtofnjbcbkfbomaaDoorWo
import Derived.Test.YtofnjbcbkfbomaaDoorWn
namespace Go.Vx
open Go Go.RowKit Go.Proofs
set_option maxRecDepth 100000
variable (s : Seat)

theorem at14_fn (l : List Int) (hl : ∀ x ∈ l, 0 ≤ x ∧ x < 256) (i : Nat) (hi : i < 1000000) : Fn s.env 30 [i64 i, spts [slc Kk8 l]] (u64 (at14 l i)) := by
  refine Fn.of Tryd.func30 rfl Tryd.ntmps30 rfl ?_
  intro w0 F0
  refine Run.seq ?_
  refine Run.region ?_
  refine Run.op rfl rfl rfl (y_assign rfl) ?_
  refine Run.nil ?_
  refine Run.nT ?_
  refine Run.seq ?_
  refine Run.seq ?_
  refine Run.region ?_
  refine Run.op rfl rfl rfl (y_load rfl Tryd.underlying26 rfl) ?_
  refine Run.op rfl rfl rfl (y_lenS rfl Tryd.underlying26) ?_
  refine Run.op rfl rfl rfl (y_eql rfl rfl) ?_
  refine Run.nil ?_
  refine Run.nT ?_
  refine Run.cond rfl (fun hb => ?_) (fun hb => ?_)
  · have hnil : l = [] := List.eq_nil_of_length_eq_zero (by have := of_decide_eq_true hb; omega)
    refine Run.seq ?_
    refine Run.region ?_
    refine Run.op rfl rfl rfl (y_assign rfl) ?_
    refine Run.nil ?_
    refine Run.nT ?_
    refine Run.ret ?_
    refine Run.rT ?_
    refine Run.fin1 rfl rfl rfl (.tmp rfl) (fun _ _ h => ?_)
    rw [show at14 l i = 0 by unfold at14; rw [if_pos hnil]]
    exact h
  · have hnil : l.length ≠ 0 := by have := of_decide_eq_false hb; omega
    have him : i % l.length < l.length := Nat.mod_lt _ (by omega)
    have hx : 0 ≤ l.getD (i % l.length) 0 ∧ l.getD (i % l.length) 0 < 256 := by rw [List.getD_eq_getElem?_getD, List.getElem?_eq_getElem him]; exact hl _ (List.getElem_mem him)
    refine Run.skip ?_
    refine Run.nT ?_
    refine Run.seq ?_
    refine Run.weaken (Incl.same (t := 0) rfl (Incl.same (t := 1) rfl Incl.nil)) ?_
    refine q_draw ?_ rfl
    refine Draw.step rfl rfl rfl (StepOk.op rfl rfl rfl (y_load rfl Tryd.underlying26 rfl)) rfl ?_
    refine Draw.step rfl rfl rfl (StepOk.op rfl rfl rfl (y_move rfl)) rfl ?_
    refine Draw.step rfl rfl rfl (StepOk.op rfl rfl rfl (y_load rfl Tryd.underlying26 rfl)) rfl ?_
    refine Draw.step rfl rfl rfl (StepOk.op rfl rfl rfl (y_lenS rfl Tryd.underlying26)) rfl ?_
    refine Draw.step rfl rfl rfl (StepOk.op rfl rfl rfl (y_rem (r := ((i % l.length : Nat) : Int)) rfl rfl (by omega) (by rw [tmod_of (by omega)]; rfl))) rfl ?_
    refine Draw.step rfl rfl rfl (StepOk.op rfl rfl rfl (q_index (i % l.length) (_) rfl rfl Tryd.underlying26 ti5 (fun _ => rfl) (rfl) (getD_at him))) rfl ?_
    refine Draw.step rfl rfl rfl (StepOk.op rfl rfl rfl (y_load rfl Tryd.underlying5 rfl)) rfl ?_
    refine Draw.step rfl rfl rfl (StepOk.op rfl rfl rfl (y_conv Tryd.underlying5 Tryd.underlying33 rfl (by first | exact wU_in (by omega) | rfl))) rfl ?_
    refine Draw.step rfl rfl rfl (StepOk.op rfl rfl rfl (y_rem rfl rfl (by omega) (by first | exact tmod_of (by omega) | rfl))) rfl ?_
    refine Draw.step rfl rfl rfl (StepOk.op rfl rfl rfl (y_assign rfl)) rfl ?_
    refine Draw.tail (m := 10) rfl rfl rfl ?_
    refine Run.nil ?_
    refine Run.nT ?_
    refine Run.ret ?_
    refine Run.fin1 rfl rfl rfl (.tmp rfl) (fun _ _ h => ?_)
    rw [show at14 l i = l.getD (i % l.length) 0 % 97 by unfold at14; rw [if_neg (fun h => hnil (by rw [h]; rfl))]]
    exact h

theorem weight14_fn (a b c d : Int) (ha_ : 0 ≤ a ∧ a < 97) (hb_ : 0 ≤ b ∧ b < 97) (hc_ : 0 ≤ c ∧ c < 97) (hd_ : 0 ≤ d ∧ d < 97) : Fn s.env 32 [u64 a, u64 b, u64 c, u64 d] (u64 ((c + a + d * b) % 97)) := by
  have hm := mul_lt (p := 97) (by omega) hd_ hb_
  refine Fn.of Tryd.func32 rfl Tryd.ntmps32 rfl ?_
  intro w0 F0
  refine Run.seq ?_
  refine Run.region ?_
  refine Run.op rfl rfl rfl (y_assign rfl) ?_
  refine Run.nil ?_
  refine Run.nT ?_
  refine Run.seq ?_
  refine Run.region ?_
  refine Run.op rfl rfl rfl (y_move rfl) ?_
  refine Run.op rfl rfl rfl (y_move rfl) ?_
  refine Run.op rfl rfl rfl (y_add rfl rfl (by first | exact wU_in (by omega) | rfl)) ?_
  refine Run.op rfl rfl rfl (y_move rfl) ?_
  refine Run.op rfl rfl rfl (y_move rfl) ?_
  refine Run.op rfl rfl rfl (y_mul rfl rfl (by first | exact wU_in (by omega) | rfl)) ?_
  refine Run.op rfl rfl rfl (y_add rfl rfl (by first | exact wU_in (by omega) | rfl)) ?_
  refine Run.op rfl rfl rfl (y_rem rfl rfl (by omega) (by first | exact tmod_of (by omega) | rfl)) ?_
  refine Run.op rfl rfl rfl (y_assign rfl) ?_
  refine Run.nil ?_
  refine Run.nT ?_
  refine Run.ret ?_
  exact Run.fin1 rfl rfl rfl (.tmp rfl) (fun _ _ h => h)

theorem inverse14_fn (a : Int) (ha_ : 0 ≤ a ∧ a < 97) : Fn s.env 78 [u64 a] (u64 (finv 97 a)) := by
  refine Fn.of Tryd.func78 rfl Tryd.ntmps78 rfl ?_
  intro w0 F0
  refine Run.seq ?_
  refine Run.region ?_
  refine Run.op rfl rfl rfl (y_assign rfl) ?_
  refine Run.nil ?_
  refine Run.nT ?_
  refine Run.seq ?_
  refine Run.seq ?_
  refine Run.region ?_
  refine Run.op rfl rfl rfl (y_assign rfl) ?_
  refine Run.nil ?_
  refine Run.nT ?_
  refine Run.block ?_
  refine Run.loopK (ι := Nat) (fun x => (1 ≤ x ∧ x ≤ 97) ∧ ∀ y : Nat, 1 ≤ y → y < x → a * y % 97 ≠ 1) (fun x => 97 - x) (fun x => []) [0] (fun x => [(3, u64 x)]) 1 ⟨by omega, fun y h1 h2 => by omega⟩ rfl (Incl.same (t := 3) rfl (Incl.pick [0])) ?_
  rintro x ⟨hx, hI⟩
  refine Run.seq ?_
  refine Run.seq ?_
  refine Run.region ?_
  refine Run.op rfl rfl rfl (y_move rfl) ?_
  refine Run.op rfl rfl rfl (y_lss rfl rfl) ?_
  refine Run.nil ?_
  refine Run.nT ?_
  refine Run.cond rfl (fun hb => ?_) (fun hb => ?_)
  · have hx97 : x < 97 := by have := of_decide_eq_true hb; omega
    have hm := mul_lt (p := 97) (by omega) ha_ (show 0 ≤ (x : Int) ∧ (x : Int) < 97 by omega)
    refine Run.skip ?_
    refine Run.nT ?_
    refine Run.seq ?_
    refine Run.block ?_
    refine Run.seq ?_
    refine Run.region ?_
    refine Run.op rfl rfl rfl (y_move rfl) ?_
    refine Run.op rfl rfl rfl (y_move rfl) ?_
    refine Run.op rfl rfl rfl (y_mul rfl rfl (by first | exact wU_in (by omega) | rfl)) ?_
    refine Run.op rfl rfl rfl (y_rem rfl rfl (by omega) (by first | exact tmod_of (by omega) | rfl)) ?_
    refine Run.op rfl rfl rfl (y_eql rfl rfl) ?_
    refine Run.nil ?_
    refine Run.nT ?_
    refine Run.cond rfl (fun hb => ?_) (fun hb => ?_)
    · have heq : a * x % 97 = 1 := of_decide_eq_true hb
      refine Run.seq ?_
      refine Run.region ?_
      refine Run.op rfl rfl rfl (y_move rfl) ?_
      refine Run.op rfl rfl rfl (y_assign rfl) ?_
      refine Run.nil ?_
      refine Run.nT ?_
      refine Run.ret ?_
      refine Run.rB ?_
      refine Run.rT ?_
      refine Run.rT ?_
      refine Run.rB ?_
      refine Run.rT ?_
      refine Run.fin1 rfl rfl rfl (.tmp rfl) (fun _ _ h => ?_)
      rw [finv_eq (by omega) (by omega) heq]
      exact h
    · have hne : a * x % 97 ≠ 1 := of_decide_eq_false hb
      refine Run.skip ?_
      refine Run.nB ?_
      refine Run.nT ?_
      refine Run.region ?_
      refine Run.op rfl rfl rfl (y_move rfl) ?_
      refine Run.op rfl rfl rfl (y_add rfl rfl (by first | exact wU_in (by omega) | rfl)) ?_
      refine Run.op rfl rfl rfl (y_assign rfl) ?_
      refine Run.nil ?_
      refine Run.nT ?_
      refine Run.round (x + 1) ?_ ?_ ?_ ?_
      · refine ⟨by omega, fun y h1 h2 => ?_⟩
        by_cases e : y = x
        · subst e; exact hne
        · exact hI y h1 (by omega)
      · show 97 - (x + 1) < 97 - x; omega
      · rfl
      · exact (Incl.int (t := 3) rfl (by omega) (Incl.same (t := 0) rfl Incl.nil))
  · obtain rfl : x = 97 := by have := of_decide_eq_false hb; omega
    refine Run.exit ?_
    refine Run.eT ?_
    refine Run.eT ?_
    refine Run.eB ?_
    refine Run.nT ?_
    refine Run.seq ?_
    refine Run.region ?_
    refine Run.op rfl rfl rfl (y_assign rfl) ?_
    refine Run.nil ?_
    refine Run.nT ?_
    refine Run.ret ?_
    refine Run.fin1 rfl rfl rfl (.tmp rfl) (fun _ _ h => ?_)
    rw [show finv 97 a = 0 by unfold finv someX; rw [dif_neg]; rintro ⟨y, hy1, hy2⟩; have h1 : y ≠ 0 := fun e => (by rw [e] at hy2; simp at hy2); have h2 := hI y.toNat (by omega) (by omega); rw [Int.toNat_of_nonneg hy1.1] at h2; exact h2 hy2]
    exact h

section
variable [hF : HasF s]

theorem aweight_fn (f c d : Int) (hf : fv f = true) (hc : 0 ≤ c) (hd : 0 ≤ d) (vs : List Int) (hv : ∀ x ∈ vs, 0 ≤ x) (hl : vs.length ≤ 1048576) : Fn s.env 31 [i64 f, slc Ku vs, u64 c, u64 d] (u64 (wgt (fP f) vs c d)) := by
  refine Fn.of Tryd.func31 rfl Tryd.ntmps31 rfl ?_
  intro w0 F0
  refine Run.seq ?_
  refine Run.region ?_
  refine Run.op rfl rfl rfl (y_assign rfl) ?_
  refine Run.nil ?_
  refine Run.nT ?_
  refine Run.seq ?_
  refine Run.region ?_
  refine Run.op rfl rfl rfl (y_move rfl) ?_
  refine Run.op rfl rfl rfl (y_move rfl) ?_
  refine Run.op rfl rfl rfl (y_move rfl) ?_
  refine Run.op rfl rfl rfl (y_move rfl) ?_
  refine Run.op rfl rfl rfl (q_call en81 rfl (weight_fn s f c d hf hc hd vs hv hl)) ?_
  refine Run.op rfl rfl rfl (y_assign rfl) ?_
  refine Run.nil ?_
  refine Run.nT ?_
  refine Run.ret ?_
  exact Run.fin1 rfl rfl rfl (.tmp rfl) (fun _ _ h => h)

end

theorem var14_fn (i : Int) : Fn s.env 70 [i64 i] (sagg (Kv (1, i))) := by
  refine Fn.of Tryd.func70 rfl Tryd.ntmps70 rfl ?_
  intro w0 F0
  refine Run.seq ?_
  refine Run.region ?_
  refine q_alloc ti128 rfl rfl ?_
  intro b2
  refine Run.nil ?_
  refine Run.nT ?_
  refine Run.seq ?_
  refine Run.region ?_
  refine Run.op rfl rfl rfl (y_move rfl) ?_
  refine Run.op rfl rfl rfl (q_buildS [(0, 1), (1, 1)] Tryd.underlying128 ti128 rfl (fun w => by simp [run_sizeOf ti126.siz, run_sizeOf ti3.siz]) (.cons rfl (Part.one' rfl) rfl (.cons rfl (Part.one' rfl) rfl .nil))) ?_
  refine Run.storeW 2 rfl rfl rfl ti128.siz rfl ?_
  refine Run.nil ?_
  refine Run.nT ?_
  refine Run.ret ?_
  exact Run.fin1 rfl rfl rfl (.agg 2 rfl rfl Tryd.underlying128 rfl ti128.siz) (fun _ _ h => h)

abbrev Ksys0 (k : Int) (t : List Int) : List Spec := [i64 0, i64 k, i64 6, i64 0, slc Kc [t], sval (.slice none 0 0), slc Kp2 [perm14], slc Klo [look14]]
theorem sys_conv {k : Int} {t : List Int} {F : Foot} {w : World} {v : Value} (h : (sagg (Ksys0 k t)).holds F w v) : (sagg (Ksys k t)).holds F w v := by
  obtain ⟨us, h1, h2⟩ := h
  refine ⟨us, h1, ?_⟩
  match us, h2 with
  | [u0, u1, u2, u3, u4, u5, u6, u7], ⟨c0, c1, c2, c3, c4, c5, c6, c7, _⟩ => exact ⟨c0, c1, c2, c3, c4, ⟨nil_slc c5.1, c5.2⟩, c6, c7, trivial⟩
theorem tr_conv {cs : List (List Int)} {F : Foot} {w : World} {v : Value} (h : (sagg [sval (.slice none 0 0), slc Kc cs]).holds F w v) : (sagg (Ktr cs)).holds F w v := by
  obtain ⟨us, h1, h2⟩ := h
  refine ⟨us, h1, ?_⟩
  match us, h2 with
  | [u0, u1], ⟨c0, c1, _⟩ => exact ⟨⟨nil_slc c0.1, c0.2⟩, c1, trivial⟩
theorem lt_pow {j k : Nat} (h : 2 ^ j < 2 ^ k) : j < k := Nat.lt_of_not_le fun hh => by have := pow2_le hh; omega
theorem ge_pow {j k : Nat} (h : ¬ 2 ^ j < 2 ^ k) : k ≤ j := Nat.le_of_not_lt fun hh => h (Nat.pow_lt_pow_right (by decide) hh)

theorem system14_fn (k : Nat) (hk : 1 ≤ k ∧ k ≤ 3) (x : T7) : Fn s.env 25 [i64 ((2 ^ k : Nat) : Int), sagg (Ktb (2 ^ k) x)] (stup [sagg (Ksys k (rng (2 ^ k) x.t)), sagg (Ktr [rng (2 ^ k) x.a, rng (2 ^ k) x.b, rng (2 ^ k) x.l, rng (2 ^ k) x.r, rng (2 ^ k) x.e, rng (2 ^ k) x.n])]) := by
  have hp8 := pow2_le (k := k) (m := 3) (by omega)
  have hp8 : 2 ^ k ≤ 8 := hp8
  refine Fn.of Tryd.func25 rfl Tryd.ntmps25 rfl ?_
  intro w0 F0
  refine Run.seq ?_
  refine Run.region ?_
  refine Run.boxA rfl rfl ?_
  intro b3
  refine Run.freezeB 3 3 rfl rfl ?_
  refine q_alloc ti66 rfl rfl ?_
  intro b4
  refine q_alloc ti68 rfl rfl ?_
  intro b5
  refine Run.nil ?_
  refine Run.nT ?_
  refine Run.seq ?_
  refine Run.region ?_
  refine Run.op rfl rfl rfl (y_assignF) ?_
  refine Run.nil ?_
  refine Run.nT ?_
  refine Run.seq ?_
  refine Run.region ?_
  refine Run.op rfl rfl rfl (q_buildS [(0, 1), (1, 1)] Tryd.underlying128 ti128 rfl (fun w => by simp [run_sizeOf ti126.siz, run_sizeOf ti3.siz]) (.cons rfl (Part.one' rfl) rfl (.cons rfl (Part.one' rfl) rfl .nil))) ?_
  refine q_alloc ti128 rfl rfl ?_
  intro b7
  refine Run.storeW 7 rfl rfl rfl ti128.siz rfl ?_
  refine Run.freezeB 7 7 rfl rfl ?_
  refine Run.nil ?_
  refine Run.nT ?_
  refine Run.seq ?_
  refine Run.region ?_
  refine Run.op rfl rfl rfl (y_assign rfl) ?_
  refine Run.nil ?_
  refine Run.nT ?_
  refine Run.seq ?_
  refine Run.block ?_
  refine Run.loopK (ι := Nat) (fun j => 1 ≤ j ∧ j ≤ k) (fun j => k - j) (fun j => []) [0, 3, 4, 5, 6, 7] (fun j => [(8, i64 j)]) 1 ⟨by omega, hk.1⟩ rfl (Incl.same (t := 8) rfl (Incl.pick [0, 3, 4, 5, 6, 7])) ?_
  rintro j hj
  refine Run.seq ?_
  refine Run.seq ?_
  refine Run.region ?_
  refine Run.op rfl rfl rfl (y_move rfl) ?_
  refine Run.op rfl rfl rfl (y_shl (r := ((2 ^ j : Nat) : Int)) rfl rfl (by omega) (shl1 (by omega))) ?_
  refine Run.op rfl rfl rfl (y_move rfl) ?_
  refine Run.op rfl rfl rfl (y_lss rfl rfl) ?_
  refine Run.nil ?_
  refine Run.nT ?_
  refine Run.cond rfl (fun hb => ?_) (fun hb => ?_)
  · have hjk : j < k := lt_pow (by have := of_decide_eq_true hb; exact Int.ofNat_lt.1 this)
    refine Run.skip ?_
    refine Run.nT ?_
    refine Run.block ?_
    refine Run.region ?_
    refine Run.op rfl rfl rfl (y_move rfl) ?_
    refine Run.op rfl rfl rfl (y_add rfl rfl (by first | exact wI_in (by omega) | rfl)) ?_
    refine Run.op rfl rfl rfl (y_assign rfl) ?_
    refine Run.nil ?_
    refine Run.nB ?_
    refine Run.nT ?_
    refine Run.round (j + 1) ?_ ?_ ?_ ?_
    · show 1 ≤ j + 1 ∧ j + 1 ≤ k; omega
    · show k - (j + 1) < k - j; omega
    · rfl
    · exact (Incl.int (t := 8) rfl (by omega) (Incl.same (t := 0) rfl (Incl.same (t := 3) rfl (Incl.same (t := 4) rfl (Incl.same (t := 5) rfl (Incl.same (t := 6) rfl (Incl.same (t := 7) rfl Incl.nil)))))))
  · obtain rfl : j = k := by have h1 := ge_pow (j := j) (k := k) (fun h => of_decide_eq_false hb (Int.ofNat_lt.2 h)); omega
    refine Run.exit ?_
    refine Run.eT ?_
    refine Run.eT ?_
    refine Run.eB ?_
    refine Run.nT ?_
    refine Run.seq ?_
    refine Run.region ?_
    refine Run.op rfl rfl rfl (y_move rfl) ?_
    refine Run.op rfl rfl rfl (y_field rfl Tryd.underlying31 rfl ti29.siz rfl) ?_
    refine Run.op rfl rfl rfl (y_load rfl Tryd.underlying29 rfl) ?_
    refine Run.op rfl rfl rfl (q_buildL (K := Kc) ([rng (2 ^ j) x.t]) Tryd.underlying61 ti29 rfl rfl rfl (.cons rfl (Part.one' rfl) rfl .nil) rfl) ?_
    refine Run.op rfl rfl rfl (q_buildS [(0, 1), (1, 1), (2, 1), (3, 1), (4, 1), (5, 1), (6, 1), (7, 1)] Tryd.underlying66 ti66 rfl (fun w => by simp [run_sizeOf ti3.siz, run_sizeOf ti61.siz, run_sizeOf ti62.siz, run_sizeOf ti63.siz, run_sizeOf ti64.siz]) (.cons rfl (Part.one' rfl) rfl (.cons rfl (Part.one' rfl) rfl (.cons rfl (Part.one' rfl) rfl (.cons rfl (Part.one' rfl) rfl .nil))))) ?_
    refine q_alloc ti66 rfl rfl ?_
    intro b9
    refine Run.storeW 9 rfl rfl rfl ti66.siz rfl ?_
    refine Run.nil ?_
    refine Run.nT ?_
    refine Run.seq ?_
    refine Run.region ?_
    refine Run.op rfl rfl rfl (y_move rfl) ?_
    refine Run.op rfl rfl rfl (q_callV en70 rfl rfl (var14_fn s 0)) ?_
    refine Run.op rfl rfl rfl (y_move rfl) ?_
    refine Run.op rfl rfl rfl (q_callV en70 rfl rfl (var14_fn s 1)) ?_
    refine Run.op rfl rfl rfl (q_buildL (K := Kv) ([(1, 0), (1, 1)]) Tryd.underlying130 ti128 rfl rfl rfl (.cons rfl (Part.agg rfl) rfl (.cons rfl (Part.agg rfl) rfl .nil)) rfl) ?_
    refine Run.op rfl rfl rfl (q_buildL (K := Kt) ([[(1, 0), (1, 1)]]) Tryd.underlying131 ti130 rfl rfl rfl (.cons rfl (Part.one' rfl) rfl .nil) rfl) ?_
    refine Run.op rfl rfl rfl (y_move rfl) ?_
    refine Run.op rfl rfl rfl (q_callV en70 rfl rfl (var14_fn s 2)) ?_
    refine Run.op rfl rfl rfl (y_move rfl) ?_
    refine Run.op rfl rfl rfl (q_callV en70 rfl rfl (var14_fn s 3)) ?_
    refine Run.op rfl rfl rfl (q_buildL (K := Kv) ([(1, 2), (1, 3)]) Tryd.underlying130 ti128 rfl rfl rfl (.cons rfl (Part.agg rfl) rfl (.cons rfl (Part.agg rfl) rfl .nil)) rfl) ?_
    refine Run.op rfl rfl rfl (q_buildL (K := Kt) ([[(1, 2), (1, 3)]]) Tryd.underlying131 ti130 rfl rfl rfl (.cons rfl (Part.one' rfl) rfl .nil) rfl) ?_
    refine Run.op rfl rfl rfl (q_buildS [(0, 1), (1, 1)] Tryd.underlying133 ti133 rfl (fun w => by simp [run_sizeOf ti131.siz]) (.cons rfl (Part.one' rfl) rfl (.cons rfl (Part.one' rfl) rfl .nil))) ?_
    refine Run.op rfl rfl rfl (q_buildL (K := Kp2) ([perm14]) Tryd.underlying63 ti133 rfl rfl rfl (.cons rfl (Part.agg rfl) rfl .nil) rfl) ?_
    refine Run.op rfl rfl rfl (y_fieldP rfl Tryd.underlying66 rfl ti63.siz) ?_
    refine q_store1 9 rfl rfl rfl ti63 (Nat.le_of_ble_eq_true rfl) ?_
    refine Run.nil ?_
    refine Run.nT ?_
    refine Run.seq ?_
    refine Run.weaken (Incl.same (t := 8) rfl (Incl.same (t := 0) rfl (Incl.same (t := 3) rfl (Incl.same (t := 4) rfl (Incl.same (t := 5) rfl (Incl.same (t := 6) rfl (Incl.same (t := 7) rfl (Incl.same (t := 9) rfl Incl.nil)))))))) ?_
    refine q_draw ?_ rfl
    refine Draw.step rfl rfl rfl (StepOk.op rfl rfl rfl (y_move rfl)) rfl ?_
    refine Draw.step rfl rfl rfl (StepOk.op rfl rfl rfl (q_callV en70 rfl rfl (var14_fn s 4))) rfl ?_
    refine Draw.step rfl rfl rfl (StepOk.op rfl rfl rfl (q_buildL (K := Kv) ([(1, 4)]) Tryd.underlying130 ti128 rfl rfl rfl (.cons rfl (Part.agg rfl) rfl .nil) rfl)) rfl ?_
    refine Draw.step rfl rfl rfl (StepOk.op rfl rfl rfl (y_loadW rfl Tryd.underlying128 rfl ti128.siz)) rfl ?_
    refine Draw.step rfl rfl rfl (StepOk.op rfl rfl rfl (q_buildL (K := Kv) ([(3, 0)]) Tryd.underlying130 ti128 rfl rfl rfl (.cons rfl (Part.agg rfl) rfl .nil) rfl)) rfl ?_
    refine Draw.step rfl rfl rfl (StepOk.op rfl rfl rfl (y_move rfl)) rfl ?_
    refine Draw.step rfl rfl rfl (StepOk.op rfl rfl rfl (q_callV en70 rfl rfl (var14_fn s 5))) rfl ?_
    refine Draw.step rfl rfl rfl (StepOk.op rfl rfl rfl (q_buildS [(0, 1), (1, 1), (2, 2)] Tryd.underlying135 ti135 rfl (fun w => by simp [run_sizeOf ti128.siz, run_sizeOf ti130.siz]) (.cons rfl (Part.one' rfl) rfl (.cons rfl (Part.one' rfl) rfl (.cons rfl (Part.agg rfl) rfl .nil))))) rfl ?_
    refine Draw.step rfl rfl rfl (StepOk.op rfl rfl rfl (q_buildL (K := Klo) ([look14]) Tryd.underlying64 ti135 rfl rfl rfl (.cons rfl (Part.agg rfl) rfl .nil) rfl)) rfl ?_
    refine Draw.step rfl rfl rfl (StepOk.op rfl rfl rfl (y_fieldP rfl Tryd.underlying66 rfl ti64.siz)) rfl ?_
    refine Draw.tail (m := 10) rfl rfl rfl ?_
    refine q_store1 9 rfl rfl rfl ti64 (Nat.le_of_ble_eq_true rfl) ?_
    refine Run.nil ?_
    refine Run.nT ?_
    refine Run.seq ?_
    refine Run.weaken (Incl.same (t := 8) rfl (Incl.same (t := 0) rfl (Incl.same (t := 3) rfl (Incl.same (t := 4) rfl (Incl.same (t := 5) rfl (Incl.same (t := 6) rfl (Incl.same (t := 7) rfl (Incl.same (t := 9) rfl Incl.nil)))))))) ?_
    refine Run.drawP (β := Value) (fun M gs => match gs with | [] => M | [v9_0] => setM M 4 (.blk b4 66 (Ksys0 j (rng (2 ^ j) x.t))) | _ => M) [⟨15, none, fun v => sval v⟩] rfl rfl ?_
    refine DrawP.step 0 1 rfl rfl rfl (by kernel_rfl) (by kernel_rfl) ⟨(StepOk.op rfl rfl rfl (y_loadPW 9 rfl rfl Tryd.underlying66 rfl ti66.siz)), trivial⟩ rfl rfl ?_
    refine DrawP.step 0 2 rfl rfl rfl (by kernel_rfl) (by kernel_rfl) ⟨(StepOk.op rfl rfl rfl (y_field rfl Tryd.underlying31 rfl ti29.siz rfl)), (fun _ => StepOk.op rfl rfl rfl (y_field rfl Tryd.underlying31 rfl ti29.siz rfl)), trivial⟩ rfl rfl ?_
    refine DrawP.step 0 2 rfl rfl rfl (by kernel_rfl) (by kernel_rfl) ⟨(StepOk.op rfl rfl rfl (y_load rfl Tryd.underlying29 rfl)), (fun _ => StepOk.op rfl rfl rfl (y_load rfl Tryd.underlying29 rfl)), trivial⟩ rfl rfl ?_
    refine DrawP.step 0 2 rfl rfl rfl (by kernel_rfl) (by kernel_rfl) ⟨(StepOk.op rfl rfl rfl (y_field rfl Tryd.underlying31 rfl ti29.siz rfl)), (fun _ => StepOk.op rfl rfl rfl (y_field rfl Tryd.underlying31 rfl ti29.siz rfl)), trivial⟩ rfl rfl ?_
    refine DrawP.step 0 2 rfl rfl rfl (by kernel_rfl) (by kernel_rfl) ⟨(StepOk.op rfl rfl rfl (y_load rfl Tryd.underlying29 rfl)), (fun _ => StepOk.op rfl rfl rfl (y_load rfl Tryd.underlying29 rfl)), trivial⟩ rfl rfl ?_
    refine DrawP.step 0 2 rfl rfl rfl (by kernel_rfl) (by kernel_rfl) ⟨(StepOk.op rfl rfl rfl (y_field rfl Tryd.underlying31 rfl ti29.siz rfl)), (fun _ => StepOk.op rfl rfl rfl (y_field rfl Tryd.underlying31 rfl ti29.siz rfl)), trivial⟩ rfl rfl ?_
    refine DrawP.step 0 2 rfl rfl rfl (by kernel_rfl) (by kernel_rfl) ⟨(StepOk.op rfl rfl rfl (y_load rfl Tryd.underlying29 rfl)), (fun _ => StepOk.op rfl rfl rfl (y_load rfl Tryd.underlying29 rfl)), trivial⟩ rfl rfl ?_
    refine DrawP.step 0 2 rfl rfl rfl (by kernel_rfl) (by kernel_rfl) ⟨(StepOk.op rfl rfl rfl (y_field rfl Tryd.underlying31 rfl ti29.siz rfl)), (fun _ => StepOk.op rfl rfl rfl (y_field rfl Tryd.underlying31 rfl ti29.siz rfl)), trivial⟩ rfl rfl ?_
    refine DrawP.step 0 2 rfl rfl rfl (by kernel_rfl) (by kernel_rfl) ⟨(StepOk.op rfl rfl rfl (y_load rfl Tryd.underlying29 rfl)), (fun _ => StepOk.op rfl rfl rfl (y_load rfl Tryd.underlying29 rfl)), trivial⟩ rfl rfl ?_
    refine DrawP.step 0 2 rfl rfl rfl (by kernel_rfl) (by kernel_rfl) ⟨(StepOk.op rfl rfl rfl (y_field rfl Tryd.underlying31 rfl ti29.siz rfl)), (fun _ => StepOk.op rfl rfl rfl (y_field rfl Tryd.underlying31 rfl ti29.siz rfl)), trivial⟩ rfl rfl ?_
    refine DrawP.step 0 2 rfl rfl rfl (by kernel_rfl) (by kernel_rfl) ⟨(StepOk.op rfl rfl rfl (y_load rfl Tryd.underlying29 rfl)), (fun _ => StepOk.op rfl rfl rfl (y_load rfl Tryd.underlying29 rfl)), trivial⟩ rfl rfl ?_
    refine DrawP.step 0 2 rfl rfl rfl (by kernel_rfl) (by kernel_rfl) ⟨(StepOk.op rfl rfl rfl (y_field rfl Tryd.underlying31 rfl ti29.siz rfl)), (fun _ => StepOk.op rfl rfl rfl (y_field rfl Tryd.underlying31 rfl ti29.siz rfl)), trivial⟩ rfl rfl ?_
    refine DrawP.step 0 2 rfl rfl rfl (by kernel_rfl) (by kernel_rfl) ⟨(StepOk.op rfl rfl rfl (y_load rfl Tryd.underlying29 rfl)), (fun _ => StepOk.op rfl rfl rfl (y_load rfl Tryd.underlying29 rfl)), trivial⟩ rfl rfl ?_
    refine DrawP.step 0 2 rfl rfl rfl (by kernel_rfl) (by kernel_rfl) ⟨(StepOk.op rfl rfl rfl (q_buildL (K := Kc) ([rng (2 ^ j) x.a, rng (2 ^ j) x.b, rng (2 ^ j) x.l, rng (2 ^ j) x.r, rng (2 ^ j) x.e, rng (2 ^ j) x.n]) Tryd.underlying61 ti29 rfl rfl rfl (.cons rfl (Part.one' rfl) rfl (.cons rfl (Part.one' rfl) rfl (.cons rfl (Part.one' rfl) rfl (.cons rfl (Part.one' rfl) rfl (.cons rfl (Part.one' rfl) rfl (.cons rfl (Part.one' rfl) rfl .nil)))))) rfl)), (fun _ => StepOk.op rfl rfl rfl (q_buildL (K := Kc) ([rng (2 ^ j) x.a, rng (2 ^ j) x.b, rng (2 ^ j) x.l, rng (2 ^ j) x.r, rng (2 ^ j) x.e, rng (2 ^ j) x.n]) Tryd.underlying61 ti29 rfl rfl rfl (.cons rfl (Part.one' rfl) rfl (.cons rfl (Part.one' rfl) rfl (.cons rfl (Part.one' rfl) rfl (.cons rfl (Part.one' rfl) rfl (.cons rfl (Part.one' rfl) rfl (.cons rfl (Part.one' rfl) rfl .nil)))))) rfl)), trivial⟩ rfl rfl ?_
    refine DrawP.step 0 2 rfl rfl rfl (by kernel_rfl) (by kernel_rfl) ⟨(StepOk.op rfl rfl rfl (q_buildS [(0, 1), (1, 1)] Tryd.underlying68 ti68 rfl (fun w => by simp [run_sizeOf ti29.siz, run_sizeOf ti61.siz]) (.cons rfl (Part.one' rfl) rfl .nil))), (fun _ => StepOk.op rfl rfl rfl (q_buildS [(0, 1), (1, 1)] Tryd.underlying68 ti68 rfl (fun w => by simp [run_sizeOf ti29.siz, run_sizeOf ti61.siz]) (.cons rfl (Part.one' rfl) rfl .nil))), trivial⟩ rfl rfl ?_
    refine DrawP.skip rfl ?_
    refine DrawP.tail (m := 16) (by kernel_rfl) (by kernel_rfl) rfl rfl ⟨⟨_, rfl, ?_⟩, trivial⟩ ?_
    · intro L' hS K hK
      refine Run.opAt rfl ?_
      refine Run.storeW 4 (hS _ _ rfl) rfl (hS _ _ rfl) ti66.siz rfl ?_
      refine Run.nil ?_
      refine Run.nT ?_
      exact hK (.slice none 0 0)
    · intro v9_0
      refine Run.storeW 5 rfl rfl rfl ti68.siz rfl ?_
      refine Run.nil ?_
      refine Run.nT ?_
      refine Run.ret ?_
      exact Run.fin2 rfl rfl rfl (.agg 4 rfl rfl Tryd.underlying66 rfl ti66.siz) (.agg 5 rfl rfl Tryd.underlying68 rfl ti68.siz) (fun _ _ h => sys_conv h) (fun _ _ h => tr_conv h)

end Go.Vx
