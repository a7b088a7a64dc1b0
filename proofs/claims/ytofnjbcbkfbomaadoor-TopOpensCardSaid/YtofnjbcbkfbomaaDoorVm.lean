/- Walks of the program's functions: the sponge. Conditions: as each says. Printed by a program of our own (wip/tools/gen.py). -/
import Derived.Test.YtofnjbcbkfbomaaDoorVl
namespace Go.Vx
open Go Go.RowKit Go.Proofs
set_option maxRecDepth 100000
variable (s : Seat)

theorem sq_ (b : Int) : b ^ 2 = b * b := by rw [Int.pow_succ, Int.pow_succ, Int.pow_zero, Int.one_mul]
theorem Int.emod_pow_ (x p : Int) (k : Nat) : (x % p) ^ k % p = x ^ k % p := by
  induction k with
  | zero => simp
  | succ k ih => rw [Int.pow_succ, Int.pow_succ, Int.mul_emod, ih, Int.emod_emod_of_dvd _ (Int.dvd_refl p), ← Int.mul_emod]
theorem pow_even {p x b a : Int} {n m : Nat} (h : x * b ^ m % p = pw p a n) (hm : m % 2 = 0) : x * (b * b % p) ^ (m / 2) % p = pw p a n := by
  have e : b ^ m = (b * b) ^ (m / 2) := by rw [← sq_, ← Int.pow_mul]; congr 1; omega
  rw [← h, e, Int.mul_emod, Int.emod_pow_ (b * b) p, ← Int.mul_emod]
theorem pow_odd {p x b a : Int} {n m : Nat} (h : x * b ^ m % p = pw p a n) (hm : m % 2 = 1) : x * b % p * (b * b % p) ^ (m / 2) % p = pw p a n := by
  have e : b ^ m = b * (b * b) ^ (m / 2) := by rw [← sq_, ← Int.pow_mul, Int.mul_comm, ← Int.pow_succ]; congr 1; omega
  rw [← h, e, mod_mul, Int.mul_emod, Int.emod_pow_ (b * b) p, ← Int.mul_emod, Int.mul_assoc]
theorem pow07_fn (p a : Int) (n : Nat) (hp : okp p) (ha : 0 ≤ a ∧ a < p) (hn : (n : Int) < 4294967296) : Fn s.env 69 [u64 p, u64 a, u64 n] (u64 (pw p a n)) := by
  obtain ⟨hp1, hp2⟩ := hp
  refine Fn.of Tryd.func69 rfl Tryd.ntmps69 rfl ?_
  intro w0 F0
  refine Run.seq ?_
  refine Run.region ?_
  refine Run.op rfl rfl rfl (y_assign rfl) ?_
  refine Run.nil ?_
  refine Run.nT ?_
  refine Run.seq ?_
  refine Run.region ?_
  refine Run.op rfl rfl rfl (y_assign rfl) ?_
  refine Run.nil ?_
  refine Run.nT ?_
  refine Run.seq ?_
  refine Run.block ?_
  refine Run.loop (ι := Int × Int × Nat) (fun ⟨x, b, m⟩ => (0 ≤ x ∧ x < p) ∧ (0 ≤ b ∧ b < p) ∧ (m : Int) < 4294967296 ∧ x * b ^ m % p = pw p a n) (fun ⟨x, b, m⟩ => m) (fun ⟨x, b, m⟩ => []) (fun ⟨x, b, m⟩ => [(0, u64 p), (1, u64 b), (2, u64 m), (7, u64 x)]) (1, a, n) ⟨by omega, ha, hn, by unfold pw; rw [Int.one_mul]⟩ rfl (Incl.same (t := 0) rfl (Incl.same (t := 1) rfl (Incl.same (t := 2) rfl (Incl.same (t := 7) rfl Incl.nil)))) ?_
  rintro ⟨x, b, m⟩ ⟨hx, hb0, hm, hI⟩
  change Run _ _ [] [(0, u64 p), (1, u64 b), (2, u64 m), (7, u64 x)] _
  have hxb := mul_lt hp2 hx hb0
  have hbb := mul_lt hp2 hb0 hb0
  have hp3 : (0 : Int) < p := by omega
  have hdiv : ((m / 2 : Nat) : Int) = (m : Int) / 2 := by omega
  refine Run.seq ?_
  refine Run.seq ?_
  refine Run.region ?_
  refine Run.op rfl rfl rfl (y_move rfl) ?_
  refine Run.op rfl rfl rfl (y_gtr rfl rfl) ?_
  refine Run.nil ?_
  refine Run.nT ?_
  refine Run.cond rfl (fun hb => ?_) (fun hb => ?_)
  · have hm0 : (0 : Int) < m := of_decide_eq_true hb
    refine Run.skip ?_
    refine Run.nT ?_
    refine Run.seq ?_
    refine Run.block ?_
    refine Run.seq ?_
    refine Run.seq ?_
    refine Run.region ?_
    refine Run.op rfl rfl rfl (y_move rfl) ?_
    refine Run.op rfl rfl rfl (y_rem rfl rfl (by omega) (by first | exact tmod_of (by omega) | rfl)) ?_
    refine Run.op rfl rfl rfl (y_eql rfl rfl) ?_
    refine Run.nil ?_
    refine Run.nT ?_
    refine Run.cond rfl (fun hb => ?_) (fun hb => ?_)
    · have hodd : (m : Int) % 2 = 1 := of_decide_eq_true hb
      refine Run.region ?_
      refine Run.op rfl rfl rfl (y_move rfl) ?_
      refine Run.op rfl rfl rfl (y_move rfl) ?_
      refine Run.op rfl rfl rfl (y_mul rfl rfl (by first | exact wU_in (by omega) | rfl)) ?_
      refine Run.op rfl rfl rfl (y_move rfl) ?_
      refine Run.op rfl rfl rfl (y_rem rfl rfl (by omega) (by first | exact tmod_of (by omega) | rfl)) ?_
      refine Run.op rfl rfl rfl (y_assign rfl) ?_
      refine Run.nil ?_
      refine Run.nT ?_
      refine Run.region ?_
      refine Run.op rfl rfl rfl (y_move rfl) ?_
      refine Run.op rfl rfl rfl (y_move rfl) ?_
      refine Run.op rfl rfl rfl (y_mul rfl rfl (by first | exact wU_in (by omega) | rfl)) ?_
      refine Run.op rfl rfl rfl (y_move rfl) ?_
      refine Run.op rfl rfl rfl (y_rem rfl rfl (by omega) (by first | exact tmod_of (by omega) | rfl)) ?_
      refine Run.op rfl rfl rfl (y_assign rfl) ?_
      refine Run.nil ?_
      refine Run.nB ?_
      refine Run.nT ?_
      refine Run.region ?_
      refine Run.op rfl rfl rfl (y_move rfl) ?_
      refine Run.op rfl rfl rfl (y_quo rfl rfl (by omega) (by first | exact wU_tdiv (by omega) (by omega) | rfl)) ?_
      refine Run.op rfl rfl rfl (y_assign rfl) ?_
      refine Run.nil ?_
      refine Run.nT ?_
      refine Run.round (x * b % p, b * b % p, m / 2) ?_ ?_ ?_ ?_
      · exact ⟨em_lt hp3 _, em_lt hp3 _, by omega, pow_odd hI (by omega)⟩
      · show m / 2 < m; omega
      · rfl
      · exact (Incl.same (t := 0) rfl (Incl.same (t := 1) rfl (Incl.int (t := 2) rfl (by omega) (Incl.same (t := 7) rfl Incl.nil))))
    · have hodd : ¬ (m : Int) % 2 = 1 := of_decide_eq_false hb
      refine Run.skip ?_
      refine Run.nT ?_
      refine Run.region ?_
      refine Run.op rfl rfl rfl (y_move rfl) ?_
      refine Run.op rfl rfl rfl (y_move rfl) ?_
      refine Run.op rfl rfl rfl (y_mul rfl rfl (by first | exact wU_in (by omega) | rfl)) ?_
      refine Run.op rfl rfl rfl (y_move rfl) ?_
      refine Run.op rfl rfl rfl (y_rem rfl rfl (by omega) (by first | exact tmod_of (by omega) | rfl)) ?_
      refine Run.op rfl rfl rfl (y_assign rfl) ?_
      refine Run.nil ?_
      refine Run.nB ?_
      refine Run.nT ?_
      refine Run.region ?_
      refine Run.op rfl rfl rfl (y_move rfl) ?_
      refine Run.op rfl rfl rfl (y_quo rfl rfl (by omega) (by first | exact wU_tdiv (by omega) (by omega) | rfl)) ?_
      refine Run.op rfl rfl rfl (y_assign rfl) ?_
      refine Run.nil ?_
      refine Run.nT ?_
      refine Run.round (x, b * b % p, m / 2) ?_ ?_ ?_ ?_
      · exact ⟨hx, em_lt hp3 _, by omega, pow_even hI (by omega)⟩
      · show m / 2 < m; omega
      · rfl
      · exact (Incl.same (t := 0) rfl (Incl.same (t := 1) rfl (Incl.int (t := 2) rfl (by omega) (Incl.same (t := 7) rfl Incl.nil))))
  · have hm0 : ¬ (0 : Int) < m := of_decide_eq_false hb
    refine Run.exit ?_
    refine Run.eT ?_
    refine Run.eT ?_
    refine Run.eB ?_
    refine Run.nT ?_
    refine Run.seq ?_
    refine Run.region ?_
    refine Run.op rfl rfl rfl (y_move rfl) ?_
    refine Run.op rfl rfl rfl (y_assign rfl) ?_
    refine Run.nil ?_
    refine Run.nT ?_
    refine Run.ret ?_
    refine Run.fin1 rfl rfl rfl (.tmp rfl) (fun _ _ h => ?_)
    obtain rfl : m = 0 := by omega
    rw [← hI, Int.pow_zero, Int.mul_one, Int.emod_eq_of_lt hx.1 hx.2]
    exact h

section
variable [hF : HasF s]

theorem in_fn (f : Int) : Fn s.env 114 [i64 f] (sagg (Km (fP f) (fG f) (f5 f))) := by
  refine Fn.of Tryd.func114 rfl Tryd.ntmps114 rfl ?_
  intro w0 F0
  refine Run.seq ?_
  refine Run.region ?_
  refine q_alloc ti181 rfl rfl ?_
  intro b2
  refine Run.nil ?_
  refine Run.nT ?_
  refine Run.seq ?_
  refine Run.region ?_
  refine Run.op rfl rfl rfl (y_move rfl) ?_
  refine Run.op rfl rfl rfl (q_call en109 rfl (P_fn s _)) ?_
  refine Run.op rfl rfl rfl (y_move rfl) ?_
  refine Run.op rfl rfl rfl (q_call en155 rfl (Gen_fn s _)) ?_
  refine Run.op rfl rfl rfl (y_move rfl) ?_
  refine Run.op rfl rfl rfl (q_call en156 rfl (Exp_fn s _)) ?_
  refine Run.op rfl rfl rfl (y_eql rfl rfl) ?_
  refine Run.op rfl rfl rfl (q_buildS [(0, 1), (1, 1), (2, 1)] Tryd.underlying181 ti181 rfl (fun w => by simp [run_sizeOf ti33.siz, run_sizeOf ti4.siz]) (.cons rfl (Part.one' rfl) rfl (.cons rfl (Part.one' rfl) rfl (.cons rfl (Part.one' rfl) rfl .nil)))) ?_
  refine Run.storeW 2 rfl rfl rfl ti181.siz rfl ?_
  refine Run.nil ?_
  refine Run.nT ?_
  refine Run.ret ?_
  exact Run.fin1 rfl rfl rfl (.agg 2 rfl rfl Tryd.underlying181 rfl ti181.siz) (fun _ _ h => h)

end

theorem power_fn (p g : Int) (five : Bool) (hp : okp p) (_hg : 0 ≤ g ∧ g < p) (x : Int) (hx : 0 ≤ x ∧ x < p) : Fn s.env 177 [sagg (Km p g five), u64 x] (u64 (pw p x (ex five))) := by
  obtain ⟨hp1, hp2⟩ := hp
  have hp3 : (0 : Int) < p := by omega
  have hxx := mul_lt hp2 hx hx
  have hy := em_lt hp3 (x * x)
  have hyy := mul_lt hp2 hy hy
  have hz := em_lt hp3 (x * x % p * (x * x % p))
  have hzx := mul_lt hp2 hz hx
  have hyx := mul_lt hp2 hy hx
  refine Fn.of Tryd.func177 rfl Tryd.ntmps177 rfl ?_
  intro w0 F0
  refine Run.seq ?_
  refine Run.region ?_
  refine Run.boxA rfl rfl ?_
  intro b2
  refine Run.op rfl rfl rfl (y_assign rfl) ?_
  refine Run.nil ?_
  refine Run.nT ?_
  refine Run.seq ?_
  refine Run.region ?_
  refine Run.op rfl rfl rfl (y_move rfl) ?_
  refine Run.op rfl rfl rfl (y_move rfl) ?_
  refine Run.op rfl rfl rfl (y_mul rfl rfl (by first | exact wU_in (by omega) | rfl)) ?_
  refine Run.op rfl rfl rfl (y_fieldP rfl Tryd.underlying181 rfl ti33.siz) ?_
  refine Run.op rfl rfl rfl (y_loadP 2 rfl rfl (rfl) Tryd.underlying33 rfl) ?_
  refine Run.op rfl rfl rfl (y_rem rfl rfl (by omega) (by first | exact tmod_of (by omega) | rfl)) ?_
  refine Run.op rfl rfl rfl (y_assign rfl) ?_
  refine Run.nil ?_
  refine Run.nT ?_
  refine Run.seq ?_
  refine Run.seq ?_
  refine Run.region ?_
  refine Run.op rfl rfl rfl (y_fieldP rfl Tryd.underlying181 rfl ti4.siz) ?_
  refine Run.op rfl rfl rfl (y_loadP 2 rfl rfl (rfl) Tryd.underlying4 rfl) ?_
  refine Run.nil ?_
  refine Run.nT ?_
  refine Run.cond rfl (fun hb => ?_) (fun hb => ?_)
  · subst hb
    refine Run.region ?_
    refine Run.op rfl rfl rfl (y_move rfl) ?_
    refine Run.op rfl rfl rfl (y_move rfl) ?_
    refine Run.op rfl rfl rfl (y_mul rfl rfl (by first | exact wU_in (by omega) | rfl)) ?_
    refine Run.op rfl rfl rfl (y_fieldP rfl Tryd.underlying181 rfl ti33.siz) ?_
    refine Run.op rfl rfl rfl (y_loadP 2 rfl rfl (rfl) Tryd.underlying33 rfl) ?_
    refine Run.op rfl rfl rfl (y_rem rfl rfl (by omega) (by first | exact tmod_of (by omega) | rfl)) ?_
    refine Run.op rfl rfl rfl (y_assign rfl) ?_
    refine Run.nil ?_
    refine Run.nT ?_
    refine Run.seq ?_
    refine Run.region ?_
    refine Run.op rfl rfl rfl (y_move rfl) ?_
    refine Run.op rfl rfl rfl (y_move rfl) ?_
    refine Run.op rfl rfl rfl (y_mul rfl rfl (by first | exact wU_in (by omega) | rfl)) ?_
    refine Run.op rfl rfl rfl (y_fieldP rfl Tryd.underlying181 rfl ti33.siz) ?_
    refine Run.op rfl rfl rfl (y_loadP 2 rfl rfl (rfl) Tryd.underlying33 rfl) ?_
    refine Run.op rfl rfl rfl (y_rem rfl rfl (by omega) (by first | exact tmod_of (by omega) | rfl)) ?_
    refine Run.op rfl rfl rfl (y_assign rfl) ?_
    refine Run.nil ?_
    refine Run.nT ?_
    refine Run.ret ?_
    exact Run.fin1 rfl rfl rfl (.tmp rfl) (fun _ _ h => by rw [show pw p x (ex true) = _ from pow5.symm]; exact h)
  · subst hb
    refine Run.skip ?_
    refine Run.nT ?_
    refine Run.seq ?_
    refine Run.region ?_
    refine Run.op rfl rfl rfl (y_move rfl) ?_
    refine Run.op rfl rfl rfl (y_move rfl) ?_
    refine Run.op rfl rfl rfl (y_mul rfl rfl (by first | exact wU_in (by omega) | rfl)) ?_
    refine Run.op rfl rfl rfl (y_fieldP rfl Tryd.underlying181 rfl ti33.siz) ?_
    refine Run.op rfl rfl rfl (y_loadP 2 rfl rfl (rfl) Tryd.underlying33 rfl) ?_
    refine Run.op rfl rfl rfl (y_rem rfl rfl (by omega) (by first | exact tmod_of (by omega) | rfl)) ?_
    refine Run.op rfl rfl rfl (y_assign rfl) ?_
    refine Run.nil ?_
    refine Run.nT ?_
    refine Run.ret ?_
    exact Run.fin1 rfl rfl rfl (.tmp rfl) (fun _ _ h => by rw [show pw p x (ex false) = _ from pow3.symm]; exact h)

theorem pow_one_ (g : Int) : g ^ 1 = g := by rw [Int.pow_succ, Int.pow_zero, Int.one_mul]
theorem rnd_step {l : List Int} {st : Q4} {p g : Int} {q n j : Nat} (hl : l.length = 4) (hI : ∀ i, i < 4 → l.getD i 0 = if i < j then cel p g q n i ((q4 st).getD i 0) else (q4 st).getD i 0) {i : Nat} (hi : i < 4) (hj : j < 4) :
    (l.set j (cel p g q n j (l.getD j 0))).getD i 0 = if i < j + 1 then cel p g q n i ((q4 st).getD i 0) else (q4 st).getD i 0 := by
  by_cases e : i = j
  · subst e
    rw [if_pos (by omega), List.getD_eq_getElem?_getD, List.getElem?_set_self (by omega), hI i hi, if_neg (by omega)]; rfl
  · rw [List.getD_eq_getElem?_getD, List.getElem?_set_ne (fun h => e h.symm), ← List.getD_eq_getElem?_getD, hI i hi]
    by_cases h : i < j
    · rw [if_pos h, if_pos (by omega)]
    · rw [if_neg h, if_neg (by omega)]
theorem round_fn (p g : Int) (five : Bool) (hp : okp p) (hg : 0 ≤ g ∧ g < p) (n : Nat) (st : Q4) (hs : in4 p st) : Fn s.env 157 [sagg (Km p g five), u64 (pw p g (4 * n)), sagg (us (q4 st))] (stup [u64 (pw p g (4 * n + 4)), sagg (us (q4 (rnd p g (ex five) n st)))]) := by
  obtain ⟨hp1, hp2⟩ := hp
  have hp3 : (0 : Int) < p := by omega
  refine Fn.of Tryd.func157 rfl Tryd.ntmps157 rfl ?_
  intro w0 F0
  refine Run.seq ?_
  refine Run.region ?_
  refine Run.boxA rfl rfl ?_
  intro b3
  refine Run.boxA rfl rfl ?_
  intro b5
  refine Run.op rfl rfl rfl (y_assign rfl) ?_
  refine q_alloc ti125 rfl rfl ?_
  intro b7
  refine Run.nil ?_
  refine Run.nT ?_
  refine Run.seq ?_
  refine Run.seq ?_
  refine Run.region ?_
  refine Run.op rfl rfl rfl (y_move rfl) ?_
  refine Run.nil ?_
  refine Run.nT ?_
  refine Run.block ?_
  refine Run.loop (ι := Nat × List Int) (fun ⟨j, l⟩ => j ≤ 4 ∧ l.length = 4 ∧ ∀ i, i < 4 → l.getD i 0 = if i < j then cel p g (ex five) n i ((q4 st).getD i 0) else (q4 st).getD i 0) (fun ⟨j, l⟩ => 4 - j) (fun ⟨j, l⟩ => [(7, .blk b7 125 (zeros (.agg #[.int .u64 0, .int .u64 0, .int .u64 0, .int .u64 0]))), (5, .blk b5 125 (us l)), (3, .blk b3 181 (Km p g five))]) (fun ⟨j, l⟩ => [(1, u64 (pw p g (4 * n + j))), (3, sval (.pointer (some ⟨b3, 0, none⟩))), (5, sval (.pointer (some ⟨b5, 0, none⟩))), (7, sval (.pointer (some ⟨b7, 0, none⟩))), (10, i64 j)]) (0, q4 st) ⟨by omega, rfl, fun i hi => by simp⟩ rfl (Incl.same (t := 1) rfl (Incl.same (t := 3) rfl (Incl.same (t := 5) rfl (Incl.same (t := 7) rfl (Incl.same (t := 10) rfl Incl.nil))))) ?_
  rintro ⟨j, l⟩ ⟨hj, hl, hI⟩
  change Run _ _ [(7, .blk b7 125 (zeros (.agg #[.int .u64 0, .int .u64 0, .int .u64 0, .int .u64 0]))), (5, .blk b5 125 (us l)), (3, .blk b3 181 (Km p g five))] [(1, u64 (pw p g (4 * n + j))), (3, sval (.pointer (some ⟨b3, 0, none⟩))), (5, sval (.pointer (some ⟨b5, 0, none⟩))), (7, sval (.pointer (some ⟨b7, 0, none⟩))), (10, i64 j)] _
  refine Run.seq ?_
  refine Run.region ?_
  refine Run.op rfl rfl rfl (y_lss rfl rfl) ?_
  refine Run.nil ?_
  refine Run.nT ?_
  refine Run.seq ?_
  refine Run.cond rfl (fun hb => ?_) (fun hb => ?_)
  · have hj4 : j < 4 := by have := of_decide_eq_true hb; omega
    have hlj : l.getD j 0 = (q4 st).getD j 0 := by rw [hI j hj4, if_neg (by omega)]
    have hx := in4_get hs hj4
    rw [← hlj] at hx
    have hk := pw_lt hp3 g (4 * n + j)
    have hk1 := pw_lt hp3 g (4 * n + j + 1)
    have hkg := mul_lt hp2 hk hg
    refine Run.skip ?_
    refine Run.nT ?_
    refine Run.seq ?_
    refine Run.block ?_
    refine Run.seq ?_
    refine Run.region ?_
    refine Run.op rfl rfl rfl (y_move rfl) ?_
    refine Run.op rfl rfl rfl (y_assign rfl) ?_
    refine Run.nil ?_
    refine Run.nT ?_
    refine Run.seq ?_
    refine Run.region ?_
    refine Run.op rfl rfl rfl (y_move rfl) ?_
    refine Run.op rfl rfl rfl (y_fieldP rfl Tryd.underlying181 rfl ti33.siz) ?_
    refine Run.op rfl rfl rfl (y_loadP 3 rfl rfl (rfl) Tryd.underlying33 rfl) ?_
    refine Run.op rfl rfl rfl (y_mul rfl rfl (by first | exact wU_in (by omega) | rfl)) ?_
    refine Run.op rfl rfl rfl (y_fieldP rfl Tryd.underlying181 rfl ti33.siz) ?_
    refine Run.op rfl rfl rfl (y_loadP 3 rfl rfl (rfl) Tryd.underlying33 rfl) ?_
    refine Run.op rfl rfl rfl (y_rem (r := pw p g (4 * n + j + 1)) rfl rfl (by omega) (by rw [tmod_of (by omega)]; exact pw_mul p g g (4 * n + j) 1 (pow_one_ g).symm)) ?_
    refine Run.op rfl rfl rfl (y_assign rfl) ?_
    refine Run.nil ?_
    refine Run.nT ?_
    refine Run.weaken (Incl.same (t := 1) rfl (Incl.same (t := 3) rfl (Incl.same (t := 5) rfl (Incl.same (t := 7) rfl (Incl.same (t := 10) rfl (Incl.same (t := 8) rfl Incl.nil)))))) ?_
    refine q_draw ?_ rfl
    refine Draw.step rfl rfl rfl (StepOk.op rfl rfl rfl (y_move rfl)) rfl ?_
    refine Draw.step rfl rfl rfl (StepOk.op rfl rfl rfl (y_loadPW 3 rfl rfl Tryd.underlying181 rfl ti181.siz)) rfl ?_
    refine Draw.step rfl rfl rfl (StepOk.op rfl rfl rfl (y_move rfl)) rfl ?_
    refine Draw.step rfl rfl rfl (StepOk.op rfl rfl rfl (y_indexP j rfl rfl Tryd.underlying125 ti33.siz (rfl) (hj4))) rfl ?_
    refine Draw.step rfl rfl rfl (StepOk.op rfl rfl rfl (y_loadP 5 rfl rfl (us_get (by omega)) Tryd.underlying33 rfl)) rfl ?_
    refine Draw.step rfl rfl rfl (StepOk.op rfl rfl rfl (y_move rfl)) rfl ?_
    refine Draw.step rfl rfl rfl (StepOk.op rfl rfl rfl (y_add rfl rfl (by first | exact wU_in (by omega) | rfl))) rfl ?_
    refine Draw.step rfl rfl rfl (StepOk.op rfl rfl rfl (y_add rfl rfl (by first | exact wU_in (by omega) | rfl))) rfl ?_
    refine Draw.step rfl rfl rfl (StepOk.op rfl rfl rfl (y_fieldP rfl Tryd.underlying181 rfl ti33.siz)) rfl ?_
    refine Draw.step rfl rfl rfl (StepOk.op rfl rfl rfl (y_loadP 3 rfl rfl (rfl) Tryd.underlying33 rfl)) rfl ?_
    refine Draw.step rfl rfl rfl (StepOk.op rfl rfl rfl (y_rem rfl rfl (by omega) (by first | exact tmod_of (by omega) | rfl))) rfl ?_
    refine Draw.step rfl rfl rfl (StepOk.op rfl rfl rfl (q_call en177 rfl (power_fn s p g five ⟨hp1, hp2⟩ hg _ (em_lt hp3 _)))) rfl ?_
    refine Draw.step rfl rfl rfl (StepOk.op rfl rfl rfl (y_indexP j rfl rfl Tryd.underlying125 ti33.siz (rfl) (hj4))) rfl ?_
    refine Draw.tail (m := 13) rfl rfl rfl ?_
    refine q_store1 5 rfl rfl rfl ti33 (us_len hl hj4) ?_
    refine Run.nil ?_
    refine Run.nB ?_
    refine Run.nT ?_
    refine Run.region ?_
    refine Run.op rfl rfl rfl (y_add rfl rfl (by first | exact wI_in (by omega) | rfl)) ?_
    refine Run.op rfl rfl rfl (y_move rfl) ?_
    refine Run.nil ?_
    refine Run.nT ?_
    refine Run.round (j + 1, l.set j (cel p g (ex five) n j (l.getD j 0))) ?_ ?_ ?_ ?_
    · refine ⟨by omega, by simp [hl], fun i hi => ?_⟩
      exact rnd_step hl hI hi hj4
    · show 4 - (j + 1) < 4 - j; omega
    · show [(7, _), (5, Ent.blk b5 125 (us (l.set j _))), (3, _)] = _
      rw [← us_set]; rfl
    · exact (Incl.same (t := 1) rfl (Incl.same (t := 3) rfl (Incl.same (t := 5) rfl (Incl.same (t := 7) rfl (Incl.int (t := 10) rfl (by omega) Incl.nil)))))
  · obtain rfl : j = 4 := by have := of_decide_eq_false hb; omega
    obtain ⟨a, b, c, d, rfl⟩ := len4 hl
    obtain rfl : a = cel p g (ex five) n 0 st.1 := by simpa using hI 0 (by omega)
    obtain rfl : b = cel p g (ex five) n 1 st.2.1 := by simpa using hI 1 (by omega)
    obtain rfl : c = cel p g (ex five) n 2 st.2.2.1 := by simpa using hI 2 (by omega)
    obtain rfl : d = cel p g (ex five) n 3 st.2.2.2 := by simpa using hI 3 (by omega)
    have c0 : 0 ≤ cel p g (ex five) n 0 st.1 ∧ cel p g (ex five) n 0 st.1 < p := pw_lt hp3 _ _
    have c1 : 0 ≤ cel p g (ex five) n 1 st.2.1 ∧ cel p g (ex five) n 1 st.2.1 < p := pw_lt hp3 _ _
    have c2 : 0 ≤ cel p g (ex five) n 2 st.2.2.1 ∧ cel p g (ex five) n 2 st.2.2.1 < p := pw_lt hp3 _ _
    have c3 : 0 ≤ cel p g (ex five) n 3 st.2.2.2 ∧ cel p g (ex five) n 3 st.2.2.2 < p := pw_lt hp3 _ _
    refine Run.exit ?_
    refine Run.eT ?_
    refine Run.eT ?_
    refine Run.eB ?_
    refine Run.nT ?_
    refine Run.seq ?_
    refine Run.region ?_
    refine Run.op rfl rfl rfl (y_indexP 0 rfl rfl Tryd.underlying125 ti33.siz rfl (by decide)) ?_
    refine Run.op rfl rfl rfl (y_loadP 5 rfl rfl (rfl) Tryd.underlying33 rfl) ?_
    refine Run.op rfl rfl rfl (y_indexP 1 rfl rfl Tryd.underlying125 ti33.siz rfl (by decide)) ?_
    refine Run.op rfl rfl rfl (y_loadP 5 rfl rfl (rfl) Tryd.underlying33 rfl) ?_
    refine Run.op rfl rfl rfl (y_add rfl rfl (by first | exact wU_in (by omega) | rfl)) ?_
    refine Run.op rfl rfl rfl (y_indexP 2 rfl rfl Tryd.underlying125 ti33.siz rfl (by decide)) ?_
    refine Run.op rfl rfl rfl (y_loadP 5 rfl rfl (rfl) Tryd.underlying33 rfl) ?_
    refine Run.op rfl rfl rfl (y_add rfl rfl (by first | exact wU_in (by omega) | rfl)) ?_
    refine Run.op rfl rfl rfl (y_indexP 3 rfl rfl Tryd.underlying125 ti33.siz rfl (by decide)) ?_
    refine Run.op rfl rfl rfl (y_loadP 5 rfl rfl (rfl) Tryd.underlying33 rfl) ?_
    refine Run.op rfl rfl rfl (y_add rfl rfl (by first | exact wU_in (by omega) | rfl)) ?_
    refine Run.op rfl rfl rfl (y_assign rfl) ?_
    refine Run.nil ?_
    refine Run.nT ?_
    refine Run.seq ?_
    refine Run.weaken (Incl.same (t := 1) rfl (Incl.same (t := 3) rfl (Incl.same (t := 5) rfl (Incl.same (t := 7) rfl (Incl.same (t := 10) rfl (Incl.same (t := 9) rfl Incl.nil)))))) ?_
    refine q_draw ?_ rfl
    refine Draw.step rfl rfl rfl (StepOk.op rfl rfl rfl (y_move rfl)) rfl ?_
    refine Draw.step rfl rfl rfl (StepOk.op rfl rfl rfl (y_move rfl)) rfl ?_
    refine Draw.step rfl rfl rfl (StepOk.op rfl rfl rfl (y_indexP 0 rfl rfl Tryd.underlying125 ti33.siz rfl (by decide))) rfl ?_
    refine Draw.step rfl rfl rfl (StepOk.op rfl rfl rfl (y_loadP 5 rfl rfl (rfl) Tryd.underlying33 rfl)) rfl ?_
    refine Draw.step rfl rfl rfl (StepOk.op rfl rfl rfl (y_add rfl rfl (by first | exact wU_in (by omega) | rfl))) rfl ?_
    refine Draw.step rfl rfl rfl (StepOk.op rfl rfl rfl (y_indexP 1 rfl rfl Tryd.underlying125 ti33.siz rfl (by decide))) rfl ?_
    refine Draw.step rfl rfl rfl (StepOk.op rfl rfl rfl (y_loadP 5 rfl rfl (rfl) Tryd.underlying33 rfl)) rfl ?_
    refine Draw.step rfl rfl rfl (StepOk.op rfl rfl rfl (y_mul rfl rfl (by first | exact wU_in (by omega) | rfl))) rfl ?_
    refine Draw.step rfl rfl rfl (StepOk.op rfl rfl rfl (y_add rfl rfl (by first | exact wU_in (by omega) | rfl))) rfl ?_
    refine Draw.step rfl rfl rfl (StepOk.op rfl rfl rfl (y_fieldP rfl Tryd.underlying181 rfl ti33.siz)) rfl ?_
    refine Draw.step rfl rfl rfl (StepOk.op rfl rfl rfl (y_loadP 3 rfl rfl (rfl) Tryd.underlying33 rfl)) rfl ?_
    refine Draw.step rfl rfl rfl (StepOk.op rfl rfl rfl (y_rem rfl rfl (by omega) (by first | exact tmod_of (by omega) | rfl))) rfl ?_
    refine Draw.step rfl rfl rfl (StepOk.op rfl rfl rfl (y_move rfl)) rfl ?_
    refine Draw.step rfl rfl rfl (StepOk.op rfl rfl rfl (y_indexP 1 rfl rfl Tryd.underlying125 ti33.siz rfl (by decide))) rfl ?_
    refine Draw.step rfl rfl rfl (StepOk.op rfl rfl rfl (y_loadP 5 rfl rfl (rfl) Tryd.underlying33 rfl)) rfl ?_
    refine Draw.step rfl rfl rfl (StepOk.op rfl rfl rfl (y_add rfl rfl (by first | exact wU_in (by omega) | rfl))) rfl ?_
    refine Draw.step rfl rfl rfl (StepOk.op rfl rfl rfl (y_indexP 2 rfl rfl Tryd.underlying125 ti33.siz rfl (by decide))) rfl ?_
    refine Draw.step rfl rfl rfl (StepOk.op rfl rfl rfl (y_loadP 5 rfl rfl (rfl) Tryd.underlying33 rfl)) rfl ?_
    refine Draw.step rfl rfl rfl (StepOk.op rfl rfl rfl (y_mul rfl rfl (by first | exact wU_in (by omega) | rfl))) rfl ?_
    refine Draw.step rfl rfl rfl (StepOk.op rfl rfl rfl (y_add rfl rfl (by first | exact wU_in (by omega) | rfl))) rfl ?_
    refine Draw.step rfl rfl rfl (StepOk.op rfl rfl rfl (y_fieldP rfl Tryd.underlying181 rfl ti33.siz)) rfl ?_
    refine Draw.step rfl rfl rfl (StepOk.op rfl rfl rfl (y_loadP 3 rfl rfl (rfl) Tryd.underlying33 rfl)) rfl ?_
    refine Draw.step rfl rfl rfl (StepOk.op rfl rfl rfl (y_rem rfl rfl (by omega) (by first | exact tmod_of (by omega) | rfl))) rfl ?_
    refine Draw.step rfl rfl rfl (StepOk.op rfl rfl rfl (y_move rfl)) rfl ?_
    refine Draw.step rfl rfl rfl (StepOk.op rfl rfl rfl (y_indexP 2 rfl rfl Tryd.underlying125 ti33.siz rfl (by decide))) rfl ?_
    refine Draw.step rfl rfl rfl (StepOk.op rfl rfl rfl (y_loadP 5 rfl rfl (rfl) Tryd.underlying33 rfl)) rfl ?_
    refine Draw.step rfl rfl rfl (StepOk.op rfl rfl rfl (y_add rfl rfl (by first | exact wU_in (by omega) | rfl))) rfl ?_
    refine Draw.step rfl rfl rfl (StepOk.op rfl rfl rfl (y_indexP 3 rfl rfl Tryd.underlying125 ti33.siz rfl (by decide))) rfl ?_
    refine Draw.step rfl rfl rfl (StepOk.op rfl rfl rfl (y_loadP 5 rfl rfl (rfl) Tryd.underlying33 rfl)) rfl ?_
    refine Draw.step rfl rfl rfl (StepOk.op rfl rfl rfl (y_mul rfl rfl (by first | exact wU_in (by omega) | rfl))) rfl ?_
    refine Draw.step rfl rfl rfl (StepOk.op rfl rfl rfl (y_add rfl rfl (by first | exact wU_in (by omega) | rfl))) rfl ?_
    refine Draw.step rfl rfl rfl (StepOk.op rfl rfl rfl (y_fieldP rfl Tryd.underlying181 rfl ti33.siz)) rfl ?_
    refine Draw.step rfl rfl rfl (StepOk.op rfl rfl rfl (y_loadP 3 rfl rfl (rfl) Tryd.underlying33 rfl)) rfl ?_
    refine Draw.step rfl rfl rfl (StepOk.op rfl rfl rfl (y_rem rfl rfl (by omega) (by first | exact tmod_of (by omega) | rfl))) rfl ?_
    refine Draw.step rfl rfl rfl (StepOk.op rfl rfl rfl (y_move rfl)) rfl ?_
    refine Draw.step rfl rfl rfl (StepOk.op rfl rfl rfl (y_indexP 3 rfl rfl Tryd.underlying125 ti33.siz rfl (by decide))) rfl ?_
    refine Draw.step rfl rfl rfl (StepOk.op rfl rfl rfl (y_loadP 5 rfl rfl (rfl) Tryd.underlying33 rfl)) rfl ?_
    refine Draw.step rfl rfl rfl (StepOk.op rfl rfl rfl (y_add rfl rfl (by first | exact wU_in (by omega) | rfl))) rfl ?_
    refine Draw.step rfl rfl rfl (StepOk.op rfl rfl rfl (y_indexP 0 rfl rfl Tryd.underlying125 ti33.siz rfl (by decide))) rfl ?_
    refine Draw.step rfl rfl rfl (StepOk.op rfl rfl rfl (y_loadP 5 rfl rfl (rfl) Tryd.underlying33 rfl)) rfl ?_
    refine Draw.step rfl rfl rfl (StepOk.op rfl rfl rfl (y_mul rfl rfl (by first | exact wU_in (by omega) | rfl))) rfl ?_
    refine Draw.step rfl rfl rfl (StepOk.op rfl rfl rfl (y_add rfl rfl (by first | exact wU_in (by omega) | rfl))) rfl ?_
    refine Draw.step rfl rfl rfl (StepOk.op rfl rfl rfl (y_fieldP rfl Tryd.underlying181 rfl ti33.siz)) rfl ?_
    refine Draw.step rfl rfl rfl (StepOk.op rfl rfl rfl (y_loadP 3 rfl rfl (rfl) Tryd.underlying33 rfl)) rfl ?_
    refine Draw.step rfl rfl rfl (StepOk.op rfl rfl rfl (y_rem rfl rfl (by omega) (by first | exact tmod_of (by omega) | rfl))) rfl ?_
    refine Draw.step rfl rfl rfl (StepOk.op rfl rfl rfl (q_buildA Tryd.underlying125 ti125 rfl ti33 (.cons rfl (Part.one' rfl) rfl (.cons rfl (Part.one' rfl) rfl (.cons rfl (Part.one' rfl) rfl (.cons rfl (Part.one' rfl) rfl .nil)))))) rfl ?_
    refine Draw.step rfl rfl rfl (StepOk.op rfl rfl rfl (y_assign rfl)) rfl ?_
    refine Draw.tail (m := 47) rfl rfl rfl ?_
    refine Run.storeW 7 rfl rfl rfl ti125.siz rfl ?_
    refine Run.nil ?_
    refine Run.nT ?_
    refine Run.ret ?_
    exact Run.fin2 rfl rfl rfl (.tmp rfl) (.agg 7 rfl rfl Tryd.underlying125 rfl ti125.siz) (fun _ _ h => h) (fun _ _ h => h)

theorem pw_zero {p g : Int} (h : 2 ≤ p) : (1 : Int) = pw p g (4 * 0) := by
  unfold pw
  rw [Nat.mul_zero, Int.pow_zero, Int.emod_eq_of_lt (by omega) (by omega)]
theorem perm_fn (p g : Int) (five : Bool) (hp : okp p) (hg : 0 ≤ g ∧ g < p) (st : Q4) (hs : in4 p st) : Fn s.env 116 [sagg (Km p g five), sagg (us (q4 st))] (sagg (us (q4 (rnds p g (ex five) 8 st)))) := by
  obtain ⟨hp1, hp2⟩ := hp
  have hp3 : (0 : Int) < p := by omega
  refine Fn.of Tryd.func116 rfl Tryd.ntmps116 rfl ?_
  intro w0 F0
  refine Run.seq ?_
  refine Run.region ?_
  refine Run.boxA rfl rfl ?_
  intro b2
  refine Run.boxA rfl rfl ?_
  intro b3
  refine q_alloc ti125 rfl rfl ?_
  intro b4
  refine Run.nil ?_
  refine Run.nT ?_
  refine Run.seq ?_
  refine Run.region ?_
  refine Run.op rfl rfl rfl (y_assign rfl) ?_
  refine Run.nil ?_
  refine Run.nT ?_
  refine Run.seq ?_
  refine Run.seq ?_
  refine Run.region ?_
  refine Run.op rfl rfl rfl (y_move rfl) ?_
  refine Run.nil ?_
  refine Run.nT ?_
  refine Run.block ?_
  refine Run.loop (ι := Nat) (fun n => n ≤ 8) (fun n => 8 - n) (fun n => [(4, .blk b4 125 (zeros (.agg #[.int .u64 0, .int .u64 0, .int .u64 0, .int .u64 0]))), (3, .blk b3 125 (us (q4 (rnds p g (ex five) n st)))), (2, .blk b2 181 (Km p g five))]) (fun n => [(2, sval (.pointer (some ⟨b2, 0, none⟩))), (3, sval (.pointer (some ⟨b3, 0, none⟩))), (4, sval (.pointer (some ⟨b4, 0, none⟩))), (5, u64 (pw p g (4 * n))), (6, i64 n)]) 0 (by omega) rfl (Incl.same (t := 2) rfl (Incl.same (t := 3) rfl (Incl.same (t := 4) rfl (Incl.int (t := 5) rfl (pw_zero hp1) (Incl.same (t := 6) rfl Incl.nil))))) ?_
  rintro n hn
  change Run _ _ [(4, .blk b4 125 (zeros (.agg #[.int .u64 0, .int .u64 0, .int .u64 0, .int .u64 0]))), (3, .blk b3 125 (us (q4 (rnds p g (ex five) n st)))), (2, .blk b2 181 (Km p g five))] [(2, sval (.pointer (some ⟨b2, 0, none⟩))), (3, sval (.pointer (some ⟨b3, 0, none⟩))), (4, sval (.pointer (some ⟨b4, 0, none⟩))), (5, u64 (pw p g (4 * n))), (6, i64 n)] _
  refine Run.seq ?_
  refine Run.region ?_
  refine Run.op rfl rfl rfl (y_lss rfl rfl) ?_
  refine Run.nil ?_
  refine Run.nT ?_
  refine Run.seq ?_
  refine Run.cond rfl (fun hb => ?_) (fun hb => ?_)
  · have hn8 : n < 8 := by have := of_decide_eq_true hb; omega
    refine Run.skip ?_
    refine Run.nT ?_
    refine Run.seq ?_
    refine Run.block ?_
    refine Run.region ?_
    refine Run.op rfl rfl rfl (y_loadPW 2 rfl rfl Tryd.underlying181 rfl ti181.siz) ?_
    refine Run.op rfl rfl rfl (y_move rfl) ?_
    refine Run.op rfl rfl rfl (y_loadPW 3 rfl rfl Tryd.underlying125 rfl ti125.siz) ?_
    refine Run.op rfl rfl rfl (q_call en157 rfl (round_fn s p g five ⟨hp1, hp2⟩ hg n _ (rnds_in hp3 n hs))) ?_
    refine Run.op rfl rfl rfl (y_move rfl) ?_
    refine Run.op rfl rfl rfl (y_extract rfl rfl) ?_
    refine Run.op rfl rfl rfl (y_extract rfl rfl) ?_
    refine Run.op rfl rfl rfl (y_assign rfl) ?_
    refine Run.storeW 3 rfl rfl rfl ti125.siz rfl ?_
    refine Run.nil ?_
    refine Run.nB ?_
    refine Run.nT ?_
    refine Run.region ?_
    refine Run.op rfl rfl rfl (y_add rfl rfl (by first | exact wI_in (by omega) | rfl)) ?_
    refine Run.op rfl rfl rfl (y_move rfl) ?_
    refine Run.nil ?_
    refine Run.nT ?_
    refine Run.round (n + 1) ?_ ?_ ?_ ?_
    · show n + 1 ≤ 8; omega
    · show 8 - (n + 1) < 8 - n; omega
    · rfl
    · exact (Incl.same (t := 2) rfl (Incl.same (t := 3) rfl (Incl.same (t := 4) rfl (Incl.same (t := 5) rfl (Incl.int (t := 6) rfl (by omega) Incl.nil)))))
  · obtain rfl : n = 8 := by have := of_decide_eq_false hb; omega
    refine Run.exit ?_
    refine Run.eT ?_
    refine Run.eT ?_
    refine Run.eB ?_
    refine Run.nT ?_
    refine Run.seq ?_
    refine Run.region ?_
    refine Run.op rfl rfl rfl (y_loadPW 3 rfl rfl Tryd.underlying125 rfl ti125.siz) ?_
    refine Run.storeW 4 rfl rfl rfl ti125.siz rfl ?_
    refine Run.nil ?_
    refine Run.nT ?_
    refine Run.ret ?_
    exact Run.fin1 rfl rfl rfl (.agg 4 rfl rfl Tryd.underlying125 rfl ti125.siz) (fun _ _ h => h)

theorem reduced_fn (p g : Int) (five : Bool) (hp : okp p) (_hg : 0 ≤ g ∧ g < p) (st : Q4) (hs : in4 p st) : Fn s.env 115 [sagg (Km p g five), sagg (us (q4 st))] (sagg (us (q4 st))) := by
  obtain ⟨hp1, hp2⟩ := hp
  have hp3 : (0 : Int) < p := by omega
  refine Fn.of Tryd.func115 rfl Tryd.ntmps115 rfl ?_
  intro w0 F0
  refine Run.seq ?_
  refine Run.region ?_
  refine Run.boxA rfl rfl ?_
  intro b2
  refine Run.boxA rfl rfl ?_
  intro b3
  refine q_alloc ti125 rfl rfl ?_
  intro b4
  refine Run.nil ?_
  refine Run.nT ?_
  refine Run.seq ?_
  refine Run.seq ?_
  refine Run.region ?_
  refine Run.op rfl rfl rfl (y_move rfl) ?_
  refine Run.nil ?_
  refine Run.nT ?_
  refine Run.block ?_
  refine Run.loop (ι := Nat) (fun j => j ≤ 4) (fun j => 4 - j) (fun j => [(4, .blk b4 125 (zeros (.agg #[.int .u64 0, .int .u64 0, .int .u64 0, .int .u64 0]))), (3, .blk b3 125 (us (q4 st))), (2, .blk b2 181 (Km p g five))]) (fun j => [(2, sval (.pointer (some ⟨b2, 0, none⟩))), (3, sval (.pointer (some ⟨b3, 0, none⟩))), (4, sval (.pointer (some ⟨b4, 0, none⟩))), (6, i64 j)]) 0 (by omega) rfl (Incl.same (t := 2) rfl (Incl.same (t := 3) rfl (Incl.same (t := 4) rfl (Incl.same (t := 6) rfl Incl.nil)))) ?_
  rintro j hj
  change Run _ _ [(4, .blk b4 125 (zeros (.agg #[.int .u64 0, .int .u64 0, .int .u64 0, .int .u64 0]))), (3, .blk b3 125 (us (q4 st))), (2, .blk b2 181 (Km p g five))] [(2, sval (.pointer (some ⟨b2, 0, none⟩))), (3, sval (.pointer (some ⟨b3, 0, none⟩))), (4, sval (.pointer (some ⟨b4, 0, none⟩))), (6, i64 j)] _
  refine Run.seq ?_
  refine Run.region ?_
  refine Run.op rfl rfl rfl (y_lss rfl rfl) ?_
  refine Run.nil ?_
  refine Run.nT ?_
  refine Run.seq ?_
  refine Run.cond rfl (fun hb => ?_) (fun hb => ?_)
  · have hj4 : j < 4 := by have := of_decide_eq_true hb; omega
    have hx := in4_get hs hj4
    refine Run.skip ?_
    refine Run.nT ?_
    refine Run.seq ?_
    refine Run.block ?_
    refine Run.seq ?_
    refine Run.region ?_
    refine Run.op rfl rfl rfl (y_move rfl) ?_
    refine Run.op rfl rfl rfl (y_assign rfl) ?_
    refine Run.nil ?_
    refine Run.nT ?_
    refine Run.weaken (Incl.same (t := 2) rfl (Incl.same (t := 3) rfl (Incl.same (t := 4) rfl (Incl.same (t := 6) rfl (Incl.same (t := 5) rfl Incl.nil))))) ?_
    refine q_draw ?_ rfl
    refine Draw.step rfl rfl rfl (StepOk.op rfl rfl rfl (y_move rfl)) rfl ?_
    refine Draw.step rfl rfl rfl (StepOk.op rfl rfl rfl (y_indexP j rfl rfl Tryd.underlying125 ti33.siz (rfl) (hj4))) rfl ?_
    refine Draw.step rfl rfl rfl (StepOk.op rfl rfl rfl (y_loadP 3 rfl rfl (us_get hj4) Tryd.underlying33 rfl)) rfl ?_
    refine Draw.step rfl rfl rfl (StepOk.op rfl rfl rfl (y_fieldP rfl Tryd.underlying181 rfl ti33.siz)) rfl ?_
    refine Draw.step rfl rfl rfl (StepOk.op rfl rfl rfl (y_loadP 2 rfl rfl (rfl) Tryd.underlying33 rfl)) rfl ?_
    refine Draw.step rfl rfl rfl (StepOk.op rfl rfl rfl (y_rem (r := (q4 st).getD j 0) rfl rfl (by omega) (by rw [tmod_of (by omega), Int.emod_eq_of_lt hx.1 hx.2]))) rfl ?_
    refine Draw.step rfl rfl rfl (StepOk.op rfl rfl rfl (y_indexP j rfl rfl Tryd.underlying125 ti33.siz (rfl) (hj4))) rfl ?_
    refine Draw.tail (m := 7) rfl rfl rfl ?_
    refine q_store1 3 rfl rfl rfl ti33 (us_len rfl hj4) ?_
    refine Run.nil ?_
    refine Run.nB ?_
    refine Run.nT ?_
    refine Run.region ?_
    refine Run.op rfl rfl rfl (y_add rfl rfl (by first | exact wI_in (by omega) | rfl)) ?_
    refine Run.op rfl rfl rfl (y_move rfl) ?_
    refine Run.nil ?_
    refine Run.nT ?_
    refine Run.round (j + 1) ?_ ?_ ?_ ?_
    · show j + 1 ≤ 4; omega
    · show 4 - (j + 1) < 4 - j; omega
    · show [(4, _), (3, Ent.blk b3 125 (us (q4 st))), (2, _)] = [(4, _), (3, Ent.blk b3 125 ((us (q4 st)).set (0 + j * 1) (u64 ((q4 st).getD j 0)))), (2, _)]
      rw [us_set, us_self]
    · exact (Incl.same (t := 2) rfl (Incl.same (t := 3) rfl (Incl.same (t := 4) rfl (Incl.int (t := 6) rfl (by omega) Incl.nil))))
  · obtain rfl : j = 4 := by have := of_decide_eq_false hb; omega
    refine Run.exit ?_
    refine Run.eT ?_
    refine Run.eT ?_
    refine Run.eB ?_
    refine Run.nT ?_
    refine Run.seq ?_
    refine Run.region ?_
    refine Run.op rfl rfl rfl (y_loadPW 3 rfl rfl Tryd.underlying125 rfl ti125.siz) ?_
    refine Run.storeW 4 rfl rfl rfl ti125.siz rfl ?_
    refine Run.nil ?_
    refine Run.nT ?_
    refine Run.ret ?_
    exact Run.fin1 rfl rfl rfl (.agg 4 rfl rfl Tryd.underlying125 rfl ti125.siz) (fun _ _ h => h)

section
variable [hF : HasF s]

theorem Node_fn (f : Int) (hf : fv f = true) (l r : Dg) (hl : inD (fP f) l) (hr : inD (fP f) r) : Fn s.env 68 [i64 f, dig l, dig r] (dig (nd f l r)) := by
  obtain ⟨⟨hp1, hp2⟩, hg⟩ := okf hf
  have hp3 : (0 : Int) < fP f := by omega
  have h4 : in4 (fP f) (l.1, l.2, r.1, r.2) := ⟨hl.1, hl.2, hr.1, hr.2⟩
  have h8 := rnds_in (g := fG f) (q := ex (f5 f)) hp3 8 h4
  obtain ⟨hl1, hl2⟩ := hl
  have h81 := h8.1
  have h82 := h8.2.1
  have e2 : 0 ≤ (l.1, l.2, r.1, r.2).2.1 ∧ (l.1, l.2, r.1, r.2).2.1 < fP f := hl2
  refine Fn.of Tryd.func68 rfl Tryd.ntmps68 rfl ?_
  intro w0 F0
  refine Run.seq ?_
  refine Run.region ?_
  refine Run.boxA rfl rfl ?_
  intro b4
  refine Run.boxA rfl rfl ?_
  intro b5
  refine q_alloc ti42 rfl rfl ?_
  intro b6
  refine Run.nil ?_
  refine Run.nT ?_
  refine Run.seq ?_
  refine Run.seq ?_
  refine Run.region ?_
  refine Run.op rfl rfl rfl (y_move rfl) ?_
  refine Run.op rfl rfl rfl (Yields.bool (c := true) (q_call en58 rfl (valid_fn s _)) (hf)) ?_
  refine Run.op rfl rfl rfl (y_not rfl) ?_
  refine Run.nil ?_
  refine Run.nT ?_
  refine Run.cond0 rfl ?_
  refine Run.skip ?_
  refine Run.nT ?_
  refine Run.seq ?_
  refine Run.region ?_
  refine Run.op rfl rfl rfl (y_move rfl) ?_
  refine Run.op rfl rfl rfl (q_call en114 rfl (in_fn s _)) ?_
  refine q_alloc ti181 rfl rfl ?_
  intro b7
  refine Run.storeW 7 rfl rfl rfl ti181.siz rfl ?_
  refine Run.nil ?_
  refine Run.nT ?_
  refine Run.seq ?_
  refine Run.region ?_
  refine Run.op rfl rfl rfl (y_loadPW 7 rfl rfl Tryd.underlying181 rfl ti181.siz) ?_
  refine Run.op rfl rfl rfl (y_indexP 0 rfl rfl Tryd.underlying42 ti33.siz rfl (by decide)) ?_
  refine Run.op rfl rfl rfl (y_loadP 4 rfl rfl (rfl) Tryd.underlying33 rfl) ?_
  refine Run.op rfl rfl rfl (y_indexP 1 rfl rfl Tryd.underlying42 ti33.siz rfl (by decide)) ?_
  refine Run.op rfl rfl rfl (y_loadP 4 rfl rfl (rfl) Tryd.underlying33 rfl) ?_
  refine Run.op rfl rfl rfl (y_indexP 0 rfl rfl Tryd.underlying42 ti33.siz rfl (by decide)) ?_
  refine Run.op rfl rfl rfl (y_loadP 5 rfl rfl (rfl) Tryd.underlying33 rfl) ?_
  refine Run.op rfl rfl rfl (y_indexP 1 rfl rfl Tryd.underlying42 ti33.siz rfl (by decide)) ?_
  refine Run.op rfl rfl rfl (y_loadP 5 rfl rfl (rfl) Tryd.underlying33 rfl) ?_
  refine Run.op rfl rfl rfl (q_buildA Tryd.underlying125 ti125 rfl ti33 (.cons rfl (Part.one' rfl) rfl (.cons rfl (Part.one' rfl) rfl (.cons rfl (Part.one' rfl) rfl (.cons rfl (Part.one' rfl) rfl .nil))))) ?_
  refine Run.op rfl rfl rfl (q_call en115 rfl (reduced_fn s (fP f) (fG f) (f5 f) ⟨hp1, hp2⟩ hg (l.1, l.2, r.1, r.2) h4)) ?_
  refine q_alloc ti125 rfl rfl ?_
  intro b8
  refine Run.storeW 8 rfl rfl rfl ti125.siz rfl ?_
  refine Run.nil ?_
  refine Run.nT ?_
  refine Run.seq ?_
  refine Run.region ?_
  refine Run.op rfl rfl rfl (y_loadPW 7 rfl rfl Tryd.underlying181 rfl ti181.siz) ?_
  refine Run.op rfl rfl rfl (y_loadPW 8 rfl rfl Tryd.underlying125 rfl ti125.siz) ?_
  refine Run.op rfl rfl rfl (q_call en116 rfl (perm_fn s (fP f) (fG f) (f5 f) ⟨hp1, hp2⟩ hg _ h4)) ?_
  refine q_alloc ti125 rfl rfl ?_
  intro b9
  refine Run.storeW 9 rfl rfl rfl ti125.siz rfl ?_
  refine Run.nil ?_
  refine Run.nT ?_
  refine Run.seq ?_
  refine Run.weaken (Incl.same (t := 0) rfl (Incl.same (t := 1) rfl (Incl.same (t := 2) rfl (Incl.same (t := 4) rfl (Incl.same (t := 5) rfl (Incl.same (t := 6) rfl (Incl.same (t := 7) rfl (Incl.same (t := 8) rfl (Incl.same (t := 9) rfl Incl.nil))))))))) ?_
  refine q_draw ?_ rfl
  refine Draw.step rfl rfl rfl (StepOk.op rfl rfl rfl (y_indexP 0 rfl rfl Tryd.underlying125 ti33.siz rfl (by decide))) rfl ?_
  refine Draw.step rfl rfl rfl (StepOk.op rfl rfl rfl (y_loadP 9 rfl rfl (rfl) Tryd.underlying33 rfl)) rfl ?_
  refine Draw.step rfl rfl rfl (StepOk.op rfl rfl rfl (y_indexP 0 rfl rfl Tryd.underlying125 ti33.siz rfl (by decide))) rfl ?_
  refine Draw.step rfl rfl rfl (StepOk.op rfl rfl rfl (y_loadP 8 rfl rfl (rfl) Tryd.underlying33 rfl)) rfl ?_
  refine Draw.step rfl rfl rfl (StepOk.op rfl rfl rfl (y_add rfl rfl (by first | exact wU_in (by omega) | rfl))) rfl ?_
  refine Draw.step rfl rfl rfl (StepOk.op rfl rfl rfl (y_fieldP rfl Tryd.underlying181 rfl ti33.siz)) rfl ?_
  refine Draw.step rfl rfl rfl (StepOk.op rfl rfl rfl (y_loadP 7 rfl rfl (rfl) Tryd.underlying33 rfl)) rfl ?_
  refine Draw.step rfl rfl rfl (StepOk.op rfl rfl rfl (y_rem rfl rfl (by omega) (by first | exact tmod_of (by omega) | rfl))) rfl ?_
  refine Draw.step rfl rfl rfl (StepOk.op rfl rfl rfl (y_indexP 1 rfl rfl Tryd.underlying125 ti33.siz rfl (by decide))) rfl ?_
  refine Draw.step rfl rfl rfl (StepOk.op rfl rfl rfl (y_loadP 9 rfl rfl (rfl) Tryd.underlying33 rfl)) rfl ?_
  refine Draw.step rfl rfl rfl (StepOk.op rfl rfl rfl (y_indexP 1 rfl rfl Tryd.underlying125 ti33.siz rfl (by decide))) rfl ?_
  refine Draw.step rfl rfl rfl (StepOk.op rfl rfl rfl (y_loadP 8 rfl rfl (rfl) Tryd.underlying33 rfl)) rfl ?_
  refine Draw.step rfl rfl rfl (StepOk.op rfl rfl rfl (y_add rfl rfl (by first | exact wU_in (by omega) | rfl))) rfl ?_
  refine Draw.step rfl rfl rfl (StepOk.op rfl rfl rfl (y_fieldP rfl Tryd.underlying181 rfl ti33.siz)) rfl ?_
  refine Draw.step rfl rfl rfl (StepOk.op rfl rfl rfl (y_loadP 7 rfl rfl (rfl) Tryd.underlying33 rfl)) rfl ?_
  refine Draw.step rfl rfl rfl (StepOk.op rfl rfl rfl (y_rem rfl rfl (by omega) (by first | exact tmod_of (by omega) | rfl))) rfl ?_
  refine Draw.step rfl rfl rfl (StepOk.op rfl rfl rfl (q_buildA Tryd.underlying42 ti42 rfl ti33 (.cons rfl (Part.one' rfl) rfl (.cons rfl (Part.one' rfl) rfl .nil)))) rfl ?_
  refine Draw.tail (m := 17) rfl rfl rfl ?_
  refine Run.storeW 6 rfl rfl rfl ti42.siz rfl ?_
  refine Run.nil ?_
  refine Run.nT ?_
  refine Run.ret ?_
  exact Run.fin1 rfl rfl rfl (.agg 6 rfl rfl Tryd.underlying42 rfl ti42.siz) (fun _ _ h => h)

end
section
variable [hT : HasT7 s]

theorem node07_fn (f : Int) (hf : fv f = true) (l r : Dg) (hl : inD (fP f) l) (hr : inD (fP f) r) : Fn s.env 23 [i64 f, dig l, dig r] (dig (nd f l r)) := by
  obtain ⟨⟨hp1, hp2⟩, hg⟩ := okf hf
  have hp3 : (0 : Int) < fP f := by omega
  have h4 : in4 (fP f) (l.1, l.2, r.1, r.2) := ⟨hl.1, hl.2, hr.1, hr.2⟩
  have h8 := rnds_in (g := fG f) (q := ex (f5 f)) hp3 8 h4
  obtain ⟨hl1, hl2⟩ := hl
  have h81 := h8.1
  have h82 := h8.2.1
  have hf4 := fv_iff.1 hf
  have hq : ((ex (f5 f) : Nat) : Int) < 4294967296 := by unfold ex; split <;> decide
  refine Fn.of Tryd.func23 rfl Tryd.ntmps23 rfl ?_
  intro w0 F0
  refine Run.seq ?_
  refine Run.region ?_
  refine Run.boxA rfl rfl ?_
  intro b4
  refine Run.boxA rfl rfl ?_
  intro b5
  refine q_alloc ti42 rfl rfl ?_
  intro b6
  refine Run.nil ?_
  refine Run.nT ?_
  refine Run.seq ?_
  refine Run.weaken (Incl.same (t := 0) rfl (Incl.same (t := 1) rfl (Incl.same (t := 2) rfl (Incl.same (t := 4) rfl (Incl.same (t := 5) rfl (Incl.same (t := 6) rfl Incl.nil)))))) ?_
  refine q_draw ?_ rfl
  refine Draw.step rfl rfl rfl (StepOk.op rfl rfl rfl (y_move rfl)) rfl ?_
  refine Draw.step rfl rfl rfl (StepOk.op rfl rfl rfl (q_indexG f.toNat _ hT.mem rfl Tryd.underlying37 ti36 (fun _ => rfl) rfl (by omega) (tab7_get hf))) rfl ?_
  refine Draw.step rfl rfl rfl (StepOk.op rfl rfl rfl (y_indexL (j := 0) rfl rfl Tryd.underlying36 ti33.siz rfl rfl)) rfl ?_
  refine Draw.step rfl rfl rfl (StepOk.op rfl rfl rfl (y_load rfl Tryd.underlying33 rfl)) rfl ?_
  refine Draw.step rfl rfl rfl (StepOk.op rfl rfl rfl (y_move rfl)) rfl ?_
  refine Draw.step rfl rfl rfl (StepOk.op rfl rfl rfl (q_indexG f.toNat _ hT.mem rfl Tryd.underlying37 ti36 (fun _ => rfl) rfl (by omega) (tab7_get hf))) rfl ?_
  refine Draw.step rfl rfl rfl (StepOk.op rfl rfl rfl (y_indexL (j := 1) rfl rfl Tryd.underlying36 ti33.siz rfl rfl)) rfl ?_
  refine Draw.step rfl rfl rfl (StepOk.op rfl rfl rfl (y_load rfl Tryd.underlying33 rfl)) rfl ?_
  refine Draw.step rfl rfl rfl (StepOk.op rfl rfl rfl (y_move rfl)) rfl ?_
  refine Draw.step rfl rfl rfl (StepOk.op rfl rfl rfl (q_indexG f.toNat _ hT.mem rfl Tryd.underlying37 ti36 (fun _ => rfl) rfl (by omega) (tab7_get hf))) rfl ?_
  refine Draw.step rfl rfl rfl (StepOk.op rfl rfl rfl (y_indexL (j := 2) rfl rfl Tryd.underlying36 ti33.siz rfl rfl)) rfl ?_
  refine Draw.step rfl rfl rfl (StepOk.op rfl rfl rfl (y_load rfl Tryd.underlying33 rfl)) rfl ?_
  refine Draw.step rfl rfl rfl (StepOk.op rfl rfl rfl (y_assign rfl)) rfl ?_
  refine Draw.step rfl rfl rfl (StepOk.op rfl rfl rfl (y_assign rfl)) rfl ?_
  refine Draw.step rfl rfl rfl (StepOk.op rfl rfl rfl (y_assign rfl)) rfl ?_
  refine Draw.tail (m := 15) rfl rfl rfl ?_
  refine Run.nil ?_
  refine Run.nT ?_
  refine Run.seq ?_
  refine Run.region ?_
  refine Run.op rfl rfl rfl (y_indexP 0 rfl rfl Tryd.underlying42 ti33.siz rfl (by decide)) ?_
  refine Run.op rfl rfl rfl (y_loadP 4 rfl rfl (rfl) Tryd.underlying33 rfl) ?_
  refine Run.op rfl rfl rfl (y_indexP 1 rfl rfl Tryd.underlying42 ti33.siz rfl (by decide)) ?_
  refine Run.op rfl rfl rfl (y_loadP 4 rfl rfl (rfl) Tryd.underlying33 rfl) ?_
  refine Run.op rfl rfl rfl (y_indexP 0 rfl rfl Tryd.underlying42 ti33.siz rfl (by decide)) ?_
  refine Run.op rfl rfl rfl (y_loadP 5 rfl rfl (rfl) Tryd.underlying33 rfl) ?_
  refine Run.op rfl rfl rfl (y_indexP 1 rfl rfl Tryd.underlying42 ti33.siz rfl (by decide)) ?_
  refine Run.op rfl rfl rfl (y_loadP 5 rfl rfl (rfl) Tryd.underlying33 rfl) ?_
  refine Run.op rfl rfl rfl (q_buildA Tryd.underlying125 ti125 rfl ti33 (.cons rfl (Part.one' rfl) rfl (.cons rfl (Part.one' rfl) rfl (.cons rfl (Part.one' rfl) rfl (.cons rfl (Part.one' rfl) rfl .nil))))) ?_
  refine q_alloc ti125 rfl rfl ?_
  intro b10
  refine Run.storeW 10 rfl rfl rfl ti125.siz rfl ?_
  refine Run.nil ?_
  refine Run.nT ?_
  refine Run.seq ?_
  refine Run.seq ?_
  refine Run.region ?_
  refine Run.op rfl rfl rfl (y_assign rfl) ?_
  refine Run.nil ?_
  refine Run.nT ?_
  refine Run.block ?_
  refine Run.loop (ι := Nat) (fun n => n ≤ 8) (fun n => 8 - n) (fun n => [(10, .blk b10 125 (us (q4 (rnds (fP f) (fG f) (ex (f5 f)) n (l.1, l.2, r.1, r.2))))), (6, .blk b6 42 (zeros (.agg #[.int .u64 0, .int .u64 0]))), (5, .blk b5 42 (Kd r)), (4, .blk b4 42 (Kd l))]) (fun n => [(4, sval (.pointer (some ⟨b4, 0, none⟩))), (5, sval (.pointer (some ⟨b5, 0, none⟩))), (6, sval (.pointer (some ⟨b6, 0, none⟩))), (7, u64 (fP f)), (8, u64 (fG f)), (9, u64 (ex (f5 f) : Nat)), (10, sval (.pointer (some ⟨b10, 0, none⟩))), (11, u64 n)]) 0 (by omega) rfl (Incl.same (t := 4) rfl (Incl.same (t := 5) rfl (Incl.same (t := 6) rfl (Incl.same (t := 7) rfl (Incl.same (t := 8) rfl (Incl.same (t := 9) rfl (Incl.same (t := 10) rfl (Incl.int (t := 11) rfl rfl Incl.nil)))))))) ?_
  rintro n hn
  change Run _ _ [(10, .blk b10 125 (us (q4 (rnds (fP f) (fG f) (ex (f5 f)) n (l.1, l.2, r.1, r.2))))), (6, .blk b6 42 (zeros (.agg #[.int .u64 0, .int .u64 0]))), (5, .blk b5 42 (Kd r)), (4, .blk b4 42 (Kd l))] [(4, sval (.pointer (some ⟨b4, 0, none⟩))), (5, sval (.pointer (some ⟨b5, 0, none⟩))), (6, sval (.pointer (some ⟨b6, 0, none⟩))), (7, u64 (fP f)), (8, u64 (fG f)), (9, u64 (ex (f5 f) : Nat)), (10, sval (.pointer (some ⟨b10, 0, none⟩))), (11, u64 n)] _
  refine Run.seq ?_
  refine Run.seq ?_
  refine Run.region ?_
  refine Run.op rfl rfl rfl (y_move rfl) ?_
  refine Run.op rfl rfl rfl (y_lss rfl rfl) ?_
  refine Run.nil ?_
  refine Run.nT ?_
  refine Run.cond rfl (fun hb => ?_) (fun hb => ?_)
  · have hn8 : n < 8 := by have := of_decide_eq_true hb; omega
    have hn4 := rnds_in (g := fG f) (q := ex (f5 f)) hp3 n h4
    refine Run.skip ?_
    refine Run.nT ?_
    refine Run.seq ?_
    refine Run.block ?_
    refine Run.seq ?_
    refine Run.seq ?_
    refine Run.region ?_
    refine Run.op rfl rfl rfl (y_assign rfl) ?_
    refine Run.nil ?_
    refine Run.nT ?_
    refine Run.block ?_
    refine Run.loop (ι := Nat × List Int) (fun ⟨j, m⟩ => j ≤ 4 ∧ m.length = 4 ∧ ∀ i, i < 4 → m.getD i 0 = if i < j then cel (fP f) (fG f) (ex (f5 f)) n i ((q4 (rnds (fP f) (fG f) (ex (f5 f)) n (l.1, l.2, r.1, r.2))).getD i 0) else (q4 (rnds (fP f) (fG f) (ex (f5 f)) n (l.1, l.2, r.1, r.2))).getD i 0) (fun ⟨j, m⟩ => 4 - j) (fun ⟨j, m⟩ => [(10, .blk b10 125 (us m)), (6, .blk b6 42 (zeros (.agg #[.int .u64 0, .int .u64 0]))), (5, .blk b5 42 (Kd r)), (4, .blk b4 42 (Kd l))]) (fun ⟨j, m⟩ => [(4, sval (.pointer (some ⟨b4, 0, none⟩))), (5, sval (.pointer (some ⟨b5, 0, none⟩))), (6, sval (.pointer (some ⟨b6, 0, none⟩))), (7, u64 (fP f)), (8, u64 (fG f)), (9, u64 (ex (f5 f) : Nat)), (10, sval (.pointer (some ⟨b10, 0, none⟩))), (11, u64 n), (12, i64 j)]) (0, q4 (rnds (fP f) (fG f) (ex (f5 f)) n (l.1, l.2, r.1, r.2))) ⟨by omega, rfl, fun i hi => by simp⟩ rfl (Incl.same (t := 4) rfl (Incl.same (t := 5) rfl (Incl.same (t := 6) rfl (Incl.same (t := 7) rfl (Incl.same (t := 8) rfl (Incl.same (t := 9) rfl (Incl.same (t := 10) rfl (Incl.same (t := 11) rfl (Incl.same (t := 12) rfl Incl.nil))))))))) ?_
    rintro ⟨j, m⟩ ⟨hj, hm, hI⟩
    change Run _ _ [(10, .blk b10 125 (us m)), (6, .blk b6 42 (zeros (.agg #[.int .u64 0, .int .u64 0]))), (5, .blk b5 42 (Kd r)), (4, .blk b4 42 (Kd l))] [(4, sval (.pointer (some ⟨b4, 0, none⟩))), (5, sval (.pointer (some ⟨b5, 0, none⟩))), (6, sval (.pointer (some ⟨b6, 0, none⟩))), (7, u64 (fP f)), (8, u64 (fG f)), (9, u64 (ex (f5 f) : Nat)), (10, sval (.pointer (some ⟨b10, 0, none⟩))), (11, u64 n), (12, i64 j)] _
    refine Run.seq ?_
    refine Run.seq ?_
    refine Run.region ?_
    refine Run.op rfl rfl rfl (y_move rfl) ?_
    refine Run.op rfl rfl rfl (y_lss rfl rfl) ?_
    refine Run.nil ?_
    refine Run.nT ?_
    refine Run.cond rfl (fun hb => ?_) (fun hb => ?_)
    · have hj4 : j < 4 := by have := of_decide_eq_true hb; omega
      have hlj : m.getD j 0 = (q4 (rnds (fP f) (fG f) (ex (f5 f)) n (l.1, l.2, r.1, r.2))).getD j 0 := by rw [hI j hj4, if_neg (by omega)]
      have hx := in4_get hn4 hj4
      rw [← hlj] at hx
      have hk1 := pw_lt hp3 (fG f) (4 * n + j + 1)
      refine Run.skip ?_
      refine Run.nT ?_
      refine Run.seq ?_
      refine Run.block ?_
      refine Run.weaken (Incl.same (t := 4) rfl (Incl.same (t := 5) rfl (Incl.same (t := 6) rfl (Incl.same (t := 7) rfl (Incl.same (t := 8) rfl (Incl.same (t := 9) rfl (Incl.same (t := 10) rfl (Incl.same (t := 11) rfl (Incl.same (t := 12) rfl Incl.nil))))))))) ?_
      refine q_draw ?_ rfl
      refine Draw.step rfl rfl rfl (StepOk.op rfl rfl rfl (y_move rfl)) rfl ?_
      refine Draw.step rfl rfl rfl (StepOk.op rfl rfl rfl (y_move rfl)) rfl ?_
      refine Draw.step rfl rfl rfl (StepOk.op rfl rfl rfl (y_move rfl)) rfl ?_
      refine Draw.step rfl rfl rfl (StepOk.op rfl rfl rfl (y_indexP j rfl rfl Tryd.underlying125 ti33.siz (rfl) (hj4))) rfl ?_
      refine Draw.step rfl rfl rfl (StepOk.op rfl rfl rfl (y_loadP 10 rfl rfl (us_get (by omega)) Tryd.underlying33 rfl)) rfl ?_
      refine Draw.step rfl rfl rfl (StepOk.op rfl rfl rfl (y_move rfl)) rfl ?_
      refine Draw.step rfl rfl rfl (StepOk.op rfl rfl rfl (y_move rfl)) rfl ?_
      refine Draw.step rfl rfl rfl (StepOk.op rfl rfl rfl (y_move rfl)) rfl ?_
      refine Draw.step rfl rfl rfl (StepOk.op rfl rfl rfl (y_mul rfl rfl (by first | exact wU_in (by omega) | rfl))) rfl ?_
      refine Draw.step rfl rfl rfl (StepOk.op rfl rfl rfl (y_move rfl)) rfl ?_
      refine Draw.step rfl rfl rfl (StepOk.op rfl rfl rfl (y_conv Tryd.underlying3 Tryd.underlying33 rfl (by first | exact wU_in (by omega) | rfl))) rfl ?_
      refine Draw.step rfl rfl rfl (StepOk.op rfl rfl rfl (y_add rfl rfl (by first | exact wU_in (by omega) | rfl))) rfl ?_
      refine Draw.step rfl rfl rfl (StepOk.op rfl rfl rfl (y_add (r := ((4 * n + j + 1 : Nat) : Int)) rfl rfl (by rw [wU_in (by omega)]; omega))) rfl ?_
      refine Draw.step rfl rfl rfl (StepOk.op rfl rfl rfl (q_call en69 rfl (pow07_fn s (fP f) (fG f) (4 * n + j + 1) ⟨hp1, hp2⟩ hg (by omega)))) rfl ?_
      refine Draw.step rfl rfl rfl (StepOk.op rfl rfl rfl (y_add rfl rfl (by first | exact wU_in (by omega) | rfl))) rfl ?_
      refine Draw.step rfl rfl rfl (StepOk.op rfl rfl rfl (y_add rfl rfl (by first | exact wU_in (by omega) | rfl))) rfl ?_
      refine Draw.step rfl rfl rfl (StepOk.op rfl rfl rfl (y_move rfl)) rfl ?_
      refine Draw.step rfl rfl rfl (StepOk.op rfl rfl rfl (y_rem rfl rfl (by omega) (by first | exact tmod_of (by omega) | rfl))) rfl ?_
      refine Draw.step rfl rfl rfl (StepOk.op rfl rfl rfl (y_move rfl)) rfl ?_
      refine Draw.step rfl rfl rfl (StepOk.op rfl rfl rfl (q_call en69 rfl (pow07_fn s (fP f) _ (ex (f5 f)) ⟨hp1, hp2⟩ (em_lt hp3 _) hq))) rfl ?_
      refine Draw.step rfl rfl rfl (StepOk.op rfl rfl rfl (y_indexP j rfl rfl Tryd.underlying125 ti33.siz (rfl) (hj4))) rfl ?_
      refine Draw.tail (m := 21) rfl rfl rfl ?_
      refine q_store1 10 rfl rfl rfl ti33 (us_len hm hj4) ?_
      refine Run.nil ?_
      refine Run.nB ?_
      refine Run.nT ?_
      refine Run.region ?_
      refine Run.op rfl rfl rfl (y_move rfl) ?_
      refine Run.op rfl rfl rfl (y_add rfl rfl (by first | exact wI_in (by omega) | rfl)) ?_
      refine Run.op rfl rfl rfl (y_assign rfl) ?_
      refine Run.nil ?_
      refine Run.nT ?_
      refine Run.round (j + 1, m.set j (cel (fP f) (fG f) (ex (f5 f)) n j (m.getD j 0))) ?_ ?_ ?_ ?_
      · refine ⟨by omega, by simp [hm], fun i hi => ?_⟩
        exact rnd_step hm hI hi hj4
      · show 4 - (j + 1) < 4 - j; omega
      · show [(10, Ent.blk b10 125 (us (m.set j _))), (6, _), (5, _), (4, _)] = _
        rw [← us_set]; rfl
      · exact (Incl.same (t := 4) rfl (Incl.same (t := 5) rfl (Incl.same (t := 6) rfl (Incl.same (t := 7) rfl (Incl.same (t := 8) rfl (Incl.same (t := 9) rfl (Incl.same (t := 10) rfl (Incl.same (t := 11) rfl (Incl.int (t := 12) rfl (by omega) Incl.nil)))))))))
    · obtain rfl : j = 4 := by have := of_decide_eq_false hb; omega
      obtain ⟨a, b, c, d, rfl⟩ := len4 hm
      obtain rfl : a = cel (fP f) (fG f) (ex (f5 f)) n 0 (rnds (fP f) (fG f) (ex (f5 f)) n (l.1, l.2, r.1, r.2)).1 := by simpa using hI 0 (by omega)
      obtain rfl : b = cel (fP f) (fG f) (ex (f5 f)) n 1 (rnds (fP f) (fG f) (ex (f5 f)) n (l.1, l.2, r.1, r.2)).2.1 := by simpa using hI 1 (by omega)
      obtain rfl : c = cel (fP f) (fG f) (ex (f5 f)) n 2 (rnds (fP f) (fG f) (ex (f5 f)) n (l.1, l.2, r.1, r.2)).2.2.1 := by simpa using hI 2 (by omega)
      obtain rfl : d = cel (fP f) (fG f) (ex (f5 f)) n 3 (rnds (fP f) (fG f) (ex (f5 f)) n (l.1, l.2, r.1, r.2)).2.2.2 := by simpa using hI 3 (by omega)
      have c0 : 0 ≤ cel (fP f) (fG f) (ex (f5 f)) n 0 (rnds (fP f) (fG f) (ex (f5 f)) n (l.1, l.2, r.1, r.2)).1 ∧ cel (fP f) (fG f) (ex (f5 f)) n 0 (rnds (fP f) (fG f) (ex (f5 f)) n (l.1, l.2, r.1, r.2)).1 < fP f := pw_lt hp3 _ _
      have c1 : 0 ≤ cel (fP f) (fG f) (ex (f5 f)) n 1 (rnds (fP f) (fG f) (ex (f5 f)) n (l.1, l.2, r.1, r.2)).2.1 ∧ cel (fP f) (fG f) (ex (f5 f)) n 1 (rnds (fP f) (fG f) (ex (f5 f)) n (l.1, l.2, r.1, r.2)).2.1 < fP f := pw_lt hp3 _ _
      have c2 : 0 ≤ cel (fP f) (fG f) (ex (f5 f)) n 2 (rnds (fP f) (fG f) (ex (f5 f)) n (l.1, l.2, r.1, r.2)).2.2.1 ∧ cel (fP f) (fG f) (ex (f5 f)) n 2 (rnds (fP f) (fG f) (ex (f5 f)) n (l.1, l.2, r.1, r.2)).2.2.1 < fP f := pw_lt hp3 _ _
      have c3 : 0 ≤ cel (fP f) (fG f) (ex (f5 f)) n 3 (rnds (fP f) (fG f) (ex (f5 f)) n (l.1, l.2, r.1, r.2)).2.2.2 ∧ cel (fP f) (fG f) (ex (f5 f)) n 3 (rnds (fP f) (fG f) (ex (f5 f)) n (l.1, l.2, r.1, r.2)).2.2.2 < fP f := pw_lt hp3 _ _
      refine Run.exit ?_
      refine Run.eT ?_
      refine Run.eT ?_
      refine Run.eB ?_
      refine Run.nT ?_
      refine Run.seq ?_
      refine Run.region ?_
      refine Run.op rfl rfl rfl (y_indexP 0 rfl rfl Tryd.underlying125 ti33.siz rfl (by decide)) ?_
      refine Run.op rfl rfl rfl (y_loadP 10 rfl rfl (rfl) Tryd.underlying33 rfl) ?_
      refine Run.op rfl rfl rfl (y_indexP 1 rfl rfl Tryd.underlying125 ti33.siz rfl (by decide)) ?_
      refine Run.op rfl rfl rfl (y_loadP 10 rfl rfl (rfl) Tryd.underlying33 rfl) ?_
      refine Run.op rfl rfl rfl (y_add rfl rfl (by first | exact wU_in (by omega) | rfl)) ?_
      refine Run.op rfl rfl rfl (y_indexP 2 rfl rfl Tryd.underlying125 ti33.siz rfl (by decide)) ?_
      refine Run.op rfl rfl rfl (y_loadP 10 rfl rfl (rfl) Tryd.underlying33 rfl) ?_
      refine Run.op rfl rfl rfl (y_add rfl rfl (by first | exact wU_in (by omega) | rfl)) ?_
      refine Run.op rfl rfl rfl (y_indexP 3 rfl rfl Tryd.underlying125 ti33.siz rfl (by decide)) ?_
      refine Run.op rfl rfl rfl (y_loadP 10 rfl rfl (rfl) Tryd.underlying33 rfl) ?_
      refine Run.op rfl rfl rfl (y_add rfl rfl (by first | exact wU_in (by omega) | rfl)) ?_
      refine Run.op rfl rfl rfl (y_assign rfl) ?_
      refine Run.nil ?_
      refine Run.nT ?_
      refine Run.weaken (Incl.same (t := 4) rfl (Incl.same (t := 5) rfl (Incl.same (t := 6) rfl (Incl.same (t := 7) rfl (Incl.same (t := 8) rfl (Incl.same (t := 9) rfl (Incl.same (t := 10) rfl (Incl.same (t := 11) rfl (Incl.same (t := 12) rfl (Incl.same (t := 13) rfl Incl.nil)))))))))) ?_
      refine q_draw ?_ rfl
      refine Draw.step rfl rfl rfl (StepOk.op rfl rfl rfl (y_move rfl)) rfl ?_
      refine Draw.step rfl rfl rfl (StepOk.op rfl rfl rfl (y_indexP 0 rfl rfl Tryd.underlying125 ti33.siz rfl (by decide))) rfl ?_
      refine Draw.step rfl rfl rfl (StepOk.op rfl rfl rfl (y_loadP 10 rfl rfl (rfl) Tryd.underlying33 rfl)) rfl ?_
      refine Draw.step rfl rfl rfl (StepOk.op rfl rfl rfl (y_add rfl rfl (by first | exact wU_in (by omega) | rfl))) rfl ?_
      refine Draw.step rfl rfl rfl (StepOk.op rfl rfl rfl (y_indexP 1 rfl rfl Tryd.underlying125 ti33.siz rfl (by decide))) rfl ?_
      refine Draw.step rfl rfl rfl (StepOk.op rfl rfl rfl (y_loadP 10 rfl rfl (rfl) Tryd.underlying33 rfl)) rfl ?_
      refine Draw.step rfl rfl rfl (StepOk.op rfl rfl rfl (y_mul rfl rfl (by first | exact wU_in (by omega) | rfl))) rfl ?_
      refine Draw.step rfl rfl rfl (StepOk.op rfl rfl rfl (y_add rfl rfl (by first | exact wU_in (by omega) | rfl))) rfl ?_
      refine Draw.step rfl rfl rfl (StepOk.op rfl rfl rfl (y_move rfl)) rfl ?_
      refine Draw.step rfl rfl rfl (StepOk.op rfl rfl rfl (y_rem rfl rfl (by omega) (by first | exact tmod_of (by omega) | rfl))) rfl ?_
      refine Draw.step rfl rfl rfl (StepOk.op rfl rfl rfl (y_move rfl)) rfl ?_
      refine Draw.step rfl rfl rfl (StepOk.op rfl rfl rfl (y_indexP 1 rfl rfl Tryd.underlying125 ti33.siz rfl (by decide))) rfl ?_
      refine Draw.step rfl rfl rfl (StepOk.op rfl rfl rfl (y_loadP 10 rfl rfl (rfl) Tryd.underlying33 rfl)) rfl ?_
      refine Draw.step rfl rfl rfl (StepOk.op rfl rfl rfl (y_add rfl rfl (by first | exact wU_in (by omega) | rfl))) rfl ?_
      refine Draw.step rfl rfl rfl (StepOk.op rfl rfl rfl (y_indexP 2 rfl rfl Tryd.underlying125 ti33.siz rfl (by decide))) rfl ?_
      refine Draw.step rfl rfl rfl (StepOk.op rfl rfl rfl (y_loadP 10 rfl rfl (rfl) Tryd.underlying33 rfl)) rfl ?_
      refine Draw.step rfl rfl rfl (StepOk.op rfl rfl rfl (y_mul rfl rfl (by first | exact wU_in (by omega) | rfl))) rfl ?_
      refine Draw.step rfl rfl rfl (StepOk.op rfl rfl rfl (y_add rfl rfl (by first | exact wU_in (by omega) | rfl))) rfl ?_
      refine Draw.step rfl rfl rfl (StepOk.op rfl rfl rfl (y_move rfl)) rfl ?_
      refine Draw.step rfl rfl rfl (StepOk.op rfl rfl rfl (y_rem rfl rfl (by omega) (by first | exact tmod_of (by omega) | rfl))) rfl ?_
      refine Draw.step rfl rfl rfl (StepOk.op rfl rfl rfl (y_move rfl)) rfl ?_
      refine Draw.step rfl rfl rfl (StepOk.op rfl rfl rfl (y_indexP 2 rfl rfl Tryd.underlying125 ti33.siz rfl (by decide))) rfl ?_
      refine Draw.step rfl rfl rfl (StepOk.op rfl rfl rfl (y_loadP 10 rfl rfl (rfl) Tryd.underlying33 rfl)) rfl ?_
      refine Draw.step rfl rfl rfl (StepOk.op rfl rfl rfl (y_add rfl rfl (by first | exact wU_in (by omega) | rfl))) rfl ?_
      refine Draw.step rfl rfl rfl (StepOk.op rfl rfl rfl (y_indexP 3 rfl rfl Tryd.underlying125 ti33.siz rfl (by decide))) rfl ?_
      refine Draw.step rfl rfl rfl (StepOk.op rfl rfl rfl (y_loadP 10 rfl rfl (rfl) Tryd.underlying33 rfl)) rfl ?_
      refine Draw.step rfl rfl rfl (StepOk.op rfl rfl rfl (y_mul rfl rfl (by first | exact wU_in (by omega) | rfl))) rfl ?_
      refine Draw.step rfl rfl rfl (StepOk.op rfl rfl rfl (y_add rfl rfl (by first | exact wU_in (by omega) | rfl))) rfl ?_
      refine Draw.step rfl rfl rfl (StepOk.op rfl rfl rfl (y_move rfl)) rfl ?_
      refine Draw.step rfl rfl rfl (StepOk.op rfl rfl rfl (y_rem rfl rfl (by omega) (by first | exact tmod_of (by omega) | rfl))) rfl ?_
      refine Draw.step rfl rfl rfl (StepOk.op rfl rfl rfl (y_move rfl)) rfl ?_
      refine Draw.step rfl rfl rfl (StepOk.op rfl rfl rfl (y_indexP 3 rfl rfl Tryd.underlying125 ti33.siz rfl (by decide))) rfl ?_
      refine Draw.step rfl rfl rfl (StepOk.op rfl rfl rfl (y_loadP 10 rfl rfl (rfl) Tryd.underlying33 rfl)) rfl ?_
      refine Draw.step rfl rfl rfl (StepOk.op rfl rfl rfl (y_add rfl rfl (by first | exact wU_in (by omega) | rfl))) rfl ?_
      refine Draw.step rfl rfl rfl (StepOk.op rfl rfl rfl (y_indexP 0 rfl rfl Tryd.underlying125 ti33.siz rfl (by decide))) rfl ?_
      refine Draw.step rfl rfl rfl (StepOk.op rfl rfl rfl (y_loadP 10 rfl rfl (rfl) Tryd.underlying33 rfl)) rfl ?_
      refine Draw.step rfl rfl rfl (StepOk.op rfl rfl rfl (y_mul rfl rfl (by first | exact wU_in (by omega) | rfl))) rfl ?_
      refine Draw.step rfl rfl rfl (StepOk.op rfl rfl rfl (y_add rfl rfl (by first | exact wU_in (by omega) | rfl))) rfl ?_
      refine Draw.step rfl rfl rfl (StepOk.op rfl rfl rfl (y_move rfl)) rfl ?_
      refine Draw.step rfl rfl rfl (StepOk.op rfl rfl rfl (y_rem rfl rfl (by omega) (by first | exact tmod_of (by omega) | rfl))) rfl ?_
      refine Draw.step rfl rfl rfl (StepOk.op rfl rfl rfl (q_buildA Tryd.underlying125 ti125 rfl ti33 (.cons rfl (Part.one' rfl) rfl (.cons rfl (Part.one' rfl) rfl (.cons rfl (Part.one' rfl) rfl (.cons rfl (Part.one' rfl) rfl .nil)))))) rfl ?_
      refine Draw.tail (m := 41) rfl rfl rfl ?_
      refine Run.storeW 10 rfl rfl rfl ti125.siz rfl ?_
      refine Run.nil ?_
      refine Run.nB ?_
      refine Run.nT ?_
      refine Run.region ?_
      refine Run.op rfl rfl rfl (y_move rfl) ?_
      refine Run.op rfl rfl rfl (y_add rfl rfl (by first | exact wU_in (by omega) | rfl)) ?_
      refine Run.op rfl rfl rfl (y_assign rfl) ?_
      refine Run.nil ?_
      refine Run.nT ?_
      refine Run.round (n + 1) ?_ ?_ ?_ ?_
      · show n + 1 ≤ 8; omega
      · show 8 - (n + 1) < 8 - n; omega
      · rfl
      · exact (Incl.same (t := 4) rfl (Incl.same (t := 5) rfl (Incl.same (t := 6) rfl (Incl.same (t := 7) rfl (Incl.same (t := 8) rfl (Incl.same (t := 9) rfl (Incl.same (t := 10) rfl (Incl.int (t := 11) rfl (by omega) Incl.nil))))))))
  · obtain rfl : n = 8 := by have := of_decide_eq_false hb; omega
    refine Run.exit ?_
    refine Run.eT ?_
    refine Run.eT ?_
    refine Run.eB ?_
    refine Run.nT ?_
    refine Run.seq ?_
    refine Run.weaken (Incl.same (t := 4) rfl (Incl.same (t := 5) rfl (Incl.same (t := 6) rfl (Incl.same (t := 7) rfl (Incl.same (t := 8) rfl (Incl.same (t := 9) rfl (Incl.same (t := 10) rfl (Incl.same (t := 11) rfl Incl.nil)))))))) ?_
    refine q_draw ?_ rfl
    refine Draw.step rfl rfl rfl (StepOk.op rfl rfl rfl (y_indexP 0 rfl rfl Tryd.underlying125 ti33.siz rfl (by decide))) rfl ?_
    refine Draw.step rfl rfl rfl (StepOk.op rfl rfl rfl (y_loadP 10 rfl rfl (rfl) Tryd.underlying33 rfl)) rfl ?_
    refine Draw.step rfl rfl rfl (StepOk.op rfl rfl rfl (y_indexP 0 rfl rfl Tryd.underlying42 ti33.siz rfl (by decide))) rfl ?_
    refine Draw.step rfl rfl rfl (StepOk.op rfl rfl rfl (y_loadP 4 rfl rfl (rfl) Tryd.underlying33 rfl)) rfl ?_
    refine Draw.step rfl rfl rfl (StepOk.op rfl rfl rfl (y_add rfl rfl (by first | exact wU_in (by omega) | rfl))) rfl ?_
    refine Draw.step rfl rfl rfl (StepOk.op rfl rfl rfl (y_move rfl)) rfl ?_
    refine Draw.step rfl rfl rfl (StepOk.op rfl rfl rfl (y_rem rfl rfl (by omega) (by first | exact tmod_of (by omega) | rfl))) rfl ?_
    refine Draw.step rfl rfl rfl (StepOk.op rfl rfl rfl (y_indexP 1 rfl rfl Tryd.underlying125 ti33.siz rfl (by decide))) rfl ?_
    refine Draw.step rfl rfl rfl (StepOk.op rfl rfl rfl (y_loadP 10 rfl rfl (rfl) Tryd.underlying33 rfl)) rfl ?_
    refine Draw.step rfl rfl rfl (StepOk.op rfl rfl rfl (y_indexP 1 rfl rfl Tryd.underlying42 ti33.siz rfl (by decide))) rfl ?_
    refine Draw.step rfl rfl rfl (StepOk.op rfl rfl rfl (y_loadP 4 rfl rfl (rfl) Tryd.underlying33 rfl)) rfl ?_
    refine Draw.step rfl rfl rfl (StepOk.op rfl rfl rfl (y_add rfl rfl (by first | exact wU_in (by omega) | rfl))) rfl ?_
    refine Draw.step rfl rfl rfl (StepOk.op rfl rfl rfl (y_move rfl)) rfl ?_
    refine Draw.step rfl rfl rfl (StepOk.op rfl rfl rfl (y_rem rfl rfl (by omega) (by first | exact tmod_of (by omega) | rfl))) rfl ?_
    refine Draw.step rfl rfl rfl (StepOk.op rfl rfl rfl (q_buildA Tryd.underlying42 ti42 rfl ti33 (.cons rfl (Part.one' rfl) rfl (.cons rfl (Part.one' rfl) rfl .nil)))) rfl ?_
    refine Draw.tail (m := 15) rfl rfl rfl ?_
    refine Run.storeW 6 rfl rfl rfl ti42.siz rfl ?_
    refine Run.nil ?_
    refine Run.nT ?_
    refine Run.ret ?_
    exact Run.fin1 rfl rfl rfl (.agg 6 rfl rfl Tryd.underlying42 rfl ti42.siz) (fun _ _ h => h)

end

end Go.Vx
