/- Plain laws: weights and columns by hand, the constraints' zeros. Conditions: none. -/
import Derived.Test.YtofnjbcbkfbomaaDoorWr
namespace Go.Vx
open Go Go.RowKit Go.Proofs

abbrev csx (N : Nat) (x : T7) : List (List Int) := [rng N x.a, rng N x.b, rng N x.l, rng N x.r, rng N x.e, rng N x.n]
abbrev ttx (N : Nat) (x : T7) : List Int := rng N x.t
def w14 (a b c d : Int) : Int := (c + a + d * b) % 97
theorem wgt2 (a b c d : Int) : wgt 97 [a, b] c d = w14 a b c d := by
  unfold wgt wrev w14
  simp only [List.foldr_cons, List.foldr_nil, Int.zero_mul, Int.zero_emod, Int.zero_add]
  rw [mod_mul, Int.emod_add_emod, Int.mul_comm d b]
  generalize b * d = m
  omega
theorem wgt1 (a c d : Int) : wgt 97 [a] c d = w14 a 0 c d := by
  unfold wgt wrev w14
  simp only [List.foldr_cons, List.foldr_nil, Int.zero_mul, Int.zero_emod, Int.zero_add, Int.mul_zero, Int.add_zero]
  rw [Int.emod_add_emod]
  congr 1; omega
section
variable {N : Nat} {x : T7} {c d : Int} {j : Nat}
theorem LW_eq (hj : j < N) : LW (csx N x) (ttx N x) c d j = w14 (x.a j) (x.b j) c d := by
  have h1 : (rng N x.a).getD j 0 = x.a j := rng_getD hj
  have h2 : (rng N x.b).getD j 0 = x.b j := rng_getD hj
  show 1 * wgt 97 [(rng N x.a).getD j 0, (rng N x.b).getD j 0] c d % 97 = _
  rw [h1, h2, wgt2, Int.one_mul]
  unfold w14; rw [Int.emod_emod_of_dvd _ (Int.dvd_refl 97)]
theorem RW_eq (hj : j < N) : RW (csx N x) (ttx N x) c d j = w14 (x.l j) (x.r j) c d := by
  have h1 : (rng N x.l).getD j 0 = x.l j := rng_getD hj
  have h2 : (rng N x.r).getD j 0 = x.r j := rng_getD hj
  show 1 * wgt 97 [(rng N x.l).getD j 0, (rng N x.r).getD j 0] c d % 97 = _
  rw [h1, h2, wgt2, Int.one_mul]
  unfold w14; rw [Int.emod_emod_of_dvd _ (Int.dvd_refl 97)]
theorem UW_eq (hj : j < N) : UW (csx N x) (ttx N x) c d j = w14 (x.e j) 0 c d := by
  have h1 : (rng N x.e).getD j 0 = x.e j := rng_getD hj
  show wgt 97 [(rng N x.e).getD j 0] c d = _
  rw [h1, wgt1]
theorem TW_eq (hj : j < N) : TW (csx N x) (ttx N x) c d j = w14 (x.t j) 0 c d := by
  have h1 : (rng N x.t).getD j 0 = x.t j := rng_getD hj
  show wgt 97 [(rng N x.t).getD j 0] c d = _
  rw [h1, wgt1]
end
/-- The columns of this statement. -/
noncomputable abbrev Zc (N : Nat) (x : T7) (c d : Int) : Nat → Int := colZ (csx N x) (ttx N x) c d
noncomputable abbrev Yc (N : Nat) (x : T7) (c d : Int) : Nat → Int := colY (csx N x) (ttx N x) c d
abbrev nn14 (N : Nat) (x : T7) (c d : Int) : Bool := noneZ (csx N x) (ttx N x) c d N || noneY (csx N x) (ttx N x) c d N
theorem w14_lt (a b c d : Int) : 0 ≤ w14 a b c d ∧ w14 a b c d < 97 := em_lt (by decide) _
theorem Zc_lt (N : Nat) (x : T7) (c d : Int) : ∀ i, 0 ≤ Zc N x c d i ∧ Zc N x c d i < 97
  | 0 => by show 0 ≤ (1 : Int) ∧ (1 : Int) < 97; omega
  | i + 1 => em_lt (p := 97) (by decide) _
theorem Yc_lt (N : Nat) (x : T7) (c d : Int) : ∀ i, 0 ≤ Yc N x c d i ∧ Yc N x c d i < 97
  | 0 => by show 0 ≤ (0 : Int) ∧ (0 : Int) < 97; omega
  | i + 1 => em_lt (p := 97) (by decide) _
theorem Zc_succ {N : Nat} {x : T7} {c d : Int} {i : Nat} (hi : i < N) : Zc N x c d i * w14 (x.a i) (x.b i) c d % 97 * finv 97 (w14 (x.l i) (x.r i) c d) % 97 = Zc N x c d (i + 1) := by
  show _ = Zc N x c d i * (LW (csx N x) (ttx N x) c d i * finv 97 (RW (csx N x) (ttx N x) c d i) % 97) % 97
  rw [LW_eq hi, RW_eq hi, mod_mul, mul_mod, Int.mul_assoc]
theorem Yc_succ {N : Nat} {x : T7} {c d : Int} {i : Nat} (hi : i < N) : (Yc N x c d i + finv 97 (w14 (x.e i) 0 c d) + (97 - x.n i) * finv 97 (w14 (x.t i) 0 c d)) % 97 = Yc N x c d (i + 1) := by
  have hn : ((csx N x).getD 5 []).getD i 0 = x.n i := by
    show (rng N x.n).getD i 0 = x.n i
    exact rng_getD hi
  show _ = ((Yc N x c d i + finv 97 (UW (csx N x) (ttx N x) c d i)) % 97 - ((csx N x).getD 5 []).getD i 0 * finv 97 (TW (csx N x) (ttx N x) c d i) % 97) % 97
  rw [UW_eq hi, TW_eq hi, hn, Int.emod_sub_emod, Int.sub_emod_emod, Int.sub_mul]
  generalize finv 97 (w14 (x.e i) 0 c d) = u
  generalize finv 97 (w14 (x.t i) 0 c d) = w
  generalize x.n i * w = nw
  omega
/-! whether there is a column -/
def NB (N : Nat) (x : T7) (c d : Int) (i : Nat) : Bool := (decide (w14 (x.e i) 0 c d = 0) || decide (w14 (x.t i) 0 c d = 0)) || decide (w14 (x.l i) (x.r i) c d = 0)
/-- As the statement gathers it. -/
def nacc (N : Nat) (x : T7) (c d : Int) : Nat → Bool
  | 0 => false
  | i + 1 => ((nacc N x c d i || decide (w14 (x.e i) 0 c d = 0)) || decide (w14 (x.t i) 0 c d = 0)) || decide (w14 (x.l i) (x.r i) c d = 0)
theorem nacc_iff {N : Nat} {x : T7} {c d : Int} : ∀ i, nacc N x c d i = true ↔ ∃ j, j < i ∧ (w14 (x.e j) 0 c d = 0 ∨ w14 (x.t j) 0 c d = 0 ∨ w14 (x.l j) (x.r j) c d = 0)
  | 0 => by simp [nacc]
  | i + 1 => by
    unfold nacc
    simp only [Bool.or_eq_true, decide_eq_true_eq, nacc_iff i]
    constructor
    · rintro (((⟨j, hj, h⟩ | h) | h) | h)
      · exact ⟨j, by omega, h⟩
      · exact ⟨i, by omega, .inl h⟩
      · exact ⟨i, by omega, .inr (.inl h)⟩
      · exact ⟨i, by omega, .inr (.inr h)⟩
    · rintro ⟨j, hj, h⟩
      by_cases e : j = i
      · subst e
        rcases h with h | h | h
        · exact .inl (.inl (.inr h))
        · exact .inl (.inr h)
        · exact .inr h
      · exact .inl (.inl (.inl ⟨j, by omega, h⟩))
theorem prt_mem {u w : Nat → Int} {y : Int} : ∀ {n : Nat}, y ∈ prt u w n ↔ ∃ j, j < n ∧ (y = u j ∨ y = w j)
  | 0 => by simp [prt]
  | n + 1 => by
    unfold prt
    simp only [List.mem_append, List.mem_cons, List.not_mem_nil, or_false, prt_mem (n := n)]
    constructor
    · rintro (⟨j, hj, h⟩ | h | h)
      · exact ⟨j, by omega, h⟩
      · exact ⟨n, by omega, .inl h⟩
      · exact ⟨n, by omega, .inr h⟩
    · rintro ⟨j, hj, h⟩
      by_cases e : j = n
      · subst e; exact .inr h
      · exact .inl ⟨j, by omega, h⟩
theorem nacc_nn (N : Nat) (x : T7) (c d : Int) : nacc N x c d N = nn14 N x c d := by
  rw [Bool.eq_iff_iff, nacc_iff]
  unfold nn14 noneZ noneY
  simp only [Bool.or_eq_true, List.any_eq_true, decide_eq_true_eq]
  constructor
  · rintro ⟨j, hj, h | h | h⟩
    · exact .inr ⟨0, prt_mem.2 ⟨j, hj, .inl (by rw [UW_eq hj, h])⟩, rfl⟩
    · exact .inr ⟨0, prt_mem.2 ⟨j, hj, .inr (by rw [TW_eq hj, h])⟩, rfl⟩
    · exact .inl ⟨0, List.mem_map.2 ⟨j, by simpa using hj, by rw [RW_eq hj, h]⟩, rfl⟩
  · rintro (⟨y, hy, rfl⟩ | ⟨y, hy, rfl⟩)
    · obtain ⟨j, hj, h⟩ := List.mem_map.1 hy
      have hj' : j < N := by simpa using hj
      rw [RW_eq hj'] at h
      exact ⟨j, hj', .inr (.inr h)⟩
    · obtain ⟨j, hj, h | h⟩ := prt_mem.1 hy
      · rw [UW_eq hj] at h; exact ⟨j, hj, .inl h.symm⟩
      · rw [TW_eq hj] at h; exact ⟨j, hj, .inr (.inl h.symm)⟩
/-- The columns, by whether a weight is 0. -/
noncomputable def colsB (N : Nat) (x : T7) (c d : Int) : Bool → List (List Int)
  | true => []
  | false => [rng N (Zc N x c d), rng N (Yc N x c d)]
def errB : Bool → Int
  | true => 7
  | false => 0
theorem cols_b' {N : Nat} {x : T7} {c d : Int} {b : Bool} (h : nacc N x c d N = b) : colsR (csx N x) (ttx N x) c d N = colsB N x c d b ∧ errR (csx N x) (ttx N x) c d N = errB b := by
  rw [nacc_nn] at h
  unfold colsR errR
  have h' : (noneZ (csx N x) (ttx N x) c d N || noneY (csx N x) (ttx N x) c d N) = b := h
  rw [h']
  cases b <;> exact ⟨rfl, rfl⟩

/-! the constraints -/
theorem nz_of {N : Nat} {x : T7} {c d : Int} (h : nacc N x c d N = false) {i : Nat} (hi : i < N) : w14 (x.e i) 0 c d % 97 ≠ 0 ∧ w14 (x.t i) 0 c d % 97 ≠ 0 ∧ w14 (x.l i) (x.r i) c d % 97 ≠ 0 := by
  have hn : ∀ j, j < N → ¬ (w14 (x.e j) 0 c d = 0 ∨ w14 (x.t j) 0 c d = 0 ∨ w14 (x.l j) (x.r j) c d = 0) := fun j hj hh => by
    have := nacc_iff (N := N) (x := x) (c := c) (d := d) N |>.2 ⟨j, hj, hh⟩
    rw [h] at this; cases this
  have := hn i hi
  have h1 := w14_lt (x.e i) 0 c d
  have h2 := w14_lt (x.t i) 0 c d
  have h3 := w14_lt (x.l i) (x.r i) c d
  omega
theorem cancel97 {a b r : Int} (hr : r % 97 ≠ 0) : (a * r - b) % 97 = 0 ↔ a % 97 = b * finv 97 r % 97 := by
  have hi := finv_mul prime97 (p := 97) (by decide) hr
  constructor
  · intro h
    have h1 : a * r % 97 = b % 97 := Int.emod_eq_emod_iff_emod_sub_eq_zero.2 h
    rw [← mod_mul, ← h1, mod_mul, Int.mul_assoc, ← mul_mod, hi, Int.mul_one]
  · intro h
    refine Int.emod_eq_emod_iff_emod_sub_eq_zero.1 ?_
    rw [← mod_mul, h, mod_mul, Int.mul_assoc, Int.mul_comm (finv 97 r), ← mul_mod, hi, Int.mul_one]
/-- The first constraint. -/
theorem v0_law {N : Nat} {x : T7} {c d : Int} (h : nacc N x c d N = false) {i : Nat} (hi : i < N) :
    decide ((Zc N x c d ((i + 1) % N) * w14 (x.l i) (x.r i) c d % 97 - Zc N x c d i * w14 (x.a i) (x.b i) c d % 97) % 97 = 0) = (decide (i + 1 < N) || decide (Zc N x c d N = 1)) := by
  rw [Int.emod_sub_emod, Int.sub_emod_emod]
  have hz := Zc_lt N x c d ((i + 1) % N)
  have key : (Zc N x c d ((i + 1) % N) * w14 (x.l i) (x.r i) c d - Zc N x c d i * w14 (x.a i) (x.b i) c d) % 97 = 0 ↔ Zc N x c d ((i + 1) % N) = Zc N x c d (i + 1) := by
    rw [cancel97 (nz_of h hi).2.2, ← Zc_succ hi, Int.emod_eq_of_lt hz.1 hz.2, mod_mul]
  rw [Bool.eq_iff_iff, decide_eq_true_eq, key, Bool.or_eq_true, decide_eq_true_eq, decide_eq_true_eq]
  by_cases hl : i + 1 < N
  · rw [Nat.mod_eq_of_lt hl]; simp [hl]
  · have e : i + 1 = N := by omega
    rw [e, Nat.mod_self]
    have h0 : Zc N x c d 0 = 1 := rfl
    rw [h0]
    constructor
    · intro h; exact .inr h.symm
    · rintro (h | h)
      · omega
      · exact h.symm
theorem v1_law {z : Int} (hz : 0 ≤ z ∧ z < 97) : decide ((z - 1) % 97 = 0) = decide (z = 1) := by
  rw [decide_eq_decide]; omega
theorem v3_law {z : Int} (hz : 0 ≤ z ∧ z < 97) : decide ((z - 0) % 97 = 0) = decide (z = 0) := by
  rw [decide_eq_decide]; omega
/-- The third constraint. -/
theorem v2_law {N : Nat} {x : T7} {c d : Int} (h : nacc N x c d N = false) {i : Nat} (hi : i < N) :
    decide ((((Yc N x c d ((i + 1) % N) - Yc N x c d i) % 97 * (w14 (x.e i) 0 c d * w14 (x.t i) 0 c d % 97) % 97 + x.n i * w14 (x.e i) 0 c d % 97) % 97 - w14 (x.t i) 0 c d) % 97 = 0) = (decide (i + 1 < N) || decide (Yc N x c d N = 0)) := by
  obtain ⟨hu, hw, _⟩ := nz_of h hi
  have hy := Yc_lt N x c d ((i + 1) % N)
  have hy1 := Yc_lt N x c d (i + 1)
  have hs := Yc_succ (N := N) (x := x) (c := c) (d := d) hi
  have key : ((((Yc N x c d ((i + 1) % N) - Yc N x c d i) % 97 * (w14 (x.e i) 0 c d * w14 (x.t i) 0 c d % 97) % 97 + x.n i * w14 (x.e i) 0 c d % 97) % 97 - w14 (x.t i) 0 c d) % 97 = 0) ↔ Yc N x c d ((i + 1) % N) = Yc N x c d (i + 1) := by
    generalize Yc N x c d ((i + 1) % N) = y2 at hy ⊢
    generalize Yc N x c d (i + 1) = y1 at hs hy1 ⊢
    generalize Yc N x c d i = y at hs ⊢
    generalize w14 (x.e i) 0 c d = u at hu hs ⊢
    generalize w14 (x.t i) 0 c d = w at hw hs ⊢
    generalize x.n i = n at hs ⊢
    have hiu := finv_mul prime97 (p := 97) (by decide) hu
    have hiw := finv_mul prime97 (p := 97) (by decide) hw
    generalize finv 97 u = u' at hs hiu
    generalize finv 97 w = w' at hs hiw
    have e1 : (((y2 - y) % 97 * (u * w % 97) % 97 + n * u % 97) % 97 - w) % 97 = ((y2 - y) * (u * w) + n * u - w) % 97 := by
      rw [Int.emod_sub_emod, mod_mul, mul_mod, ← Int.emod_sub_emod ((y2 - y) * (u * w) % 97 + n * u % 97), ← Int.add_emod, Int.emod_sub_emod]
    rw [e1]
    -- times the inverses
    have e2 : ((y2 - y) * (u * w) + n * u - w) * (u' * w') % 97 = (y2 - y - u' + n * w') % 97 := by
      have a1 : ((y2 - y) * (u * w) + n * u - w) * (u' * w') = (y2 - y) * ((u * u') * (w * w')) + n * ((u * u') * w') - (w * w') * u' := by
        have p1 : (y2 - y) * (u * w) * (u' * w') = (y2 - y) * ((u * u') * (w * w')) := by
          rw [Int.mul_assoc]; congr 1
          rw [Int.mul_assoc, Int.mul_assoc]; congr 1
          rw [← Int.mul_assoc, ← Int.mul_assoc, Int.mul_comm w u']
        have p2 : n * u * (u' * w') = n * ((u * u') * w') := by rw [Int.mul_assoc]; congr 1; rw [Int.mul_assoc]
        have p3 : w * (u' * w') = (w * w') * u' := by rw [Int.mul_comm u' w', Int.mul_assoc]
        rw [Int.sub_mul, Int.add_mul, p1, p2, p3]
      have q1 : (y2 - y) * ((u * u') * (w * w')) % 97 = (y2 - y) % 97 := by
        rw [← mul_mod, Int.mul_emod (u * u'), hiu, hiw]; simp
      have q2 : n * ((u * u') * w') % 97 = n * w' % 97 := by
        rw [← mul_mod, ← mod_mul 97 (u * u'), hiu, mul_mod, Int.one_mul]
      have q3 : (w * w') * u' % 97 = u' % 97 := by rw [← mod_mul, hiw, Int.one_mul]
      rw [a1, Int.sub_emod, Int.add_emod, q1, q2, q3, ← Int.add_emod, ← Int.sub_emod]
      congr 1; omega
    have hne : (u' * w') % 97 ≠ 0 := by
      refine mul_ne prime97 (p := 97) (by decide) ?_ ?_
      · intro h0
        rw [← mul_mod, h0] at hiu; simp at hiu
      · intro h0
        rw [← mul_mod, h0] at hiw; simp at hiw
    have e3 : ((y2 - y) * (u * w) + n * u - w) % 97 = 0 ↔ (y2 - y - u' + n * w') % 97 = 0 := by
      rw [← e2]
      constructor
      · intro h0; rw [← mod_mul, h0]; simp
      · intro h0
        refine Classical.byContradiction fun hh => ?_
        exact mul_ne prime97 (p := 97) (by decide) hh hne h0
    rw [e3]
    rw [Int.sub_mul] at hs
    generalize n * w' = nw at hs ⊢
    omega
  rw [Bool.eq_iff_iff, decide_eq_true_eq, key, Bool.or_eq_true, decide_eq_true_eq, decide_eq_true_eq]
  by_cases hl : i + 1 < N
  · rw [Nat.mod_eq_of_lt hl]; simp [hl]
  · have e : i + 1 = N := by omega
    rw [e, Nat.mod_self]
    have h0 : Yc N x c d 0 = 0 := rfl
    rw [h0]
    constructor
    · intro h; exact .inr h.symm
    · rintro (h | h)
      · omega
      · exact h.symm
end Go.Vx
