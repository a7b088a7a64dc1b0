/- Plain laws: what the systems count is what the statement counts; what holds comes back. Conditions: none. -/
import Derived.Test.YtofnjbcbkfbomaaDoorWt
namespace Go.Vx
open Go Go.RowKit Go.Proofs

/-! sums -/
def S (g : Nat → Int) : Nat → Int
  | 0 => 0
  | k + 1 => S g k + g k
theorem csum_S (P : Nat → Bool) (f : Nat → Int) : ∀ N, csum P f N = S (fun k => if P k = true then f k else 0) N
  | 0 => rfl
  | N + 1 => by unfold csum S; rw [csum_S P f N]
theorem S_congr {g h : Nat → Int} : ∀ {N : Nat}, (∀ k, k < N → g k = h k) → S g N = S h N
  | 0, _ => rfl
  | N + 1, e => by unfold S; rw [S_congr (fun k hk => e k (by omega)), e N (by omega)]
theorem S_add (g h : Nat → Int) : ∀ N, S (fun k => g k + h k) N = S g N + S h N
  | 0 => rfl
  | N + 1 => by unfold S; rw [S_add g h N]; omega
theorem S_mul (c : Int) (g : Nat → Int) : ∀ N, S (fun k => c * g k) N = c * S g N
  | 0 => by simp [S]
  | N + 1 => by unfold S; rw [S_mul c g N, Int.mul_add]
theorem S_zero {g : Nat → Int} : ∀ {N : Nat}, (∀ k, k < N → g k = 0) → S g N = 0
  | 0, _ => rfl
  | N + 1, e => by unfold S; rw [S_zero (fun k hk => e k (by omega)), e N (by omega)]; rfl
theorem S_swap (g : Nat → Nat → Int) (M : Nat) : ∀ N, S (fun i => S (fun v => g i v) M) N = S (fun v => S (fun i => g i v) N) M
  | 0 => by
    exact (S_zero fun k _ => rfl).symm
  | N + 1 => by
    show S (fun i => S (fun v => g i v) M) N + S (fun v => g N v) M = S (fun v => S (fun i => g i v) N + g N v) M
    rw [S_swap g M N, S_add]
theorem S_delta {q : Nat} (f : Nat → Int) : ∀ {N : Nat}, q < N → S (fun k => if k = q then f k else 0) N = f q
  | 0, h => by omega
  | N + 1, h => by
    show S (fun k => if k = q then f k else 0) N + (if N = q then f N else 0) = f q
    by_cases e : q = N
    · subst e
      rw [S_zero (fun k hk => by rw [if_neg (by omega)]), if_pos rfl]; omega
    · rw [S_delta f (by omega), if_neg (fun h => e h.symm)]; omega
theorem S_mod {g h : Nat → Int} : ∀ {N : Nat}, (∀ k, k < N → (g k - h k) % 97 = 0) → (S g N - S h N) % 97 = 0
  | 0, _ => rfl
  | N + 1, e => by
    unfold S
    have h1 := S_mod (N := N) (fun k hk => e k (by omega))
    have h2 := e N (by omega)
    omega
theorem csum2_split (P P' : Nat → Bool) (f f' : Nat → Int) : ∀ N, csum2 P P' f f' N = csum P f N + csum P' f' N
  | 0 => rfl
  | N + 1 => by unfold csum2 csum; rw [csum2_split P P' f f' N]; omega
theorem csum_mul (P : Nat → Bool) (c : Int) : ∀ N, csum P (fun _ => c) N = c * csum P (fun _ => 1) N
  | 0 => by simp [csum]
  | N + 1 => by
    unfold csum
    rw [csum_mul P c N, Int.mul_add]
    congr 1
    split <;> omega
theorem cany_iff {P : Nat → Bool} : ∀ {N : Nat}, cany P N = true ↔ ∃ k, k < N ∧ P k = true
  | 0 => by simp [cany]
  | N + 1 => by
    unfold cany
    rw [Bool.or_eq_true, cany_iff (N := N)]
    constructor
    · rintro (⟨k, hk, h⟩ | h)
      · exact ⟨k, by omega, h⟩
      · exact ⟨N, by omega, h⟩
    · rintro ⟨k, hk, h⟩
      by_cases e : k = N
      · subst e; exact .inr h
      · exact .inl ⟨k, by omega, h⟩
theorem call_iff {P : Nat → Bool} : ∀ {N : Nat}, call P N = true ↔ ∀ k, k < N → P k = true
  | 0 => by simp [call]
  | N + 1 => by
    unfold call
    rw [Bool.and_eq_true, call_iff (N := N)]
    constructor
    · rintro ⟨h1, h2⟩ k hk
      by_cases e : k = N
      · subst e; exact h2
      · exact h1 k (by omega)
    · intro h; exact ⟨fun k hk => h k (by omega), h N (by omega)⟩
theorem lookB_iff {N : Nat} {x : T7} : ∀ {M : Nat}, lookB14 N x M = true ↔ ∀ i, i < M → (∃ k, k < N ∧ x.t k = x.e i) ∧ (csum (fun k => decide (x.t k = x.e i)) x.n N + 96 * csum (fun k => decide (x.e k = x.e i)) (fun _ => 1) N) % 97 = 0 ∧ (csum (fun k => decide (x.t k = x.t i)) x.n N + 96 * csum (fun k => decide (x.e k = x.t i)) (fun _ => 1) N) % 97 = 0
  | 0 => by simp [lookB14]
  | M + 1 => by
    unfold lookB14
    rw [Bool.and_eq_true, Bool.and_eq_true, Bool.and_eq_true, lookB_iff (M := M), cany_iff, decide_eq_true_eq, decide_eq_true_eq, csum2_split, csum_mul _ 96]
    simp only [decide_eq_true_eq]
    constructor
    · rintro ⟨⟨⟨h1, h2⟩, h3⟩, h4⟩ i hi
      by_cases e : i = M
      · subst e; exact ⟨h2, h3, h4⟩
      · exact h1 i (by omega)
    · intro h
      exact ⟨⟨⟨fun i hi => h i (by omega), (h M (by omega)).1⟩, (h M (by omega)).2.1⟩, (h M (by omega)).2.2⟩

/-! lists that are one another, turned -/
theorem perm_of_count {α : Type} [BEq α] [LawfulBEq α] : ∀ {A B : List α}, A.length = B.length → (∀ a ∈ A, A.count a ≤ B.count a) → A.Perm B
  | [], B, hl, _ => by
    have : B = [] := List.eq_nil_of_length_eq_zero (by simpa using hl.symm)
    subst this; exact List.Perm.refl _
  | a :: A, B, hl, h => by
    have ha : a ∈ B := by
      have := h a (by simp)
      rw [List.count_cons_self] at this
      exact List.count_pos_iff.1 (by omega)
    have hp := List.perm_cons_erase ha
    refine (List.Perm.cons a (perm_of_count (B := B.erase a) ?_ fun x hx => ?_)).trans hp.symm
    · rw [List.length_erase_of_mem ha, ← hl]; simp
    · have := h x (by simp [hx])
      by_cases e : x = a
      · subst e
        rw [List.count_cons_self] at this
        rw [List.count_erase_self]; omega
      · rw [List.count_cons_of_ne (fun hh => e hh.symm)] at this
        rw [List.count_erase_of_ne e]; exact this
theorem count_range {α : Type} [BEq α] [LawfulBEq α] [DecidableEq α] (f : Nat → α) (a : α) : ∀ N, ((((List.range N).map f).count a : Nat) : Int) = csum (fun k => decide (f k = a)) (fun _ => 1) N
  | 0 => rfl
  | N + 1 => by
    rw [List.range_succ, List.map_append, List.count_append, Int.natCast_add, count_range f a N]
    show _ = csum (fun k => decide (f k = a)) (fun _ => 1) N + (if decide (f N = a) = true then (1 : Int) else 0)
    refine congrArg (fun z => csum (fun k => decide (f k = a)) (fun _ => 1) N + z) ?_
    by_cases e : f N = a
    · subst e; simp
    · simp [e]
theorem occ_csum (kf : Nat → List UInt8) (k : List UInt8) : ∀ N, occ kf k N = csum (fun i => decide (kf i = k)) (fun _ => 1) N
  | 0 => rfl
  | N + 1 => by unfold occ csum; rw [occ_csum kf k N]; simp
theorem wsum_csum (kf : Nat → List UInt8) (n : Nat → Int) (k : List UInt8) : ∀ N, wsum kf n k N = csum (fun i => decide (kf i = k)) n N
  | 0 => rfl
  | N + 1 => by unfold wsum csum; rw [wsum_csum kf n k N]; simp
theorem csum_congr {P P' : Nat → Bool} {f f' : Nat → Int} : ∀ {N : Nat}, (∀ k, k < N → P k = P' k ∧ (P k = true → f k = f' k)) → csum P f N = csum P' f' N
  | 0, _ => rfl
  | N + 1, h => by
    unfold csum
    rw [csum_congr (N := N) fun k hk => h k (by omega)]
    obtain ⟨h1, h2⟩ := h N (by omega)
    rw [← h1]
    by_cases hp : P N = true
    · rw [if_pos hp, if_pos hp, h2 hp]
    · rw [if_neg hp, if_neg hp]
theorem csum_none {P : Nat → Bool} {f : Nat → Int} : ∀ {N : Nat}, (∀ k, k < N → P k = false) → csum P f N = 0
  | 0, _ => rfl
  | N + 1, h => by unfold csum; rw [csum_none fun k hk => h k (by omega), h N (by omega)]; rfl

/-! keys -/
theorem b8_inj {a b : Int} (ha : 0 ≤ a ∧ a < 97) (hb : 0 ≤ b ∧ b < 97) : b8 a = b8 b ↔ a = b := by
  constructor
  · intro h
    have := congrArg UInt8.toNat h
    unfold b8 at this
    simp at this
    omega
  · intro h; rw [h]
section
variable {N : Nat} {x : T7}
abbrev KL14 (N : Nat) (x : T7) : Nat → List UInt8 := fun i => key8 (ttx N x) (csx N x) i [(1, 0), (1, 1)]
abbrev KR14 (N : Nat) (x : T7) : Nat → List UInt8 := fun i => key8 (ttx N x) (csx N x) i [(1, 2), (1, 3)]
abbrev KT14 (N : Nat) (x : T7) : Nat → List UInt8 := fun i => key8 (ttx N x) (csx N x) i [(3, 0)]
abbrev KE14 (N : Nat) (x : T7) : Nat → List UInt8 := fun i => key8 (ttx N x) (csx N x) i [(1, 4)]
theorem KL_eq {i : Nat} (hi : i < N) : KL14 N x i = [b8 (x.a i), b8 0, b8 0, b8 0, b8 (x.b i), b8 0, b8 0, b8 0] := by
  have h1 : (rng N x.a).getD i 0 = x.a i := rng_getD hi
  have h2 : (rng N x.b).getD i 0 = x.b i := rng_getD hi
  show [b8 ((rng N x.a).getD i 0), b8 0, b8 0, b8 0, b8 ((rng N x.b).getD i 0), b8 0, b8 0, b8 0] = _
  rw [h1, h2]
theorem KR_eq {i : Nat} (hi : i < N) : KR14 N x i = [b8 (x.l i), b8 0, b8 0, b8 0, b8 (x.r i), b8 0, b8 0, b8 0] := by
  have h1 : (rng N x.l).getD i 0 = x.l i := rng_getD hi
  have h2 : (rng N x.r).getD i 0 = x.r i := rng_getD hi
  show [b8 ((rng N x.l).getD i 0), b8 0, b8 0, b8 0, b8 ((rng N x.r).getD i 0), b8 0, b8 0, b8 0] = _
  rw [h1, h2]
theorem KT_eq {i : Nat} (hi : i < N) : KT14 N x i = [b8 (x.t i), b8 0, b8 0, b8 0] := by
  have h1 : (rng N x.t).getD i 0 = x.t i := rng_getD hi
  show [b8 ((rng N x.t).getD i 0), b8 0, b8 0, b8 0] = _
  rw [h1]
theorem KE_eq {i : Nat} (hi : i < N) : KE14 N x i = [b8 (x.e i), b8 0, b8 0, b8 0] := by
  have h1 : (rng N x.e).getD i 0 = x.e i := rng_getD hi
  show [b8 ((rng N x.e).getD i 0), b8 0, b8 0, b8 0] = _
  rw [h1]
theorem pair_eq {a b c d : Int} (ha : 0 ≤ a ∧ a < 97) (hb : 0 ≤ b ∧ b < 97) (hc : 0 ≤ c ∧ c < 97) (hd : 0 ≤ d ∧ d < 97) : ([b8 a, b8 0, b8 0, b8 0, b8 b, b8 0, b8 0, b8 0] : List UInt8) = [b8 c, b8 0, b8 0, b8 0, b8 d, b8 0, b8 0, b8 0] ↔ (a = c ∧ b = d) := by
  simp only [List.cons.injEq, and_true, true_and, b8_inj ha hc, b8_inj hb hd]
theorem one_eq {a b : Int} (ha : 0 ≤ a ∧ a < 97) (hb : 0 ≤ b ∧ b < 97) : ([b8 a, b8 0, b8 0, b8 0] : List UInt8) = [b8 b, b8 0, b8 0, b8 0] ↔ a = b := by
  simp only [List.cons.injEq, and_true, b8_inj ha hb]
/-- The pairs. -/
abbrev PA (N : Nat) (x : T7) : List (Int × Int) := (List.range N).map fun i => (x.a i, x.b i)
abbrev PB (N : Nat) (x : T7) : List (Int × Int) := (List.range N).map fun i => (x.l i, x.r i)
theorem permB_perm : permB N x N = true ↔ (PA N x).Perm (PB N x) := by
  unfold permB
  rw [call_iff]
  simp only [decide_eq_true_eq]
  have hA : ∀ p : Int × Int, (((PA N x).count p : Nat) : Int) = csum (fun k => decide (x.a k = p.1) && decide (x.b k = p.2)) (fun _ => 1) N := fun p => by
    rw [count_range]
    refine csum_congr fun k _ => ⟨?_, fun _ => rfl⟩
    rw [← Bool.decide_and, decide_eq_decide, Prod.ext_iff]
  have hB : ∀ p : Int × Int, (((PB N x).count p : Nat) : Int) = csum (fun k => decide (x.l k = p.1) && decide (x.r k = p.2)) (fun _ => 1) N := fun p => by
    rw [count_range]
    refine csum_congr fun k _ => ⟨?_, fun _ => rfl⟩
    rw [← Bool.decide_and, decide_eq_decide, Prod.ext_iff]
  constructor
  · intro h
    refine perm_of_count (by simp) fun p hp => ?_
    obtain ⟨i, hi, rfl⟩ := List.mem_map.1 hp
    have := h i (by simpa using hi)
    have h1 := hA (x.a i, x.b i)
    have h2 := hB (x.a i, x.b i)
    simp only at h1 h2
    omega
  · intro h i hi
    have h1 := hA (x.a i, x.b i)
    have h2 := hB (x.a i, x.b i)
    simp only at h1 h2
    rw [← h1, ← h2, h.count_eq]
theorem bal_law (hx : okT x) : balB (ttx N x) (csx N x) N = permB N x N := by
  rw [Bool.eq_iff_iff]
  have hb := balB_iff (kl := KL14 N x) (kr := KR14 N x) (N := N)
  show allZ (balM (KL14 N x) (KR14 N x) N) = true ↔ _
  rw [hb]
  constructor
  · intro h
    unfold permB
    rw [call_iff]
    intro i hi
    rw [decide_eq_true_eq]
    have h1 := h (KL14 N x i)
    rw [occ_csum, occ_csum] at h1
    refine Eq.trans ?_ (h1.trans ?_)
    · refine csum_congr fun k hk => ⟨?_, fun _ => rfl⟩
      rw [← Bool.decide_and, decide_eq_decide, KL_eq hk, KL_eq hi, pair_eq (hx k).1 (hx k).2.1 (hx i).1 (hx i).2.1]
    · refine csum_congr fun k hk => ⟨?_, fun _ => rfl⟩
      rw [← Bool.decide_and, decide_eq_decide, KR_eq hk, KL_eq hi, pair_eq (hx k).2.2.1 (hx k).2.2.2.1 (hx i).1 (hx i).2.1]
  · intro h k
    have hp := permB_perm.1 h
    let κ : Int × Int → List UInt8 := fun p => [b8 p.1, b8 0, b8 0, b8 0, b8 p.2, b8 0, b8 0, b8 0]
    have hm := (hp.map κ).count_eq k
    have e1 : (PA N x).map κ = (List.range N).map (KL14 N x) := by
      rw [List.map_map]
      exact List.map_congr_left fun i hi => (KL_eq (by simpa using hi)).symm
    have e2 : (PB N x).map κ = (List.range N).map (KR14 N x) := by
      rw [List.map_map]
      exact List.map_congr_left fun i hi => (KR_eq (by simpa using hi)).symm
    rw [e1, e2] at hm
    have h1 := count_range (KL14 N x) k N
    have h2 := count_range (KR14 N x) k N
    rw [occ_csum, occ_csum, ← h1, ← h2, hm]
/-- Whether what is asked for is there, and in balance. -/
theorem cnt_law (hx : okT x) : cntB (ttx N x) (csx N x) N = lookB14 N x N := by
  have hn : ∀ i, i < N → ((csx N x).getD 5 []).getD i 0 = x.n i := fun i hi => by
    show (rng N x.n).getD i 0 = x.n i
    exact rng_getD hi
  let m0 : Cnt := cntM (KT14 N x) (fun i => ((csx N x).getD 5 []).getD i 0) N
  have hk0 : (mkeys m0).Nodup := cntM_keys _ _ _
  have hb0 : ∀ k, 0 ≤ (mget m0 k).getD 0 ∧ (mget m0 k).getD 0 < 97 := fun k => cnt_bnd _ _ _ k
  have hg : ∀ k, (mget m0 k).getD 0 = csum (fun i => decide (KT14 N x i = k)) x.n N % 97 ∧ ((mget m0 k).isSome = true ↔ ∃ j, j < N ∧ KT14 N x j = k) := fun k => by
    obtain ⟨h1, h2⟩ := cntM_get (KT14 N x) (fun i => ((csx N x).getD 5 []).getD i 0) k N
    refine ⟨?_, h2⟩
    rw [show (mget m0 k).getD 0 = _ from h1, wsum_csum]
    congr 1
    exact csum_congr fun i hi => ⟨rfl, fun _ => hn i hi⟩
  have hTE : ∀ j i, j < N → i < N → (KT14 N x j = KE14 N x i ↔ x.t j = x.e i) := fun j i hj hi => by rw [KT_eq hj, KE_eq hi, one_eq (hx j).2.2.2.2.2.2 (hx i).2.2.2.2.1]
  have hEE : ∀ j i, j < N → i < N → (KE14 N x j = KE14 N x i ↔ x.e j = x.e i) := fun j i hj hi => by rw [KE_eq hj, KE_eq hi, one_eq (hx j).2.2.2.2.1 (hx i).2.2.2.2.1]
  have hTT : ∀ j i, j < N → i < N → (KT14 N x j = KT14 N x i ↔ x.t j = x.t i) := fun j i hj hi => by rw [KT_eq hj, KT_eq hi, one_eq (hx j).2.2.2.2.2.2 (hx i).2.2.2.2.2.2]
  have hET : ∀ j i, j < N → i < N → (KE14 N x j = KT14 N x i ↔ x.e j = x.t i) := fun j i hj hi => by rw [KE_eq hj, KT_eq hi, one_eq (hx j).2.2.2.2.1 (hx i).2.2.2.2.2.2]
  have s1 : ∀ i, i < N → csum (fun j => decide (KT14 N x j = KE14 N x i)) x.n N = csum (fun k => decide (x.t k = x.e i)) x.n N := fun i hi => csum_congr fun j hj => ⟨by rw [decide_eq_decide]; exact hTE j i hj hi, fun _ => rfl⟩
  have s2 : ∀ i, i < N → occ (KE14 N x) (KE14 N x i) N = csum (fun k => decide (x.e k = x.e i)) (fun _ => 1) N := fun i hi => by
    rw [occ_csum]; exact csum_congr fun j hj => ⟨by rw [decide_eq_decide]; exact hEE j i hj hi, fun _ => rfl⟩
  have s3 : ∀ i, i < N → csum (fun j => decide (KT14 N x j = KT14 N x i)) x.n N = csum (fun k => decide (x.t k = x.t i)) x.n N := fun i hi => csum_congr fun j hj => ⟨by rw [decide_eq_decide]; exact hTT j i hj hi, fun _ => rfl⟩
  have s4 : ∀ i, i < N → occ (KE14 N x) (KT14 N x i) N = csum (fun k => decide (x.e k = x.t i)) (fun _ => 1) N := fun i hi => by
    rw [occ_csum]; exact csum_congr fun j hj => ⟨by rw [decide_eq_decide]; exact hET j i hj hi, fun _ => rfl⟩
  have total : ∀ i m, lessM (KE14 N x) m0 i = some m → True := fun _ _ _ => trivial
  rw [Bool.eq_iff_iff, lookB_iff]
  show (match lessM (KE14 N x) m0 N with | none => false | some m => allZ m) = true ↔ _
  constructor
  · intro h
    cases hl : lessM (KE14 N x) m0 N with
    | none => rw [hl] at h; cases h
    | some m =>
      rw [hl] at h
      simp only at h
      obtain ⟨g1, g2, g3, g4⟩ := lessM_get hk0 hb0 N m hl
      have hz : ∀ k, ((mget m0 k).getD 0 - occ (KE14 N x) k N) % 97 = 0 := fun k => by
        rw [← g2 k]
        cases hm : mget m k with
        | none => rfl
        | some v =>
          have hv := List.all_eq_true.1 h (k, v) ((mget_mem g1).2 hm)
          simp at hv
          simp [hv]
      intro i hi
      refine ⟨?_, ?_, ?_⟩
      · obtain ⟨j, hj, he⟩ := (hg (KE14 N x i)).2.1 (g4 i hi)
        exact ⟨j, hj, (hTE j i hj hi).1 he⟩
      · have := hz (KE14 N x i)
        rw [(hg _).1, s1 i hi, s2 i hi] at this
        omega
      · have := hz (KT14 N x i)
        rw [(hg _).1, s3 i hi, s4 i hi] at this
        omega
  · intro h
    have hsome : ∀ i, i ≤ N → ∃ m, lessM (KE14 N x) m0 i = some m := by
      intro i
      induction i with
      | zero => intro _; exact ⟨m0, rfl⟩
      | succ i ih =>
        intro hi
        obtain ⟨m, hm⟩ := ih (by omega)
        obtain ⟨_, _, g3, _⟩ := lessM_get hk0 hb0 i m hm
        obtain ⟨k, hk, hke⟩ := (h i (by omega)).1
        have hs : (mget m (KE14 N x i)).isSome = true := by
          rw [g3, (hg _).2]
          exact ⟨k, hk, (hTE k i hk (by omega)).2 hke⟩
        exact ⟨_, lessM_succ hm hs⟩
    obtain ⟨m, hm⟩ := hsome N (Nat.le_refl _)
    rw [hm]
    simp only
    obtain ⟨g1, g2, g3, g4⟩ := lessM_get hk0 hb0 N m hm
    unfold allZ
    rw [List.all_eq_true]
    rintro ⟨k, v⟩ hp
    have hkv := (mget_mem g1).1 hp
    have hv := g2 k
    rw [hkv] at hv
    simp only [Option.getD_some] at hv
    have hin : (mget m0 k).isSome = true := by rw [← g3, hkv]; rfl
    obtain ⟨j, hj, rfl⟩ := (hg k).2.1 hin
    have h3 := (h j hj).2.2
    rw [(hg _).1, s3 j hj, s4 j hj] at hv
    simp only [beq_iff_eq]
    rw [hv]
    omega
end
end Go.Vx
