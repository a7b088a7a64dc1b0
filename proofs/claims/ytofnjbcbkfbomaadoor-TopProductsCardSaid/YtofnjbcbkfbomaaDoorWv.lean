/- Plain laws: what holds is argued at each challenge; honest columns hold. Conditions: none. -/
import Derived.Test.YtofnjbcbkfbomaaDoorWu
namespace Go.Vx
open Go Go.RowKit Go.Proofs

/-! products -/
def prodL (c d : Int) (l : List (Int × Int)) : Int := l.foldl (fun z p => z * w14 p.1 p.2 c d) 1
theorem prodL_snoc (c d : Int) (l : List (Int × Int)) (p : Int × Int) : prodL c d (l ++ [p]) = prodL c d l * w14 p.1 p.2 c d := by
  unfold prodL; rw [List.foldl_append]; rfl
theorem prodL_perm {c d : Int} {l l' : List (Int × Int)} (h : l.Perm l') : prodL c d l = prodL c d l' := by
  unfold prodL
  refine h.foldl_eq' (fun x _ y _ z => ?_) 1
  rw [Int.mul_assoc, Int.mul_assoc, Int.mul_comm (w14 _ _ _ _)]
section
variable {N : Nat} {x : T7} {c d : Int}
abbrev PAr (n : Nat) (x : T7) : List (Int × Int) := (List.range n).map fun i => (x.a i, x.b i)
abbrev PBr (n : Nat) (x : T7) : List (Int × Int) := (List.range n).map fun i => (x.l i, x.r i)
theorem PAr_succ (n : Nat) : PAr (n + 1) x = PAr n x ++ [(x.a n, x.b n)] := by unfold PAr; rw [List.range_succ, List.map_append]; rfl
theorem PBr_succ (n : Nat) : PBr (n + 1) x = PBr n x ++ [(x.l n, x.r n)] := by unfold PBr; rw [List.range_succ, List.map_append]; rfl
theorem mul_right_c (a b e : Int) : a * b * e = a * e * b := by rw [Int.mul_assoc, Int.mul_comm b, ← Int.mul_assoc]
theorem Z_prod (h : nacc N x c d N = false) : ∀ n, n ≤ N → Zc N x c d n * prodL c d (PBr n x) % 97 = prodL c d (PAr n x) % 97 ∧ prodL c d (PBr n x) % 97 ≠ 0
  | 0, _ => ⟨rfl, show (1 : Int) % 97 ≠ 0 by decide⟩
  | n + 1, hn => by
    obtain ⟨h1, h2⟩ := Z_prod h n (by omega)
    have hw := (nz_of h (show n < N by omega)).2.2
    rw [PAr_succ, PBr_succ, prodL_snoc, prodL_snoc]
    refine ⟨?_, mul_ne prime97 (p := 97) (by decide) h2 hw⟩
    have hs := Zc_succ (N := N) (x := x) (c := c) (d := d) (show n < N by omega)
    have hi := finv_mul prime97 (p := 97) (by decide) hw
    generalize w14 (x.a n) (x.b n) c d = L at hs ⊢
    generalize w14 (x.l n) (x.r n) c d = R at hs hi hw ⊢
    generalize prodL c d (PBr n x) = B at h1 ⊢
    generalize prodL c d (PAr n x) = A at h1 ⊢
    show Zc N x c d (n + 1) * (B * R) % 97 = A * L % 97
    rw [← hs]
    generalize Zc N x c d n = z at h1 ⊢
    have e1 : z * L % 97 * finv 97 R % 97 * (B * R) % 97 = z * B * L * (R * finv 97 R) % 97 := by
      rw [mod_mul, Int.mul_assoc, mod_mul]
      congr 1
      have : finv 97 R * (B * R) = B * (R * finv 97 R) := by rw [Int.mul_comm, Int.mul_assoc]
      rw [this, ← Int.mul_assoc, mul_right_c z L B]
    rw [e1, ← mul_mod, hi, Int.mul_one, ← mod_mul, h1, mod_mul]
/-- The first columns come back. -/
theorem perm_Z (hp : permB N x N = true) : (nacc N x c d N || decide (Zc N x c d N = 1)) = true := by
  cases h : nacc N x c d N with
  | true => rfl
  | false =>
    obtain ⟨h1, h2⟩ := Z_prod h N (Nat.le_refl _)
    rw [prodL_perm (permB_perm.1 hp)] at h1
    have hz := Zc_lt N x c d N
    generalize Zc N x c d N = z at h1 hz ⊢
    change z * prodL c d (PBr N x) % 97 = prodL c d (PBr N x) % 97 at h1
    generalize prodL c d (PBr N x) = B at h1 h2
    rw [Bool.false_or, decide_eq_true_eq]
    have h3 : (z - 1) * B % 97 = 0 := by
      rw [Int.sub_mul, Int.one_mul]; exact Int.emod_eq_emod_iff_emod_sub_eq_zero.1 h1
    have h4 : (z - 1) % 97 = 0 := Classical.byContradiction fun hh => mul_ne prime97 (p := 97) (by decide) hh h2 h3
    omega

/-! sums -/
theorem S_by (f : Nat → Int) (F : Int → Int) (m : Nat → Int) (hf : ∀ i, 0 ≤ f i ∧ f i < 97) (N : Nat) : S (fun i => m i * F (f i)) N = S (fun v => F (v : Nat) * csum (fun i => decide (f i = (v : Int))) m N) 97 := by
  have e1 : S (fun i => m i * F (f i)) N = S (fun i => S (fun v => if v = (f i).toNat then m i * F (v : Nat) else 0) 97) N := S_congr fun i _ => by
    have hi := hf i
    rw [S_delta (q := (f i).toNat) (fun v => m i * F (v : Nat)) (by omega)]
    rw [show (((f i).toNat : Nat) : Int) = f i by omega]
  rw [e1, S_swap]
  refine S_congr fun v _ => ?_
  rw [csum_S, ← S_mul]
  refine S_congr fun i _ => ?_
  have hi := hf i
  show (if v = (f i).toNat then m i * F (v : Nat) else 0) = F (v : Nat) * (if decide (f i = (v : Int)) = true then m i else 0)
  by_cases e : v = (f i).toNat
  · rw [if_pos e, if_pos (by rw [decide_eq_true_eq]; omega), Int.mul_comm]
  · rw [if_neg e, if_neg (by rw [decide_eq_true_eq]; omega), Int.mul_zero]
theorem Y_sum (N : Nat) (x : T7) (c d : Int) : ∀ n, n ≤ N → (Yc N x c d n - (S (fun i => 1 * finv 97 (w14 (x.e i) 0 c d)) n - S (fun i => x.n i * finv 97 (w14 (x.t i) 0 c d)) n)) % 97 = 0
  | 0, _ => rfl
  | n + 1, hn => by
    have h := Y_sum N x c d n (by omega)
    have hs := Yc_succ (N := N) (x := x) (c := c) (d := d) (show n < N by omega)
    show (_ - (S (fun i => 1 * finv 97 (w14 (x.e i) 0 c d)) n + 1 * finv 97 (w14 (x.e n) 0 c d) - (S (fun i => x.n i * finv 97 (w14 (x.t i) 0 c d)) n + x.n n * finv 97 (w14 (x.t n) 0 c d)))) % 97 = 0
    rw [← hs, Int.sub_mul, Int.one_mul]
    generalize S (fun i => 1 * finv 97 (w14 (x.e i) 0 c d)) n = A at h ⊢
    generalize S (fun i => x.n i * finv 97 (w14 (x.t i) 0 c d)) n = B at h ⊢
    generalize finv 97 (w14 (x.e n) 0 c d) = u
    generalize finv 97 (w14 (x.t n) 0 c d) = w
    generalize x.n n * w = nw
    generalize Yc N x c d n = y at h ⊢
    omega
/-- The second columns come back. -/
theorem look_Y (hx : okT x) (hl : lookB14 N x N = true) : (nacc N x c d N || decide (Yc N x c d N = 0)) = true := by
  rw [Bool.or_eq_true]; refine .inr ?_
  rw [decide_eq_true_eq]
  have h := Y_sum N x c d N (Nat.le_refl _)
  have hl := lookB_iff.1 hl
  rw [S_by x.e (fun v => finv 97 (w14 v 0 c d)) (fun _ => 1) (fun i => (hx i).2.2.2.2.1) N, S_by x.t (fun v => finv 97 (w14 v 0 c d)) x.n (fun i => (hx i).2.2.2.2.2.2) N] at h
  have hm : ∀ v : Int, (csum (fun i => decide (x.e i = v)) (fun _ => 1) N - csum (fun i => decide (x.t i = v)) x.n N) % 97 = 0 := fun v => by
    by_cases h1 : ∃ i, i < N ∧ x.e i = v
    · obtain ⟨i, hi, rfl⟩ := h1
      have := (hl i hi).2.1
      omega
    · by_cases h2 : ∃ i, i < N ∧ x.t i = v
      · obtain ⟨i, hi, rfl⟩ := h2
        have := (hl i hi).2.2
        omega
      · rw [csum_none (fun k hk => decide_eq_false fun e => h1 ⟨k, hk, e⟩), csum_none (fun k hk => decide_eq_false fun e => h2 ⟨k, hk, e⟩)]; rfl
  have hS := S_mod (N := 97) (g := fun v : Nat => finv 97 (w14 (v : Nat) 0 c d) * csum (fun i => decide (x.e i = ((v : Nat) : Int))) (fun _ => 1) N) (h := fun v : Nat => finv 97 (w14 (v : Nat) 0 c d) * csum (fun i => decide (x.t i = ((v : Nat) : Int))) x.n N) (fun v _ => by
    have := hm v
    rw [← Int.mul_sub, ← mul_mod, this]; simp)
  have hy := Yc_lt N x c d N
  omega

/-! honest columns -/
theorem ok_base {l : List Int} (hl : ∀ x ∈ l, 0 ≤ x ∧ x < 256) : okT (base14 l) := fun q => by
  have h := at14_lt hl
  have hn := em_lt (p := 3) (by decide) (at14 l (q + 4))
  exact ⟨h _, h _, h _, h _, h _, ⟨hn.1, by show at14 l (q + 4) % 3 < 97; omega⟩, h _⟩
theorem ok_hon {l : List Int} (hl : ∀ x ∈ l, 0 ≤ x ∧ x < 256) {N : Nat} (hN : N ≤ 8) : okT (hon14 N (base14 l)) := fun q => by
  have h := ok_base hl
  have hc := cnt_bnd14 N (base14 l).t (fun i => (base14 l).t (i * i % N)) q N
  exact ⟨(h q).1, (h q).2.1, (h _).1, (h _).2.1, (h _).2.2.2.2.2.2, ⟨hc.1, by show cnt14 N (base14 l).t (fun i => (base14 l).t (i * i % N)) N q < 97; omega⟩, (h q).2.2.2.2.2.2⟩
theorem ok_cols {l : List Int} (hl : ∀ x ∈ l, 0 ≤ x ∧ x < 256) {N : Nat} (hN : N ≤ 8) (b : Bool) : okT (cols14 N l b) := by
  cases b
  · exact ok_base hl
  · exact ok_hon hl hN
theorem least {P : Nat → Prop} : ∀ {k : Nat}, P k → ∃ j, j ≤ k ∧ P j ∧ ∀ q, q < j → ¬ P q
  | k, h => by
    by_cases hq : ∃ q, q < k ∧ P q
    · obtain ⟨q, hq1, hq2⟩ := hq
      obtain ⟨j, h1, h2, h3⟩ := least hq2
      exact ⟨j, by omega, h2, h3⟩
    · exact ⟨k, Nat.le_refl _, h, fun q hq1 hq2 => hq ⟨q, hq1, hq2⟩⟩
termination_by k => k
theorem cnt_sum {t e : Nat → Int} (he : ∀ i, i < N → ∃ k, k < N ∧ t k = e i) (v : Int) : ∀ m, m ≤ N → csum (fun k => decide (t k = v)) (cnt14 N t e m) N = csum (fun i => decide (e i = v)) (fun _ => 1) m
  | 0, _ => by
    show csum _ (fun _ => 0) N = 0
    rw [csum_mul _ 0]; simp
  | m + 1, hm => by
    have h := cnt_sum he v m (by omega)
    obtain ⟨k0, hk0, hk1⟩ := he m (by omega)
    obtain ⟨k, h1, h2, h3⟩ := least (P := fun k => t k = e m) hk1
    have hkf : kf N t e m = k := kf_is (by omega) h2 h3
    show _ = csum (fun i => decide (e i = v)) (fun _ => 1) m + (if decide (e m = v) = true then 1 else 0)
    rw [← h, csum_S, csum_S]
    have : ∀ q, (if decide (t q = v) = true then cnt14 N t e (m + 1) q else 0) = (if decide (t q = v) = true then cnt14 N t e m q else 0) + (if q = k then (if decide (t q = v) = true then 1 else 0) else 0) := fun q => by
      show (if decide (t q = v) = true then cnt14 N t e m q + (if q = kf N t e m then 1 else 0) else 0) = _
      rw [hkf]
      by_cases ht : decide (t q = v) = true
      · rw [if_pos ht, if_pos ht, if_pos ht]
      · rw [if_neg ht, if_neg ht, if_neg ht]; split <;> rfl
    rw [S_congr (fun q _ => this q), S_add, S_delta (q := k) (fun q => if decide (t q = v) = true then 1 else 0) (by omega), h2]
theorem hon_perm {y : T7} (hN : 0 < N) : permB N (hon14 N y) N = true := by
  rw [permB_perm]
  obtain ⟨M, rfl⟩ : ∃ M, N = M + 1 := ⟨N - 1, by omega⟩
  show ((List.range (M + 1)).map fun i => (y.a i, y.b i)).Perm ((List.range (M + 1)).map fun i => (y.a ((i + 1) % (M + 1)), y.b ((i + 1) % (M + 1))))
  have e1 : (List.range (M + 1)).map (fun i => (y.a i, y.b i)) = (y.a 0, y.b 0) :: (List.range M).map (fun i => (y.a (i + 1), y.b (i + 1))) := by
    rw [List.range_succ_eq_map, List.map_cons, List.map_map]; rfl
  have e2 : (List.range (M + 1)).map (fun i => (y.a ((i + 1) % (M + 1)), y.b ((i + 1) % (M + 1)))) = (List.range M).map (fun i => (y.a (i + 1), y.b (i + 1))) ++ [(y.a 0, y.b 0)] := by
    rw [List.range_succ, List.map_append]
    congr 1
    · refine List.map_congr_left fun i hi => ?_
      have : i < M := by simpa using hi
      rw [Nat.mod_eq_of_lt (by omega)]
    · simp
  rw [e1, e2]
  exact (List.perm_append_comm (l₁ := [(y.a 0, y.b 0)]))
theorem hon_look {y : T7} (hN : 0 < N) : lookB14 N (hon14 N y) N = true := by
  rw [lookB_iff]
  intro i hi
  have he : ∀ i, i < N → ∃ k, k < N ∧ y.t k = (fun i => y.t (i * i % N)) i := fun i _ => ⟨i * i % N, Nat.mod_lt _ hN, rfl⟩
  refine ⟨he i hi, ?_, ?_⟩
  · have := cnt_sum he (y.t (i * i % N)) N (Nat.le_refl _)
    show (csum (fun k => decide (y.t k = y.t (i * i % N))) (cnt14 N y.t (fun i => y.t (i * i % N)) N) N + 96 * csum (fun k => decide (y.t (k * k % N) = y.t (i * i % N))) (fun _ => 1) N) % 97 = 0
    rw [this]
    generalize csum (fun k => decide (y.t (k * k % N) = y.t (i * i % N))) (fun _ => 1) N = z
    omega
  · have := cnt_sum he (y.t i) N (Nat.le_refl _)
    show (csum (fun k => decide (y.t k = y.t i)) (cnt14 N y.t (fun i => y.t (i * i % N)) N) N + 96 * csum (fun k => decide (y.t (k * k % N) = y.t i)) (fun _ => 1) N) % 97 = 0
    rw [this]
    generalize csum (fun k => decide (y.t (k * k % N) = y.t i)) (fun _ => 1) N = z
    omega
end
end Go.Vx
