/- Plain laws: numbers modulo a field's prime: sums, products, inverses by Euclid. Conditions: none. -/
import Derived.Test.YtofnjbcbkfbomaaDoorVk
import Derived.Test.YtofnjbcbkfbomaaDoorV9
namespace Go.Vx
open Go Go.RowKit Go.Proofs

/-! primes -/
/-- No number from 2 to n + 1 divides p. -/
noncomputable def noDiv (p n : Nat) : Bool := Nat.rec (motive := fun _ => Bool) true (fun n ih => (p % (n + 2) != 0) && ih) n
theorem noDiv_spec (p : Nat) : ∀ (n d : Nat), noDiv p n = true → 2 ≤ d → d ≤ n + 1 → p % d ≠ 0
  | 0, d, _, h1, h2 => by omega
  | n + 1, d, h, h1, h2 => by
    have h' : ((p % (n + 2) != 0) && noDiv p n) = true := h
    rw [Bool.and_eq_true] at h'
    by_cases e : d = n + 2
    · subst e; simpa using h'.1
    · exact noDiv_spec p n d h'.2 h1 (by omega)
def primeN (p : Nat) : Prop := 2 ≤ p ∧ ∀ d : Nat, d ∣ p → d = 1 ∨ d = p
theorem prime_of {p n : Nat} (h2 : 2 ≤ p) (h : noDiv p n = true) (hn : p < (n + 2) * (n + 2)) : primeN p := by
  refine ⟨h2, fun d hd => ?_⟩
  by_cases h1 : d = 1
  · exact .inl h1
  by_cases hp : d = p
  · exact .inr hp
  exfalso
  obtain ⟨e, he⟩ := hd
  have hd0 : d ≠ 0 := by rintro rfl; simp at he; omega
  have he0 : e ≠ 0 := by rintro rfl; simp at he; omega
  have he1 : e ≠ 1 := by rintro rfl; simp at he; omega
  by_cases hdn : d ≤ n + 1
  · exact noDiv_spec p n d h (by omega) hdn (by rw [he]; exact Nat.mul_mod_right d e)
  · by_cases hen : e ≤ n + 1
    · exact noDiv_spec p n e h (by omega) hen (by rw [he]; exact Nat.mul_mod_left d e)
    · have : (n + 2) * (n + 2) ≤ d * e := Nat.mul_le_mul (by omega) (by omega)
      omega
theorem prime97 : primeN 97 := prime_of (n := 10) (by decide) (by kernel_rfl) (by decide)
theorem prime257 : primeN 257 := prime_of (n := 17) (by decide) (by kernel_rfl) (by decide)
theorem prime12289 : primeN 12289 := prime_of (n := 112) (by decide) (by kernel_rfl) (by decide)
theorem prime998244353 : primeN 998244353 := prime_of (n := 31598) (by decide) (by kernel_rfl) (by decide)
theorem fprime {f : Int} (h : fv f = true) : primeN (fP f).toNat := by
  have h' := fv_iff.1 h
  have : f = 0 ∨ f = 1 ∨ f = 2 ∨ f = 3 := by omega
  rcases this with rfl | rfl | rfl | rfl
  · exact prime97
  · exact prime257
  · exact prime12289
  · exact prime998244353

/-! inverses -/
theorem inv_unique {p a x y : Int} (_hp : 2 ≤ p) (hx : 0 ≤ x ∧ x < p) (hy : 0 ≤ y ∧ y < p) (h1 : a * x % p = 1) (h2 : a * y % p = 1) : x = y := by
  have e1 : x * (a * y) % p = x := by rw [← mul_mod, h2, Int.mul_one, Int.emod_eq_of_lt hx.1 hx.2]
  have e2 : x * (a * y) % p = y := by rw [show x * (a * y) = (a * x) * y by rw [Int.mul_comm a x, Int.mul_assoc], ← mod_mul, h1, Int.one_mul, Int.emod_eq_of_lt hy.1 hy.2]
  rw [← e1, e2]
open Classical in
noncomputable def someX (Q : Int → Prop) : Int := if h : ∃ x, Q x then h.choose else 0
/-- The inverse; 0 if there is none. -/
noncomputable def finv (p a : Int) : Int := someX fun x => (0 ≤ x ∧ x < p) ∧ a * x % p = 1
theorem finv_eq {p a x : Int} (hp : 2 ≤ p) (hx : 0 ≤ x ∧ x < p) (h : a * x % p = 1) : finv p a = x := by
  have hex : ∃ x, (0 ≤ x ∧ x < p) ∧ a * x % p = 1 := ⟨x, hx, h⟩
  unfold finv someX
  rw [dif_pos hex]
  exact inv_unique hp hex.choose_spec.1 hx hex.choose_spec.2 h
theorem finv_lt {p : Int} (hp : 2 ≤ p) (a : Int) : 0 ≤ finv p a ∧ finv p a < p := by
  unfold finv someX
  split
  · rename_i h; exact h.choose_spec.1
  · omega
theorem finv_zero {p a : Int} (_hp : 2 ≤ p) (h : a % p = 0) : finv p a = 0 := by
  unfold finv someX
  rw [dif_neg]
  rintro ⟨x, _, hx⟩
  rw [← mod_mul, h, Int.zero_mul, Int.zero_emod] at hx
  omega
theorem finv_mod (p a : Int) : finv p (a % p) = finv p a := by
  unfold finv
  congr 1
  funext x
  rw [mod_mul]

/-- The state of Euclid's way: r and s are multiples x a and y a, the signs alternate. -/
structure EuI (p a r s x y : Int) : Prop where
  s0 : 0 ≤ s
  sr : s < r
  rp : r ≤ p
  hx : (x * a - r) % p = 0
  hy : (y * a - s) % p = 0
  g : Int.gcd r s = 1
  sg : ∃ X Y : Int, 0 ≤ X ∧ X ≤ Y ∧ r * Y + s * X = p ∧ ((x = -X ∧ y = Y) ∨ (x = X ∧ y = -Y))
theorem eu_init {p a : Int} (hp : primeN p.toNat) (hp2 : 2 ≤ p) (ha : a % p ≠ 0) : EuI p a p (a % p) 0 1 := by
  have hm := em_lt (p := p) (by omega) a
  refine ⟨hm.1, hm.2, by omega, by simp, ?_, ?_, 0, 1, by omega, by omega, by omega, .inl ⟨by omega, rfl⟩⟩
  · rw [Int.one_mul, Int.sub_emod, Int.emod_emod_of_dvd _ (Int.dvd_refl p), Int.sub_self]; rfl
  · have hd : Int.gcd p (a % p) ∣ p.toNat := by
      have := Int.gcd_dvd_left (a := p) (b := a % p)
      have h2 : ((p.toNat : Nat) : Int) = p := by omega
      rw [← h2] at this
      have := Int.natCast_dvd_natCast.1 this
      rwa [h2] at this
    rcases hp.2 _ hd with h | h
    · exact h
    · exfalso
      have h3 : (Int.gcd p (a % p) : Int) ∣ a % p := Int.gcd_dvd_right _ _
      rw [h] at h3
      have := Int.le_of_dvd (by omega) h3
      omega
theorem eu_bnd {p a r s x y : Int} (h : EuI p a r s x y) (hp : p ≤ 1073741824) : (-1073741824 ≤ x ∧ x ≤ 1073741824) ∧ (-1073741824 ≤ y ∧ y ≤ 1073741824) := by
  obtain ⟨X, Y, h1, h2, h3, h4⟩ := h.sg
  have hr : 1 ≤ r := by have := h.s0; have := h.sr; omega
  have h5 : Y ≤ r * Y := by
    have := Int.mul_le_mul_of_nonneg_right hr (show 0 ≤ Y by omega)
    omega
  have h6 : 0 ≤ s * X := Int.mul_nonneg h.s0 h1
  rcases h4 with ⟨rfl, rfl⟩ | ⟨rfl, rfl⟩ <;> omega
theorem eu_step {p a r s x y : Int} (h : EuI p a r s x y) (hs : s ≠ 0) : EuI p a s (r - r / s * s) y (x - r / s * y) := by
  have hs0 : 0 < s := by have := h.s0; omega
  have e : r - r / s * s = r % s := by rw [Int.emod_def, Int.mul_comm]
  have hq : 1 ≤ r / s := by
    have := Int.ediv_le_ediv hs0 (show s ≤ r by have := h.sr; omega)
    rwa [Int.ediv_self hs] at this
  refine ⟨by rw [e]; exact Int.emod_nonneg _ hs, by rw [e]; exact Int.emod_lt_of_pos _ hs0, by have := h.sr; have := h.rp; omega, h.hy, ?_, ?_, ?_⟩
  · have h1 := h.hx
    have h2 := h.hy
    have e2 : (x - r / s * y) * a - (r - r / s * s) = (x * a - r) - r / s * (y * a - s) := by
      rw [Int.sub_mul, Int.mul_sub]
      rw [show r / s * y * a = r / s * (y * a) by rw [Int.mul_assoc]]
      omega
    rw [e2, Int.sub_emod, h1, ← mul_mod, h2]
    simp
  · rw [Int.gcd_sub_mul_right_right, Int.gcd_comm]; exact h.g
  · obtain ⟨X, Y, h1, h2, h3, h4⟩ := h.sg
    have hqY : Y ≤ r / s * Y := by
      have := Int.mul_le_mul_of_nonneg_right hq (show 0 ≤ Y by omega)
      omega
    refine ⟨Y, X + r / s * Y, by omega, by omega, ?_, ?_⟩
    · rw [← h3, Int.mul_add, Int.sub_mul]
      have : s * (r / s * Y) = r / s * s * Y := by rw [← Int.mul_assoc, Int.mul_comm s]
      omega
    · rcases h4 with ⟨rfl, rfl⟩ | ⟨rfl, rfl⟩
      · exact .inr ⟨rfl, by omega⟩
      · exact .inl ⟨rfl, by rw [Int.mul_neg]; omega⟩
theorem eu_end {p a r x y : Int} (h : EuI p a r 0 x y) (hp2 : 2 ≤ p) : finv p a = if x < 0 then x + p else x := by
  have hr : r = 1 := by
    have := h.g
    rw [Int.gcd_zero_right] at this
    have := h.sr
    omega
  subst hr
  have hxa : a * x % p = 1 := by
    have h1 := h.hx
    have : (x * a) % p = 1 % p := by
      exact Int.emod_eq_emod_iff_emod_sub_eq_zero.2 h1
    rw [Int.mul_comm, this, Int.emod_eq_of_lt (by omega) (by omega)]
  obtain ⟨X, Y, h1, h2, h3, h4⟩ := h.sg
  have hY : Y = p := by omega
  have hne : X ≠ p := by
    rintro rfl
    rcases h4 with ⟨rfl, _⟩ | ⟨rfl, _⟩
    · rw [Int.mul_neg, Int.neg_emod, Int.mul_emod_left] at hxa; simp at hxa
    · rw [Int.mul_emod_left] at hxa; omega
  split
  · rename_i hneg
    refine finv_eq hp2 ?_ ?_
    · rcases h4 with ⟨rfl, _⟩ | ⟨rfl, _⟩ <;> omega
    · rw [Int.mul_add, Int.add_mul_emod_self_right]; exact hxa
  · rename_i hneg
    refine finv_eq hp2 ?_ hxa
    rcases h4 with ⟨rfl, _⟩ | ⟨rfl, _⟩ <;> omega
theorem finv_mul {p a : Int} (hp : primeN p.toNat) (hp2 : 2 ≤ p) (ha : a % p ≠ 0) : a * finv p a % p = 1 := by
  have : ∀ (n : Nat) (r s x y : Int), s.toNat = n → EuI p a r s x y → ∃ r x y, EuI p a r 0 x y := by
    intro n
    induction n using Nat.strongRecOn with
    | _ n ih =>
      intro r s x y hn h
      by_cases hs : s = 0
      · subst hs; exact ⟨r, x, y, h⟩
      · have h' := eu_step h hs
        have := h'.sr
        have := h'.s0
        have := h.s0
        exact ih (r - r / s * s).toNat (by omega) _ _ _ _ rfl h'
  obtain ⟨r, x, y, h⟩ := this _ _ _ _ _ rfl (eu_init hp hp2 ha)
  have hr : r = 1 := by
    have := h.g
    rw [Int.gcd_zero_right] at this
    have := h.sr
    omega
  subst hr
  have h1 := h.hx
  have hxa : a * x % p = 1 := by
    have : (x * a) % p = 1 % p := Int.emod_eq_emod_iff_emod_sub_eq_zero.2 h1
    rw [Int.mul_comm, this, Int.emod_eq_of_lt (by omega) (by omega)]
  have hm := em_lt (p := p) (by omega) x
  rw [finv_eq hp2 hm (by rw [mul_mod]; exact hxa), mul_mod]
  exact hxa

/-! sums -/
theorem add_ge {p a b : Int} (hp : 0 < p) (h : a % p + b % p ≥ p) : a % p + b % p - p = (a + b) % p := by
  have h1 := em_lt hp a
  have h2 := em_lt hp b
  rw [Int.add_emod, ← Int.emod_eq_of_lt (a := a % p + b % p - p) (b := p) (by omega) (by omega), Int.sub_emod_right]
theorem add_lt {p a b : Int} (hp : 0 < p) (h : ¬ a % p + b % p ≥ p) : a % p + b % p = (a + b) % p := by
  have h1 := em_lt hp a
  have h2 := em_lt hp b
  rw [Int.add_emod, Int.emod_eq_of_lt (a := a % p + b % p) (by omega) (by omega)]
theorem neg_of {p a : Int} (hp : 0 < p) (h : a % p ≠ 0) : p - a % p = (-a) % p := by
  have h1 := em_lt hp a
  rw [← Int.emod_eq_of_lt (a := p - a % p) (b := p) (by omega) (by omega), Int.sub_emod_emod, ← Int.emod_sub_emod, Int.emod_self, Int.zero_sub]
end Go.Vx
