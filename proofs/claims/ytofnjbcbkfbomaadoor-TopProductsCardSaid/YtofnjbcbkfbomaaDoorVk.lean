/- The words in which the walks are told: the fields' table. Conditions: none. -/
import Derived.Test.YtofnjbcbkfbomaaDoorVj
namespace Go.Vx
open Go Go.RowKit Go.Proofs

/-- The fields: the prime, a generator, how often 2 divides the order, the sponge's exponent. -/
def fldT : List (Int × Int × Int × Int) := [(97, 5, 5, 5), (257, 3, 8, 3), (12289, 11, 12, 5), (998244353, 3, 23, 3)]
def Kf (x : Int × Int × Int × Int) : List Spec := [u64 x.1, u64 x.2.1, i64 x.2.2.1, i64 x.2.2.2, sone]
/-- The seat lays the fields' table. -/
class HasF (s : Seat) : Prop where
  mem : (2, fldT.flatMap Kf) ∈ s.GT
/-- Is f a field's number? -/
def fv (f : Int) : Bool := decide (f ≥ 0) && decide (f < 4)
def fld (f : Int) : Int × Int × Int × Int := if fv f = true then fldT.getD f.toNat (0, 0, 0, 0) else (0, 0, 0, 0)
def fP (f : Int) : Int := (fld f).1
def fG (f : Int) : Int := (fld f).2.1
def fT (f : Int) : Int := (fld f).2.2.1
def fE (f : Int) : Int := (fld f).2.2.2
theorem fv_iff {f : Int} : fv f = true ↔ 0 ≤ f ∧ f < 4 := by simp [fv]
theorem fld_get {f : Int} (h : fv f = true) : fldT[f.toNat]? = some (fld f) := by
  have h' := fv_iff.1 h
  unfold fld
  rw [if_pos h, List.getD_eq_getElem?_getD, List.getElem?_eq_getElem (by simp [fldT]; omega)]
  rfl
theorem fld_no {f : Int} (h : fv f = false) : fld f = (0, 0, 0, 0) := by unfold fld; rw [if_neg (by simp [h])]

/-! the sponge -/
/-- A power in a field. -/
def pw (p x : Int) (q : Nat) : Int := x ^ q % p
theorem pw_lt {p : Int} (h : 0 < p) (x : Int) (q : Nat) : 0 ≤ pw p x q ∧ pw p x q < p := ⟨Int.emod_nonneg _ (by omega), Int.emod_lt_of_pos _ h⟩
theorem em_lt {p : Int} (h : 0 < p) (x : Int) : 0 ≤ x % p ∧ x % p < p := ⟨Int.emod_nonneg _ (by omega), Int.emod_lt_of_pos _ h⟩
theorem mul_lt {p x y : Int} (hp : p ≤ 1073741824) (hx : 0 ≤ x ∧ x < p) (hy : 0 ≤ y ∧ y < p) : 0 ≤ x * y ∧ x * y < 1152921504606846976 := by
  refine ⟨Int.mul_nonneg hx.1 hy.1, ?_⟩
  have h1 : x * y ≤ x * 1073741823 := Int.mul_le_mul_of_nonneg_left (by omega) hx.1
  omega
theorem pw_mul (p x y : Int) (a b : Nat) (h : y = x ^ b) : pw p x a * y % p = pw p x (a + b) := by
  unfold pw
  rw [h, Int.pow_add, Int.mul_emod, Int.emod_emod_of_dvd _ (Int.dvd_refl p), ← Int.mul_emod]
theorem mod_mul (p x y : Int) : (x % p) * y % p = x * y % p := by rw [Int.mul_emod, Int.emod_emod_of_dvd _ (Int.dvd_refl p), ← Int.mul_emod]
theorem mul_mod (p x y : Int) : x * (y % p) % p = x * y % p := by rw [Int.mul_comm, mod_mul, Int.mul_comm]

/-- Four elements. -/
abbrev Q4 := Int × Int × Int × Int
abbrev q4 (s : Q4) : List Int := [s.1, s.2.1, s.2.2.1, s.2.2.2]
abbrev Ku (x : Int) : List Spec := [u64 x]
abbrev us (l : List Int) : List Spec := l.map fun x => u64 x
/-- The sums of a round. -/
def gat (p : Int) (t : Q4) : Q4 :=
  let sum := t.1 + t.2.1 + t.2.2.1 + t.2.2.2
  ((sum + t.1 + 2 * t.2.1) % p, (sum + t.2.1 + 2 * t.2.2.1) % p, (sum + t.2.2.1 + 2 * t.2.2.2) % p, (sum + t.2.2.2 + 2 * t.1) % p)
/-- What becomes of the element at a place in a round. -/
def cel (p g : Int) (q : Nat) (n : Nat) (j : Nat) (x : Int) : Int := pw p ((x + pw p g (4 * n + j + 1) + 7) % p) q
/-- A round. -/
def rnd (p g : Int) (q : Nat) (n : Nat) (s : Q4) : Q4 := gat p (cel p g q n 0 s.1, cel p g q n 1 s.2.1, cel p g q n 2 s.2.2.1, cel p g q n 3 s.2.2.2)
/-- So many rounds. -/
def rnds (p g : Int) (q : Nat) : Nat → Q4 → Q4
  | 0, s => s
  | n + 1, s => rnd p g q n (rnds p g q n s)
/-- Elements all. -/
def in4 (p : Int) (s : Q4) : Prop := (0 ≤ s.1 ∧ s.1 < p) ∧ (0 ≤ s.2.1 ∧ s.2.1 < p) ∧ (0 ≤ s.2.2.1 ∧ s.2.2.1 < p) ∧ (0 ≤ s.2.2.2 ∧ s.2.2.2 < p)
theorem gat_in {p : Int} (h : 0 < p) (t : Q4) : in4 p (gat p t) := ⟨em_lt h _, em_lt h _, em_lt h _, em_lt h _⟩
theorem rnds_in {p g : Int} {q : Nat} (h : 0 < p) : ∀ (n : Nat) {s : Q4}, in4 p s → in4 p (rnds p g q n s)
  | 0, _, hs => hs
  | _ + 1, _, _ => gat_in h _
abbrev Dg := Int × Int
abbrev Kd (d : Dg) : List Spec := [u64 d.1, u64 d.2]
abbrev dig (d : Dg) : Spec := sagg (Kd d)
/-- The node of two digests. -/
def node (p g : Int) (q : Nat) (l r : Dg) : Dg :=
  let t := rnds p g q 8 (l.1, l.2, r.1, r.2)
  ((t.1 + l.1) % p, (t.2.1 + l.2) % p)
/-- A number that is a field's prime may be. -/
def okp (p : Int) : Prop := 2 ≤ p ∧ p ≤ 1073741824
def inD (p : Int) (d : Dg) : Prop := (0 ≤ d.1 ∧ d.1 < p) ∧ (0 ≤ d.2 ∧ d.2 < p)

theorem okf {f : Int} (h : fv f = true) : okp (fP f) ∧ (0 ≤ fG f ∧ fG f < fP f) := by
  have h' := fv_iff.1 h
  have : f = 0 ∨ f = 1 ∨ f = 2 ∨ f = 3 := by omega
  rcases this with rfl | rfl | rfl | rfl <;> (unfold okp; decide)
/-- The sponge's exponent. -/
abbrev ex (five : Bool) : Nat := if five = true then 5 else 3
def f5 (f : Int) : Bool := decide (fE f = 5)
abbrev Km (p g : Int) (five : Bool) : List Spec := [u64 p, u64 g, sbool five]
theorem pow5 {p x : Int} : x * x % p * (x * x % p) % p * x % p = pw p x 5 := by
  unfold pw
  rw [mod_mul, Int.mul_assoc, mod_mul, show x * x * (x * x % p * x) = x * x % p * (x * x * x) by rw [Int.mul_comm (x * x), Int.mul_assoc, Int.mul_comm x (x * x)], mod_mul]
  congr 1
  simp only [Int.pow_succ, Int.pow_zero, Int.one_mul, Int.mul_assoc]
theorem pow3 {p x : Int} : x * x % p * x % p = pw p x 3 := by
  unfold pw
  rw [mod_mul]
  congr 1
  simp only [Int.pow_succ, Int.pow_zero, Int.one_mul]
theorem us_get {l : List Int} {j : Nat} (h : j < l.length) : (us l)[0 + j * 1]? = some (u64 (l.getD j 0)) := by
  rw [Nat.zero_add, Nat.mul_one, List.getElem?_map, List.getElem?_eq_getElem h, List.getD_eq_getElem?_getD, List.getElem?_eq_getElem h]; rfl
theorem us_set {l : List Int} {j : Nat} {x : Int} : (us l).set (0 + j * 1) (u64 x) = us (l.set j x) := by
  rw [Nat.zero_add, Nat.mul_one]
  show (l.map fun x => u64 x).set j (u64 x) = (l.set j x).map fun x => u64 x
  rw [List.map_set]
theorem us_len {l : List Int} {j n : Nat} (h : l.length = n) (hj : j < n) : 0 + j * 1 < (us l).length := by simp; omega
theorem us_self {l : List Int} {j : Nat} : l.set j (l.getD j 0) = l := by
  by_cases h : j < l.length
  · rw [List.getD_eq_getElem?_getD, List.getElem?_eq_getElem h]; simp
  · rw [List.set_eq_of_length_le (by omega)]
theorem len4 {l : List Int} (h : l.length = 4) : ∃ a b c d, l = [a, b, c, d] := by
  match l, h with
  | [a, b, c, d], _ => exact ⟨a, b, c, d, rfl⟩
theorem in4_get {p : Int} {s : Q4} (h : in4 p s) {j : Nat} (hj : j < 4) : 0 ≤ (q4 s).getD j 0 ∧ (q4 s).getD j 0 < p := by
  have : j = 0 ∨ j = 1 ∨ j = 2 ∨ j = 3 := by omega
  rcases this with rfl | rfl | rfl | rfl
  · exact h.1
  · exact h.2.1
  · exact h.2.2.1
  · exact h.2.2.2
/-- The table of the statement. -/
def tab7 : List (Int × Int × Int) := [(97, 5, 5), (257, 3, 3), (12289, 11, 5), (998244353, 3, 3)]
abbrev K3 (x : Int × Int × Int) : List Spec := [u64 x.1, u64 x.2.1, u64 x.2.2]
class HasT7 (s : Seat) : Prop where
  mem : (1, tab7.flatMap K3) ∈ s.GT
theorem tab7_get {f : Int} (h : fv f = true) : tab7[f.toNat]? = some (fP f, fG f, ((ex (f5 f) : Nat) : Int)) := by
  have h' := fv_iff.1 h
  have : f = 0 ∨ f = 1 ∨ f = 2 ∨ f = 3 := by omega
  rcases this with rfl | rfl | rfl | rfl <;> rfl
/-- The node of two digests in a field. -/
def nd (f : Int) (l r : Dg) : Dg := node (fP f) (fG f) (ex (f5 f)) l r
end Go.Vx
