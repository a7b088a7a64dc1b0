/- Plain laws: rows filled in order, products and their inverses. Conditions: none. -/
import Derived.Test.YtofnjbcbkfbomaaDoorWh
namespace Go.Vx
open Go Go.RowKit Go.Proofs

/-! rows by a rule -/
abbrev rng (n : Nat) (g : Nat → Int) : List Int := (List.range n).map g
theorem rng_len (n : Nat) (g : Nat → Int) : (rng n g).length = n := by simp
theorem rng_get {n : Nat} {g : Nat → Int} {j : Nat} (h : j < n) : (rng n g)[j]? = some (g j) := by simp [h]
theorem rng_getD {n : Nat} {g : Nat → Int} {j : Nat} (h : j < n) : (rng n g).getD j 0 = g j := by rw [List.getD_eq_getElem?_getD, rng_get h]; rfl
theorem rng_set {n : Nat} {g g' : Nat → Int} {j : Nat} (hj : j < n) (h : ∀ i, i ≠ j → i < n → g i = g' i) : (rng n g).set j (g' j) = rng n g' := by
  refine List.ext_getElem? fun i => ?_
  by_cases hi : i < n
  · by_cases e : i = j
    · subst e
      rw [List.getElem?_set_self (by simpa using hi), rng_get hi]
    · rw [List.getElem?_set_ne (fun h => e h.symm), rng_get hi, rng_get hi, h i e hi]
  · rw [List.getElem?_eq_none (by simp; omega), List.getElem?_eq_none (by simp; omega)]
theorem rng_congr {n : Nat} {g g' : Nat → Int} (h : ∀ i, i < n → g i = g' i) : rng n g = rng n g' := by
  refine List.map_congr_left fun i hi => h i (by simpa using hi)
theorem rep_rng (n : Nat) (g : Nat → Int) : List.replicate n (0 : Int) = rng n (fun i => if i < 0 then g i else 0) := by
  refine List.ext_getElem? fun i => ?_
  by_cases hi : i < n
  · rw [rng_get hi]; simp [hi]
  · rw [List.getElem?_eq_none (by simp; omega), List.getElem?_eq_none (by simp; omega)]
/-- Filled up to a place. -/
abbrev upTo (n : Nat) (g : Nat → Int) (j : Nat) : List Int := rng n (fun i => if i < j then g i else 0)
theorem upTo_put {n : Nat} {g : Nat → Int} {j : Nat} (hj : j < n) : (upTo n g j).set j (g j) = upTo n g (j + 1) := by
  have h := rng_set (n := n) (g := fun i => if i < j then g i else 0) (g' := fun i => if i < j + 1 then g i else 0) hj (fun i hne hi => by
    by_cases h : i < j
    · simp [h, show i < j + 1 by omega]
    · simp [h, show ¬ i < j + 1 by omega])
  simpa using h
theorem upTo_all (n : Nat) (g : Nat → Int) : upTo n g n = rng n g := rng_congr fun i hi => by simp [hi]
theorem row_put' {l : List Int} {j : Nat} {x : Int} {l' : List Int} (h : j < l.length) (e : l.set j x = l') {v : Value} {ty : TypeId} {N : Nat} (hN : N = l.length) : Ent.row v ty 1 N (spl (l.flatMap Ku) (j * 1) [u64 x]) = Ent.rows Ku v ty 1 l' := by
  subst hN; rw [row_put h, e]

/-! rows of structs -/
theorem spl_row {α : Type} {K : α → List Spec} {sz : Nat} (hK : ∀ x, (K x).length = sz) : ∀ (l : List α) (j : Nat) (x : α), j < l.length → spl (l.flatMap K) (j * sz) (K x) = (l.set j x).flatMap K
  | [], j, x, h => by simp at h
  | y :: l, 0, x, h => by
    unfold spl
    rw [Nat.zero_mul, List.take_zero, List.nil_append, Nat.zero_add, hK x, List.flatMap_cons, List.set_cons_zero, List.flatMap_cons, ← hK y, List.drop_left]
  | y :: l, j + 1, x, h => by
    have ih := spl_row hK l j x (by simpa using h)
    unfold spl at ih ⊢
    rw [List.set_cons_succ, List.flatMap_cons, List.flatMap_cons, ← ih, ← hK y, Nat.succ_mul, Nat.add_comm (j * _), List.take_length_add_append, Nat.add_assoc, List.drop_length_add_append]
    simp

/-! products -/
/-- The product of those ahead that are not 0. -/
def pre (p : Int) (l : List Int) : Nat → Int
  | 0 => 1
  | i + 1 => if l.getD i 0 % p = 0 then pre p l i else pre p l i * l.getD i 0 % p
theorem mul_ne {p a b : Int} (hp : primeN p.toNat) (hp2 : 2 ≤ p) (ha : a % p ≠ 0) (hb : b % p ≠ 0) : a * b % p ≠ 0 := fun h => by
  have h1 := finv_mul hp hp2 ha
  have h2 : finv p a * (a * b) % p = b % p := by
    rw [← Int.mul_assoc, Int.mul_comm (finv p a), ← mod_mul, h1, Int.one_mul]
  rw [← mul_mod, h, Int.mul_zero, Int.zero_emod] at h2
  exact hb h2.symm
theorem pre_bnd {p : Int} (hp2 : 2 ≤ p) (l : List Int) : ∀ i, 0 ≤ pre p l i ∧ pre p l i < p
  | 0 => by unfold pre; omega
  | i + 1 => by
    unfold pre
    split
    · exact pre_bnd hp2 l i
    · exact em_lt (by omega) _
theorem pre_ne {p : Int} (hp : primeN p.toNat) (hp2 : 2 ≤ p) (l : List Int) : ∀ i, pre p l i % p ≠ 0
  | 0 => by unfold pre; rw [Int.emod_eq_of_lt (by omega) (by omega)]; omega
  | i + 1 => by
    unfold pre
    split
    · exact pre_ne hp hp2 l i
    · rename_i h
      rw [Int.emod_emod_of_dvd _ (Int.dvd_refl p)]
      exact mul_ne hp hp2 (pre_ne hp hp2 l i) h
theorem finv_split {p a b : Int} (hp : primeN p.toNat) (hp2 : 2 ≤ p) (ha : a % p ≠ 0) (hb : b % p ≠ 0) : a * finv p (a * b % p) % p = finv p b := by
  symm
  refine finv_eq hp2 (em_lt (by omega) _) ?_
  rw [mul_mod, finv_mod, ← Int.mul_assoc, Int.mul_comm b a]
  exact finv_mul hp hp2 (mul_ne hp hp2 ha hb)
theorem inv_out {p : Int} (hp : primeN p.toNat) (hp2 : 2 ≤ p) {l : List Int} {i : Nat} (h : l.getD i 0 % p ≠ 0) : pre p l i * finv p (pre p l (i + 1)) % p = finv p (l.getD i 0) := by
  have : pre p l (i + 1) = pre p l i * l.getD i 0 % p := by
    conv => lhs; unfold pre
    rw [if_neg h]
  rw [this]
  exact finv_split hp hp2 (pre_ne hp hp2 l i) h
theorem inv_rest {p : Int} (hp : primeN p.toNat) (hp2 : 2 ≤ p) {l : List Int} {i : Nat} (h : l.getD i 0 % p ≠ 0) : finv p (pre p l (i + 1)) * l.getD i 0 % p = finv p (pre p l i) := by
  have : pre p l (i + 1) = l.getD i 0 * pre p l i % p := by
    conv => lhs; unfold pre
    rw [if_neg h, Int.mul_comm]
  rw [this, Int.mul_comm]
  exact finv_split hp hp2 h (pre_ne hp hp2 l i)

/-! rows of the constraints -/
/-- The value of a variable in a row. -/
def rv (main fx : List Int) (v : Var) : Int := if v.1 = 3 then fx.getD v.2.toNat 0 else main.getD v.2.toNat 0
abbrev Krw (f : Int) (m : List Int × List Int) (c d : Int) : List Spec := [i64 f, slc Ku m.1, slc Ku m.2, u64 c, u64 d]
def rwt (p : Int) (m : List Int × List Int) (c d : Int) (l : List Var) : Int := wgt p (l.map (rv m.1 m.2)) c d
def rprod (p : Int) (m : List Int × List Int) (c d : Int) (ts : List (List Var)) : Int := ts.foldl (fun q t => q * rwt p m c d t % p) 1
def total (p : Int) (a : Int) (l : List Int) : Int := l.foldl (fun a x => (a - x) % p) a
/-- What a column goes on like. -/
def zs (first : Int) (nx : Int → Nat → Int) : Nat → Int
  | 0 => first
  | i + 1 => nx (zs first nx i) i
theorem map_rng {α : Type} (l : List α) (f : α → Int) (g : Nat → Int) (h : ∀ i x, l[i]? = some x → g i = f x) : rng l.length g = l.map f := by
  refine List.ext_getElem? fun i => ?_
  by_cases hi : i < l.length
  · rw [rng_get hi, List.getElem?_map, List.getElem?_eq_getElem hi, h i _ (List.getElem?_eq_getElem hi)]; rfl
  · rw [List.getElem?_eq_none (by simp; omega), List.getElem?_eq_none (by simp; omega)]
theorem us_flat (l : List Int) : us l = l.flatMap Ku := (flatKu l).symm
theorem us_upTo {n : Nat} {g : Nat → Int} {j : Nat} (hj : j < n) {x : Int} (hx : x = g j) : (us (upTo n g j)).set (0 + j * 1) (u64 x) = us (upTo n g (j + 1)) := by rw [us_set, hx, upTo_put hj]
theorem take_upTo {l : List Var} {g : Nat → Int} {n : Nat} {f : Var → Int} (hn : l.length ≤ n) (h : ∀ i x, l[i]? = some x → g i = f x) : (upTo n g l.length).take l.length = l.map f := by
  refine List.ext_getElem? fun i => ?_
  by_cases hi : i < l.length
  · rw [List.getElem?_take_of_lt hi, rng_get (by omega), List.getElem?_map, List.getElem?_eq_getElem hi, if_pos hi, h i _ (List.getElem?_eq_getElem hi)]; rfl
  · rw [List.getElem?_eq_none (by simp; omega), List.getElem?_eq_none (by simp; omega)]
theorem wgt_lt {p : Int} (hp : 0 < p) (vs : List Int) (c d : Int) : 0 ≤ wgt p vs c d ∧ wgt p vs c d < p := em_lt hp _
theorem rprod_take {p : Int} {m : List Int × List Int} {c d : Int} {ts : List (List Var)} {j : Nat} (h : j < ts.length) : rprod p m c d (ts.take (j + 1)) = rprod p m c d (ts.take j) * rwt p m c d ts[j] % p := by
  unfold rprod
  rw [← List.take_append_getElem h, List.foldl_append]; rfl
theorem rprod_lt {p : Int} (hp : 2 ≤ p) (m : List Int × List Int) (c d : Int) (ts : List (List Var)) (j : Nat) : 0 ≤ rprod p m c d (ts.take j) ∧ rprod p m c d (ts.take j) < p := by
  induction j with
  | zero => unfold rprod; simp; omega
  | succ j ih =>
    by_cases h : j < ts.length
    · rw [rprod_take h]; exact em_lt (by omega) _
    · rw [List.take_of_length_le (by omega)] at ih ⊢; exact ih
theorem total_take {p a : Int} {l : List Int} {j : Nat} (h : j < l.length) : total p a (l.take (j + 1)) = (total p a (l.take j) - l[j]) % p := by
  unfold total
  rw [← List.take_append_getElem h, List.foldl_append]; rfl
theorem total_nn {p a : Int} (hp : 0 < p) (ha : 0 ≤ a) (l : List Int) : 0 ≤ total p a l := by
  unfold total
  induction l generalizing a with
  | nil => exact ha
  | cons x l ih => exact ih (em_lt hp _).1
end Go.Vx
