/- The words of the statement's own columns and sums. Conditions: none. -/
import Derived.Test.YtofnjbcbkfbomaaDoorWl
namespace Go.Vx
open Go Go.RowKit Go.Proofs

theorem y_assignF {n : Nat} {Γ : Ctx} {M : Owns} {L : List (Nat × Spec)} {dst : Option Nat} {ty : TypeId} {pos : String} {after : Array Edge} {guard : Option (Nat × Bool)} {f : FuncId} : Yields n Γ M L ⟨dst, .assign (.func f), ty, pos, after, guard⟩ (sfun f []) := fun a w hs K Q hK =>
  y_assign (x := .func f) (S := sval (.func (.func f) #[] #[])) rfl a w hs K Q fun v w' g hv => hK v w' g ⟨[], hv, trivial⟩
/-- A number out of the bytes. -/
def at14 (l : List Int) (i : Nat) : Int := if l = [] then 0 else l.getD (i % l.length) 0 % 97
theorem at14_lt {l : List Int} (h : ∀ x ∈ l, 0 ≤ x ∧ x < 256) (i : Nat) : 0 ≤ at14 l i ∧ at14 l i < 97 := by
  unfold at14
  split
  · omega
  · exact em_lt (by decide) _
structure T7 where
  a : Nat → Int
  b : Nat → Int
  l : Nat → Int
  r : Nat → Int
  e : Nat → Int
  n : Nat → Int
  t : Nat → Int
abbrev Ktb (N : Nat) (x : T7) : List Spec := [slc Ku (rng N x.a), slc Ku (rng N x.b), slc Ku (rng N x.l), slc Ku (rng N x.r), slc Ku (rng N x.e), slc Ku (rng N x.n), slc Ku (rng N x.t)]
/-- The columns at the begin. -/
def base14 (l : List Int) : T7 where
  a i := at14 l i
  b i := at14 l (i + 3)
  t i := at14 l (2 * i + 1)
  l i := at14 l (i + 7)
  r i := at14 l (i + 9)
  e i := at14 l (i + 5)
  n i := at14 l (i + 4) % 3
/-- The first row of the table that has it. -/
def kf (N : Nat) (t e : Nat → Int) (i : Nat) : Nat := (fix (fun x => decide (x = e i)) (rng N t)).toNat
/-- Counted up to a row. -/
def cnt14 (N : Nat) (t e : Nat → Int) : Nat → Nat → Int
  | 0, _ => 0
  | i + 1, q => cnt14 N t e i q + if q = kf N t e i then 1 else 0
def hon14 (N : Nat) (x : T7) : T7 where
  a := x.a
  b := x.b
  t := x.t
  l i := x.a ((i + 1) % N)
  r i := x.b ((i + 1) % N)
  e i := x.t (i * i % N)
  n := cnt14 N x.t (fun i => x.t (i * i % N)) N
def cols14 (N : Nat) (l : List Int) (honest : Bool) : T7 := if honest = true then hon14 N (base14 l) else base14 l

/-- A sum over the rows that have a property. -/
def csum (P : Nat → Bool) (f : Nat → Int) : Nat → Int
  | 0 => 0
  | k + 1 => csum P f k + if P k = true then f k else 0
def cany (P : Nat → Bool) : Nat → Bool
  | 0 => false
  | k + 1 => cany P k || P k
def call (P : Nat → Bool) : Nat → Bool
  | 0 => true
  | k + 1 => call P k && P k
def csum2 (P P' : Nat → Bool) (f f' : Nat → Int) : Nat → Int
  | 0 => 0
  | k + 1 => csum2 P P' f f' k + (if P k = true then f k else 0) + if P' k = true then f' k else 0
def permB (N : Nat) (x : T7) : Nat → Bool := call fun i => decide (csum (fun k => decide (x.a k = x.a i) && decide (x.b k = x.b i)) (fun _ => 1) N = csum (fun k => decide (x.l k = x.a i) && decide (x.r k = x.b i)) (fun _ => 1) N)
def lookB14 (N : Nat) (x : T7) : Nat → Bool
  | 0 => true
  | i + 1 => ((lookB14 N x i && cany (fun k => decide (x.t k = x.e i)) N) && decide ((csum (fun k => decide (x.t k = x.e i)) x.n N + 96 * csum (fun k => decide (x.e k = x.e i)) (fun _ => 1) N) % 97 = 0)) && decide (csum2 (fun k => decide (x.t k = x.t i)) (fun k => decide (x.e k = x.t i)) x.n (fun _ => 96) N % 97 = 0)
theorem csum_t {P : Nat → Bool} {f : Nat → Int} {k : Nat} (h : P k = true) : csum P f k + f k = csum P f (k + 1) := by
  conv => rhs; unfold csum
  rw [if_pos h]
theorem csum_f {P : Nat → Bool} {f : Nat → Int} {k : Nat} (h : P k = false) : csum P f k = csum P f (k + 1) := by
  conv => rhs; unfold csum
  rw [if_neg (by rw [h]; decide), Int.add_zero]
theorem csum2_t {P P' : Nat → Bool} {f f' : Nat → Int} {k : Nat} (h : P' k = true) : csum2 P P' f f' k + (if P k = true then f k else 0) + f' k = csum2 P P' f f' (k + 1) := by
  conv => rhs; unfold csum2
  rw [if_pos (c := P' k = true) h]
theorem csum2_f {P P' : Nat → Bool} {f f' : Nat → Int} {k : Nat} (h : P' k = false) : csum2 P P' f f' k + (if P k = true then f k else 0) = csum2 P P' f f' (k + 1) := by
  conv => rhs; unfold csum2
  rw [if_neg (c := P' k = true) (by rw [h]; decide), Int.add_zero]
theorem csum_bnd {P : Nat → Bool} {f : Nat → Int} {c : Int} (h : ∀ k, 0 ≤ f k ∧ f k ≤ c) : ∀ N : Nat, 0 ≤ csum P f N ∧ csum P f N ≤ c * N
  | 0 => by simp [csum]
  | k + 1 => by
    have h1 := csum_bnd (P := P) h k
    have h2 := h k
    unfold csum
    have e : c * ((k + 1 : Nat) : Int) = c * k + c := by rw [Int.natCast_succ, Int.mul_add, Int.mul_one]
    rw [e]
    split <;> omega
theorem csum2_bnd {P P' : Nat → Bool} {f f' : Nat → Int} {c : Int} (h : ∀ k, 0 ≤ f k ∧ f k ≤ c) (h' : ∀ k, 0 ≤ f' k ∧ f' k ≤ c) : ∀ N : Nat, 0 ≤ csum2 P P' f f' N ∧ csum2 P P' f f' N ≤ 2 * c * N
  | 0 => by simp [csum2]
  | k + 1 => by
    have h1 := csum2_bnd (P := P) (P' := P') h h' k
    have h2 := h k
    have h3 := h' k
    unfold csum2
    have e : 2 * c * ((k + 1 : Nat) : Int) = 2 * c * k + 2 * c := by rw [Int.natCast_succ, Int.mul_add, Int.mul_one]
    rw [e]
    split <;> split <;> omega
/-- What a row is on the way. -/
abbrev mixG (g g0 : Nat → Int) (i : Nat) : Nat → Int := fun q => if q < i then g q else g0 q
theorem mix_put {N : Nat} {g g0 : Nat → Int} {i : Nat} (hi : i < N) {x : Int} (hx : x = g i) : (rng N (mixG g g0 i)).set i x = rng N (mixG g g0 (i + 1)) := by
  have h := rng_set (n := N) (g := mixG g g0 i) (g' := mixG g g0 (i + 1)) hi (fun q hne hq => by
    unfold mixG
    by_cases h : q < i
    · rw [if_pos h, if_pos (by omega)]
    · rw [if_neg h, if_neg (by omega)])
  rw [hx]
  simpa [mixG] using h
theorem mix_zero (N : Nat) (g g0 : Nat → Int) : rng N g0 = rng N (mixG g g0 0) := rng_congr fun i _ => by simp [mixG]
theorem mix_all {N : Nat} (g g0 : Nat → Int) : rng N (mixG g g0 N) = rng N g := rng_congr fun i hi => by simp [mixG, hi]
theorem cnt_put {N : Nat} {t e : Nat → Int} {i : Nat} (hk : kf N t e i < N) {x : Int} (hx : x = cnt14 N t e i (kf N t e i) + 1) : (rng N (cnt14 N t e i)).set (kf N t e i) x = rng N (cnt14 N t e (i + 1)) := by
  have h := rng_set (n := N) (g := cnt14 N t e i) (g' := cnt14 N t e (i + 1)) hk (fun q hne hq => by
    conv => rhs; unfold cnt14
    rw [if_neg hne]; omega)
  rw [hx]
  have e1 : cnt14 N t e (i + 1) (kf N t e i) = cnt14 N t e i (kf N t e i) + 1 := by
    conv => lhs; unfold cnt14
    rw [if_pos rfl]
  rw [e1] at h
  exact h
theorem cnt_bnd14 (N : Nat) (t e : Nat → Int) (q : Nat) : ∀ i : Nat, 0 ≤ cnt14 N t e i q ∧ cnt14 N t e i q ≤ i
  | 0 => by simp [cnt14]
  | i + 1 => by
    have := cnt_bnd14 N t e q i
    unfold cnt14
    split <;> omega
theorem kf_is {N : Nat} {t e : Nat → Int} {i k : Nat} (hk : k < N) (h : t k = e i) (hn : ∀ q, q < k → t q ≠ e i) : kf N t e i = k := by
  unfold kf
  rw [fix_found (rng_get hk) (by simp [h]) (fun q y hq hy => by
    rw [rng_get (by omega)] at hy
    cases hy
    simpa using hn q hq)]
  rfl
end Go.Vx
