/- The words of the argument columns. Conditions: none. -/
import Derived.Test.YtofnjbcbkfbomaaDoorWj
namespace Go.Vx
open Go Go.RowKit Go.Proofs

/-- A row of the columns. -/
def rowM (cs : List (List Int)) (t : List Int) (j : Nat) : List Int × List Int := (rng cs.length (fun q => (cs.getD q []).getD j 0), rng [t].length (fun q => ([t].getD q []).getD j 0))
abbrev KrwO (c d : Int) : Option (List Int × List Int) → List Spec
  | none => [i64 0, sval (.slice none 0 0), sval (.slice none 0 0), u64 0, u64 0]
  | some m => Krw 0 m c d
theorem KrwO_len (c d : Int) (x : Option (List Int × List Int)) : (KrwO c d x).length = 5 := by cases x <;> rfl
def rowsO (cs : List (List Int)) (t : List Int) (N j : Nat) : List (Option (List Int × List Int)) := (List.range N).map fun i => if i < j then some (rowM cs t i) else none
theorem rowsO_len {cs : List (List Int)} {t : List Int} {N j : Nat} : (rowsO cs t N j).length = N := by simp [rowsO]
theorem rowsO_zero (cs : List (List Int)) (t : List Int) (N : Nat) : List.replicate N none = rowsO cs t N 0 := by
  refine List.ext_getElem? fun i => ?_
  by_cases hi : i < N
  · simp [rowsO, hi]
  · rw [List.getElem?_eq_none (by simp; omega), List.getElem?_eq_none (by rw [rowsO_len]; omega)]
theorem rowsO_put {cs : List (List Int)} {t : List Int} {N j : Nat} (h : j < N) : (rowsO cs t N j).set j (some (rowM cs t j)) = rowsO cs t N (j + 1) := by
  refine List.ext_getElem? fun i => ?_
  by_cases hi : i < N
  · by_cases e : i = j
    · subst e
      rw [List.getElem?_set_self (by rw [rowsO_len]; exact hi)]; simp [rowsO, hi]
    · rw [List.getElem?_set_ne (fun h => e h.symm)]
      by_cases h2 : i < j
      · simp [rowsO, hi, h2, show i < j + 1 by omega]
      · simp [rowsO, hi, h2, show ¬ i < j + 1 by omega]
  · rw [List.getElem?_eq_none (by simp [rowsO]; omega), List.getElem?_eq_none (by rw [rowsO_len]; omega)]
theorem rowsO_get {cs : List (List Int)} {t : List Int} {N j : Nat} (h : j < N) : (rowsO cs t N N)[j]? = some (some (rowM cs t j)) := by simp [rowsO, h]
theorem rowsO_own {cs : List (List Int)} {t : List Int} {N j : Nat} {c d : Int} (h : j < N) {v : Value} : Ent.row v 211 5 (rowsO cs t N j).length (spl ((rowsO cs t N j).flatMap (KrwO c d)) (j * 5) (Krw 0 (rowM cs t j) c d)) = Ent.rows (KrwO c d) v 211 5 (rowsO cs t N (j + 1)) := by
  have := spl_row (KrwO_len c d) (rowsO cs t N j) j (some (rowM cs t j)) (by rw [rowsO_len]; exact h)
  rw [rowsO_put h] at this
  unfold Ent.rows
  rw [← this, rowsO_len, rowsO_len]
theorem rng_snoc (n : Nat) (g : Nat → Int) : rng n g ++ [g n] = rng (n + 1) g := by unfold rng; rw [List.range_succ, List.map_append]; rfl
theorem nil_slc {α : Type} {K : α → List Spec} {F : Foot} {w : World} {v : Value} (h : v = .slice none 0 0) : (slc K []).holds F w v := by
  subst h; exact ⟨none, 0, [], rfl, trivial, rfl, rfl⟩
theorem rprod_nn {p : Int} (hp : 2 ≤ p) (m : List Int × List Int) (c d : Int) (ts : List (List Var)) : 0 ≤ rprod p m c d ts ∧ rprod p m c d ts < p := by
  have := rprod_lt hp m c d ts ts.length
  rwa [List.take_length] at this
/-- What the constraints are in a row. -/
def vals4 (mn : List Int) (ft z y z2 y2 c d : Int) : List Int :=
  [total (fP 0) (z2 * rprod (fP 0) (mn, [ft]) c d perm14.2 % fP 0) [z * rprod (fP 0) (mn, [ft]) c d perm14.1 % fP 0], total (fP 0) z [1],
   total (fP 0) ((total (fP 0) y2 [y] * (rwt (fP 0) (mn, [ft]) c d look14.1 * rwt (fP 0) (mn, [ft]) c d look14.2.1 % fP 0) % fP 0 + mn.getD 5 0 * rwt (fP 0) (mn, [ft]) c d look14.1 % fP 0) % fP 0) [rwt (fP 0) (mn, [ft]) c d look14.2.1], total (fP 0) y [0]]
abbrev Kenv (mn nx fx au an ch : List Int) : List Spec := [slc Ku mn, slc Ku nx, slc Ku fx, sval (.slice none 0 0), slc Ku au, slc Ku an, slc Ku ch]

/-! the columns -/
def LW (cs : List (List Int)) (t : List Int) (c d : Int) (j : Nat) : Int := rprod (fP 0) (rowM cs t j) c d perm14.1
def RW (cs : List (List Int)) (t : List Int) (c d : Int) (j : Nat) : Int := rprod (fP 0) (rowM cs t j) c d perm14.2
def UW (cs : List (List Int)) (t : List Int) (c d : Int) (j : Nat) : Int := rwt (fP 0) (rowM cs t j) c d look14.1
def TW (cs : List (List Int)) (t : List Int) (c d : Int) (j : Nat) : Int := rwt (fP 0) (rowM cs t j) c d look14.2.1
def prt (u w : Nat → Int) : Nat → List Int
  | 0 => []
  | j + 1 => prt u w j ++ [u j, w j]
theorem prt_len (u w : Nat → Int) : ∀ j, (prt u w j).length = 2 * j
  | 0 => rfl
  | j + 1 => by unfold prt; rw [List.length_append, prt_len u w j]; simp; omega
theorem prt_get (u w : Nat → Int) : ∀ (n i : Nat), i < n → (prt u w n)[2 * i]? = some (u i) ∧ (prt u w n)[2 * i + 1]? = some (w i)
  | 0, i, h => by omega
  | n + 1, i, h => by
    unfold prt
    by_cases e : i = n
    · subst e
      rw [List.getElem?_append_right (by rw [prt_len]; omega), List.getElem?_append_right (by rw [prt_len]; omega), prt_len]
      simp
    · rw [List.getElem?_append_left (by rw [prt_len]; omega), List.getElem?_append_left (by rw [prt_len]; omega)]
      exact prt_get u w n i (by omega)
noncomputable def nxZ (L R : Nat → Int) (z : Int) (i : Nat) : Int := z * (L i * finv (fP 0) (R i) % 97) % 97
noncomputable def nxY (U T n : Nat → Int) (z : Int) (i : Nat) : Int := ((z + finv (fP 0) (U i)) % 97 - n i * finv (fP 0) (T i) % 97) % 97
noncomputable def colZ (cs : List (List Int)) (t : List Int) (c d : Int) : Nat → Int := zs 1 (nxZ (LW cs t c d) (RW cs t c d))
noncomputable def colY (cs : List (List Int)) (t : List Int) (c d : Int) : Nat → Int := zs 0 (nxY (UW cs t c d) (TW cs t c d) (fun i => (cs.getD 5 []).getD i 0))
/-- Is a weight 0? -/
def noneZ (cs : List (List Int)) (t : List Int) (c d : Int) (N : Nat) : Bool := (rng N (RW cs t c d)).any fun y => decide (0 = y)
def noneY (cs : List (List Int)) (t : List Int) (c d : Int) (N : Nat) : Bool := (prt (UW cs t c d) (TW cs t c d) N).any fun y => decide (0 = y)
noncomputable def colsR (cs : List (List Int)) (t : List Int) (c d : Int) (N : Nat) : List (List Int) := if (noneZ cs t c d N || noneY cs t c d N) = true then [] else [rng N (colZ cs t c d), rng N (colY cs t c d)]
def errR (cs : List (List Int)) (t : List Int) (c d : Int) (N : Nat) : Int := if (noneZ cs t c d N || noneY cs t c d N) = true then 7 else 0
end Go.Vx
