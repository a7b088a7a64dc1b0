/- The words in which the walks of the arguments are told: columns, systems, keys, counts. Conditions: none. -/
import Derived.Test.YtofnjbcbkfbomaaDoorWb
namespace Go.Vx
open Go Go.RowKit Go.Proofs

/-! lists -/
/-- The place of the first one; -1 if there is none. -/
def fix {α : Type} (q : α → Bool) : List α → Int
  | [] => -1
  | x :: l => if q x = true then 0 else if fix q l < 0 then -1 else fix q l + 1
theorem fix_ge {α : Type} (q : α → Bool) : ∀ l : List α, -1 ≤ fix q l ∧ (decide (fix q l ≥ 0) = l.any q)
  | [] => by simp [fix]
  | x :: l => by
    obtain ⟨h1, h2⟩ := fix_ge q l
    unfold fix
    by_cases hx : q x = true
    · simp [hx]
    · have hx' : q x = false := by simpa using hx
      rw [if_neg hx]
      split
      · rename_i hn
        refine ⟨by omega, ?_⟩
        rw [List.any_cons, hx', Bool.false_or, ← h2]
        rw [decide_eq_decide]; omega
      · rename_i hn
        refine ⟨by omega, ?_⟩
        rw [List.any_cons, hx', Bool.false_or, ← h2]
        rw [decide_eq_decide]; omega
theorem fix_found {α : Type} {q : α → Bool} : ∀ {l : List α} {j : Nat} {x : α}, l[j]? = some x → q x = true → (∀ i y, i < j → l[i]? = some y → q y = false) → fix q l = j
  | [], j, x, h, _, _ => by simp at h
  | y :: l, 0, x, h, hx, _ => by simp at h; subst h; simp [fix, hx]
  | y :: l, j + 1, x, h, hx, hn => by
    have hy := hn 0 y (by omega) rfl
    have := fix_found (l := l) (j := j) (by simpa using h) hx (fun i z hi hz => hn (i + 1) z (by omega) (by simpa using hz))
    unfold fix
    rw [if_neg (by simp [hy]), this, if_neg (by omega)]; omega
theorem fix_none {α : Type} {q : α → Bool} : ∀ {l : List α}, (∀ i y, i < l.length → l[i]? = some y → q y = false) → fix q l = -1
  | [], _ => rfl
  | y :: l, hn => by
    have hy := hn 0 y (by simp) rfl
    have := fix_none (l := l) (fun i z hi hz => hn (i + 1) z (by simp; omega) (by simpa using hz))
    unfold fix
    rw [if_neg (by simp [hy]), this]; rfl
theorem get_some {α : Type} {l : List α} {j : Nat} (h : j < l.length) : l[j]? = some l[j] := List.getElem?_eq_getElem h
theorem getD_at {l : List Int} {j : Nat} (h : j < l.length) : l[j]? = some (l.getD j 0) := by rw [List.getD_eq_getElem?_getD, List.getElem?_eq_getElem h]; rfl
theorem flatKu : ∀ l : List Int, l.flatMap Ku = l.map fun x => u64 x
  | [] => rfl
  | x :: l => congrArg (u64 x :: ·) (flatKu l)
theorem row_at {l : List Int} {j : Nat} (h : j < l.length) : (l.flatMap Ku)[j * 1]? = some (u64 (l.getD j 0)) := by
  rw [Nat.mul_one, flatKu, List.getElem?_map, getD_at h]; rfl
theorem row_put {l : List Int} {j : Nat} {x : Int} (h : j < l.length) {v : Value} {e : TypeId} : Ent.row v e 1 l.length (spl (l.flatMap Ku) (j * 1) [u64 x]) = Ent.rows Ku v e 1 (l.set j x) := by
  unfold Ent.rows
  rw [List.length_set]
  congr 1
  rw [flatKu, flatKu, Nat.mul_one]
  unfold spl
  rw [List.map_set, List.set_eq_take_append_cons_drop, if_pos (by simpa using h)]
  simp
theorem row_fit {l : List Int} {j : Nat} (h : j < l.length) : j * 1 < (l.flatMap Ku).length := by rw [flatKu]; simpa using h

/-! columns, systems -/
abbrev Kc (c : List Int) : List Spec := [slc Ku c]
abbrev Var := Int × Int
abbrev Kv (v : Var) : List Spec := [u8 v.1, i64 v.2]
abbrev Kt (t : List Var) : List Spec := [slc Kv t]
abbrev Ktt (t : List (List Var)) : List Spec := [slc Kt t]
abbrev Kp2 (p : List (List Var) × List (List Var)) : List Spec := [slc Kt p.1, slc Kt p.2]
abbrev Look := List Var × List Var × Var
abbrev Klo (l : Look) : List Spec := [slc Kv l.1, slc Kv l.2.1, u8 l.2.2.1, i64 l.2.2.2]
abbrev Krule (_ : Unit) : List Spec := [sone, sone]
abbrev Kk8 (x : Int) : List Spec := [u8 x]
/-- The permutation and the lookup of the statement. -/
def perm14 : List (List Var) × List (List Var) := ([[(1, 0), (1, 1)]], [[(1, 2), (1, 3)]])
def look14 : Look := ([(1, 4)], [(3, 0)], (1, 5))
abbrev Ksys (k : Int) (t : List Int) : List Spec := [i64 0, i64 k, i64 6, i64 0, slc Kc [t], slc Krule [], slc Kp2 [perm14], slc Klo [look14]]
abbrev Ktr (cs : List (List Int)) : List Spec := [slc Ku [], slc Kc cs]
/-- Elements of the field 0. -/
def in97 (l : List Int) : Prop := ∀ x ∈ l, 0 ≤ x ∧ x < 97
theorem in97_get {l : List Int} (h : in97 l) {j : Nat} (hj : j < l.length) : 0 ≤ l.getD j 0 ∧ l.getD j 0 < 97 := by
  rw [List.getD_eq_getElem?_getD, List.getElem?_eq_getElem hj]
  exact h _ (List.getElem_mem hj)
theorem fP0 : fP 0 = 97 := rfl
theorem fv0 : fv 0 = true := rfl

/-! keys -/
def b8 (n : Int) : UInt8 := UInt8.ofNat n.toNat
/-- A text, by its bytes. -/
def kstr (l : List UInt8) : Value := .string ⟨l.toArray⟩
instance : KeyF .string kstr where
  is _ := trivial
  inj a b h := by
    simp only [kstr, Value.string.injEq, ByteArray.mk.injEq] at h
    simpa using congrArg Array.toList h
/-- The value of a variable in a row. -/
def vat (t : List Int) (cs : List (List Int)) (i : Nat) (v : Var) : Int := if v.1 = 3 then ([t].getD v.2.toNat []).getD i 0 else (cs.getD v.2.toNat []).getD i 0
/-- The key of a tuple in a row. -/
def keyOf (t : List Int) (cs : List (List Int)) (i : Nat) (l : List Var) : List Int := l.flatMap fun v => [vat t cs i v, 0, 0, 0]
def key8 (t : List Int) (cs : List (List Int)) (i : Nat) (l : List Var) : List UInt8 := (keyOf t cs i l).map b8

/-! counts -/
abbrev Cnt := List (List UInt8 × Int)
def balStep (kl kr : List UInt8) (m : Cnt) : Cnt :=
  let m1 := mset m kl ((mget m kl).getD 0 + 1)
  mset m1 kr ((mget m1 kr).getD 0 - 1)
def balM (kl kr : Nat → List UInt8) : Nat → Cnt
  | 0 => []
  | i + 1 => balStep (kl i) (kr i) (balM kl kr i)
def allZ (m : Cnt) : Bool := m.all fun p => p.2 == 0
def cntM (kt : Nat → List UInt8) (n : Nat → Int) : Nat → Cnt
  | 0 => []
  | i + 1 => let m := cntM kt n i; mset m (kt i) (((mget m (kt i)).getD 0 + n i) % 97)
/-- What is left of the counts; none if something asked for is not there. -/
def lessM (ke : Nat → List UInt8) (m0 : Cnt) : Nat → Option Cnt
  | 0 => some m0
  | i + 1 => match lessM ke m0 i with
    | none => none
    | some m => match mget m (ke i) with
      | none => none
      | some v => some (mset m (ke i) ((v - 1) % 97))
def balB (t : List Int) (cs : List (List Int)) (N : Nat) : Bool := allZ (balM (fun i => key8 t cs i [(1, 0), (1, 1)]) (fun i => key8 t cs i [(1, 2), (1, 3)]) N)
def cntB (t : List Int) (cs : List (List Int)) (N : Nat) : Bool :=
  match lessM (fun i => key8 t cs i [(1, 4)]) (cntM (fun i => key8 t cs i [(3, 0)]) (fun i => (cs.getD 5 []).getD i 0) N) N with
  | none => false
  | some m => allZ m
end Go.Vx
