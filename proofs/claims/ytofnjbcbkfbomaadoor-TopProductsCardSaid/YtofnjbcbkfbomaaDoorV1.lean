/- Equality of arrays, arrays of arrays, bools, for the assertions of Va. Conditions: each rule states what it asks. -/
import Derived.Test.YtofnjbcbkfbomaaDoorVi
namespace Go.Vx
open Go Go.RowKit
variable {P : Program}
theorem run_equalIn_int {t : TypeId} {k : IntKind} (h : P.underlying t = some (.int k)) (d : Nat) (a b : Int) (w : World) : (Op.equalIn (d + 1) t (.int k a) (.int k b)).run P w = .ok (decide (a = b)) w := by
  have e : (a == b) = decide (a = b) := by rw [Bool.eq_iff_iff]; simp
  simp [Op.equalIn, run_underlying h, e]
theorem run_eqLoop {w : World} {r : Nat → Bool} {body : Nat → Option Bool × Unit → Sem (ForInStep (Option Bool × Unit))} : ∀ (l : List Nat), (∀ i ∈ l, ∀ s, (body i s).run P w = .ok (if r i then .yield (none, ()) else .done (some false, ())) w) →
    (forIn l (none, ()) body : Sem _).run P w = .ok (if l.all r then (none, ()) else (some false, ())) w
  | [], _ => by simp
  | i :: l, h => by
    rw [List.forIn_cons, Sem.run_bind, h i (by simp)]
    cases hr : r i with
    | true => simp [hr, run_eqLoop l fun j hj => h j (by simp [hj])]
    | false => simp [hr]
theorem run_eq_arr {t e : TypeId} {N sz : Nat} (h : P.underlying t = some (.array N e)) (hz : (P.info? e).map (·.size) = some sz) (d : Nat) {xs ys : List Value} (w : World) (r : Nat → Bool)
    (hr : ∀ i, i < N → ∃ x y, (part e xs.toArray (i * sz)).run P w = .ok x w ∧ (part e ys.toArray (i * sz)).run P w = .ok y w ∧ (Op.equalIn d e x y).run P w = .ok (r i) w) :
    (Op.equalIn (d + 1) t (.agg xs.toArray) (.agg ys.toArray)).run P w = .ok ((List.range N).all r) w := by
  have hl := run_eqLoop (P := P) (w := w) (r := r) (body := fun i _ => do
      let x ← part e xs.toArray (i * sz)
      let y ← part e ys.toArray (i * sz)
      let b ← Op.equalIn d e x y
      if b = false then pure (.done (some false, ())) else pure (.yield (none, ()))) (List.range' 0 N) (fun i hi s => by
    obtain ⟨x, y, h1, h2, h3⟩ := hr i (by simpa using hi)
    simp only [Sem.run_bind, h1, h2, h3, Result.andThen_ok]
    cases r i <;> simp)
  rw [List.range_eq_range']
  revert hl
  generalize (List.range' 0 N).all r = bb
  intro hl
  unfold Op.equalIn
  simp [run_underlying h, run_sizeOf hz] at hl ⊢
  rw [hl]
  cases bb <;> simp
theorem run_part1 {e : TypeId} {d : TypeDesc} (he : P.underlying e = some d) (hd : aggD d = false) {xs : List Value} {i : Nat} {v : Value} (hv : xs[i]? = some v) (w : World) : (part e xs.toArray i).run P w = .ok v w := by
  simp [part, run_isAggD he w, hd, hv]
theorem run_partA {e : TypeId} {d : TypeDesc} {sz : Nat} (he : P.underlying e = some d) (hd : aggD d = true) (hz : (P.info? e).map (·.size) = some sz) {xs : List Value} {i : Nat} (w : World) : (part e xs.toArray i).run P w = .ok (.agg ((xs.drop i).take sz).toArray) w := by
  simp [part, run_isAggD he w, hd, run_sizeOf hz, List.take_drop, Nat.add_comm]
/-- An array of numbers. -/
theorem run_eq_ints {t e : TypeId} {N : Nat} {k : IntKind} (h : P.underlying t = some (.array N e)) (he : P.underlying e = some (.int k)) (hz : (P.info? e).map (·.size) = some 1) (d : Nat) {us vs : List Int} (hu : us.length = N) (hv : vs.length = N) (w : World) :
    (Op.equalIn (d + 2) t (.agg (us.map (Value.int k)).toArray) (.agg (vs.map (Value.int k)).toArray)).run P w = .ok (decide (us = vs)) w := by
  rw [run_eq_arr h hz (d + 1) w (fun i => decide (us.getD i 0 = vs.getD i 0))]
  · congr 1
    rw [Bool.eq_iff_iff, List.all_eq_true]
    simp only [List.mem_range, decide_eq_true_eq]
    constructor
    · intro hh
      refine List.ext_getElem (by omega) fun i h1 h2 => ?_
      have := hh i (by omega)
      simpa [List.getD_eq_getElem?_getD, h1, h2] using this
    · rintro rfl; simp
  · intro i hi
    exact ⟨_, _, run_part1 he rfl (v := .int k (us.getD i 0)) (by simp [List.getD_eq_getElem?_getD, List.getElem?_eq_getElem (show i < us.length by omega)]) w,
      run_part1 he rfl (v := .int k (vs.getD i 0)) (by simp [List.getD_eq_getElem?_getD, List.getElem?_eq_getElem (show i < vs.length by omega)]) w, run_equalIn_int he d _ _ w⟩
/-- An array of arrays of numbers. -/
theorem run_eq_rows {t e e2 : TypeId} {N m : Nat} {k : IntKind} (h : P.underlying t = some (.array N e)) (he : P.underlying e = some (.array m e2)) (he2 : P.underlying e2 = some (.int k)) (hz : (P.info? e).map (·.size) = some m) (hz2 : (P.info? e2).map (·.size) = some 1) (d : Nat) {us vs : List (List Int)}
    (hu : us.length = N) (hv : vs.length = N) (hum : ∀ x ∈ us, x.length = m) (hvm : ∀ x ∈ vs, x.length = m) (w : World) :
    (Op.equalIn (d + 3) t (.agg (us.flatten.map (Value.int k)).toArray) (.agg (vs.flatten.map (Value.int k)).toArray)).run P w = .ok (decide (us = vs)) w := by
  have cut : ∀ (us : List (List Int)) (i : Nat), i < us.length → (∀ x ∈ us, x.length = m) → ((us.flatten.map (Value.int k)).drop (i * m)).take m = (us.getD i []).map (Value.int k) := by
    intro us i hi hm
    induction us generalizing i with
    | nil => simp at hi
    | cons x us ih =>
      have hx := hm x (by simp)
      cases i with
      | zero => simp [List.take_append_of_le_length (show m ≤ (x.map (Value.int k)).length by simp [hx]), List.take_of_length_le (show (x.map (Value.int k)).length ≤ m by simp [hx])]
      | succ i =>
        have := ih i (by simpa using hi) fun y hy => hm y (by simp [hy])
        rw [show (i + 1) * m = (x.map (Value.int k)).length + i * m by simp [hx, Nat.add_mul]; omega]
        simp only [List.flatten_cons, List.map_append, List.drop_length_add_append, this]
        simp
  rw [run_eq_arr h hz (d + 2) w (fun i => decide (us.getD i [] = vs.getD i []))]
  · congr 1
    rw [Bool.eq_iff_iff, List.all_eq_true]
    simp only [List.mem_range, decide_eq_true_eq]
    constructor
    · intro hh
      refine List.ext_getElem (by omega) fun i h1 h2 => ?_
      have := hh i (by omega)
      simpa [List.getD_eq_getElem?_getD, h1, h2] using this
    · rintro rfl; simp
  · intro i hi
    refine ⟨_, _, run_partA he rfl hz w, run_partA he rfl hz w, ?_⟩
    rw [cut us i (by omega) hum, cut vs i (by omega) hvm]
    exact run_eq_ints he he2 hz2 d (by
      have : us.getD i [] ∈ us := by rw [List.getD_eq_getElem?_getD, List.getElem?_eq_getElem (show i < us.length by omega)]; exact List.getElem_mem _
      exact hum _ this) (by
      have : vs.getD i [] ∈ vs := by rw [List.getD_eq_getElem?_getD, List.getElem?_eq_getElem (show i < vs.length by omega)]; exact List.getElem_mem _
      exact hvm _ this) w
section
variable {n : Nat} {Γ : Ctx} {M : Owns} {L : List (Nat × Spec)} {dst : Option Nat} {ty : TypeId} {pos : String} {after : Array Edge} {guard : Option (Nat × Bool)}
variable {t t2 : TypeId} {x y : Operand}
theorem run_guardA {op : BinOp} {xs ys : Array Value} (hg : P.eqGuardType P.depth t = false) (w : World) : (eqGuard op t x y (.agg xs) (.agg ys)).run P w = .ok () w := by
  unfold eqGuard
  cases op <;> simp [program, hg, Sem.run, bind, Sem.bind, pure]
theorem cells_ints {F : Foot} {w : World} {k : IntKind} : ∀ {us : List Int} {vs : List Value}, Cells F w (us.map fun x => sval (.int k x)) vs → vs = us.map (Value.int k)
  | [], [], _ => rfl
  | _ :: _, _ :: _, ⟨⟨h, _⟩, r⟩ => by rw [List.map_cons, ← cells_ints r]; exact congrArg (· :: _) h
  | [], _ :: _, h => h.elim
  | _ :: _, [], h => h.elim
theorem run_eqA (neg : Bool) {xs ys : Array Value} {r : Bool} (h : ∀ w, (Op.equal t (.agg xs) (.agg ys)).run P w = .ok r w) (w : World) : (binOp (if neg then .neq else .eql) t (.agg xs) (.agg ys)).run P w = .ok (.bool (r != neg)) w := by
  cases neg <;> simp [binOp, h]
theorem y_eqA (neg : Bool) {l l' : List Spec} {r : Bool} (hx : opv L x = some (sagg l)) (hy : opv L y = some (sagg l')) (hg : Γ.E.P.eqGuardType Γ.E.P.depth t = false)
    (h : ∀ F w us vs, Cells F w l us → Cells F w l' vs → ∀ w', (Op.equal t (.agg us.toArray) (.agg vs.toArray)).run Γ.E.P w' = .ok r w') :
    Yields n Γ M L ⟨dst, .binOp (if neg then .neq else .eql) t x y t2, ty, pos, after, guard⟩ (sbool (r != neg)) := by
  refine y_val fun a w hs => ?_
  obtain ⟨us, h1, c1⟩ := hs.opv hx
  obtain ⟨vs, h2, c2⟩ := hs.opv hy
  have he := run_eqA neg (h _ _ _ _ c1 c2) w
  have e : execOp a.eval ⟨dst, .binOp (if neg then .neq else .eql) t x y t2, ty, pos, after, guard⟩ = ((eqGuard (if neg then .neq else .eql) t x y (a.eval x) (a.eval y) >>= fun _ => binOp (if neg then .neq else .eql) t (a.eval x) (a.eval y)) >>= fun v => pure (.value v)) := rfl
  rw [e, Sem.run_bind, Sem.run_bind, h1, h2, run_guardA hg w, Result.andThen_ok, he]
  rfl
/-- arrays of numbers, told by lists -/
theorem y_eqI (neg : Bool) {e : TypeId} {N : Nat} {k : IntKind} {us vs : List Int} (hx : opv L x = some (sagg (us.map fun x => sval (.int k x)))) (hy : opv L y = some (sagg (vs.map fun x => sval (.int k x)))) (hg : Γ.E.P.eqGuardType Γ.E.P.depth t = false)
    (hU : Γ.E.P.underlying t = some (.array N e)) (he : Γ.E.P.underlying e = some (.int k)) (hz : (Γ.E.P.info? e).map (·.size) = some 1) (hu : us.length = N) (hv : vs.length = N) :
    Yields n Γ M L ⟨dst, .binOp (if neg then .neq else .eql) t x y t2, ty, pos, after, guard⟩ (sbool (decide (us = vs) != neg)) :=
  y_eqA neg hx hy hg fun F w as bs ca cb w' => by
    rw [cells_ints ca, cells_ints cb]
    exact run_eq_ints hU he hz 9998 hu hv w'
theorem y_eqR (neg : Bool) {e e2 : TypeId} {N m : Nat} {k : IntKind} {us vs : List (List Int)} (hx : opv L x = some (sagg (us.flatten.map fun x => sval (.int k x)))) (hy : opv L y = some (sagg (vs.flatten.map fun x => sval (.int k x)))) (hg : Γ.E.P.eqGuardType Γ.E.P.depth t = false)
    (hU : Γ.E.P.underlying t = some (.array N e)) (he : Γ.E.P.underlying e = some (.array m e2)) (he2 : Γ.E.P.underlying e2 = some (.int k)) (hz : (Γ.E.P.info? e).map (·.size) = some m) (hz2 : (Γ.E.P.info? e2).map (·.size) = some 1) (hu : us.length = N) (hv : vs.length = N) (hum : ∀ x ∈ us, x.length = m) (hvm : ∀ x ∈ vs, x.length = m) :
    Yields n Γ M L ⟨dst, .binOp (if neg then .neq else .eql) t x y t2, ty, pos, after, guard⟩ (sbool (decide (us = vs) != neg)) :=
  y_eqA neg hx hy hg fun F w as bs ca cb w' => by
    rw [cells_ints ca, cells_ints cb]
    exact run_eq_rows hU he he2 hz hz2 9997 hu hv hum hvm w'
theorem y_eqB (neg : Bool) {p q : Bool} (hx : opv L x = some (sbool p)) (hy : opv L y = some (sbool q)) (hU : Γ.E.P.underlying t = some .bool) : Yields n Γ M L ⟨dst, .binOp (if neg then .neq else .eql) t x y t2, ty, pos, after, guard⟩ (sbool ((p == q) != neg)) := by
  have h : ∀ w, (Op.equal t (.bool p) (.bool q)).run Γ.E.P w = .ok (p == q) w := fun w => by
    show (Op.equalIn (9999 + 1) t (.bool p) (.bool q)).run Γ.E.P w = .ok (p == q) w
    unfold Op.equalIn
    rw [Sem.run_bind, run_underlying hU, Result.andThen_ok]
    rfl
  refine y_bin hx hy fun w => ?_
  have hg : (eqGuard (if neg then .neq else .eql) t x y (.bool p) (.bool q)).run Γ.E.P w = .ok () w := by
    unfold eqGuard
    cases neg <;> rfl
  rw [Sem.run_bind, hg, Result.andThen_ok]
  cases neg <;> simp [binOp, h]
end
end Go.Vx
