/- The rules of operations for the assertions of Va: numbers, bools, conversions, parts of values, reads of memory that stays. Conditions: each rule states what it asks. -/
import Derived.Test.YtofnjbcbkfbomaaDoorVa
namespace Go.Vx
open Go Go.RowKit

/-- The range of a kind. -/
abbrev inU64 (n : Int) : Prop := 0 ≤ n ∧ n < 18446744073709551616
abbrev inI64 (n : Int) : Prop := -9223372036854775808 ≤ n ∧ n < 9223372036854775808
abbrev wI (n : Int) : Int := IntKind.i64.wrap n
abbrev wU (n : Int) : Int := IntKind.u64.wrap n

theorem wU_in {n : Int} (h : inU64 n) : IntKind.u64.wrap n = n := by
  simp [IntKind.wrap, IntKind.bits, IntKind.signed]; omega
theorem wU_eq (n : Int) : IntKind.u64.wrap n = n % 18446744073709551616 := by simp [IntKind.wrap, IntKind.bits, IntKind.signed]
theorem wI_in {n : Int} (h : inI64 n) : IntKind.i64.wrap n = n := by
  simp [IntKind.wrap, IntKind.bits, IntKind.signed]; split <;> omega
theorem w8_in {n : Int} (h : 0 ≤ n ∧ n < 256) : IntKind.u8.wrap n = n := by
  simp [IntKind.wrap, IntKind.bits, IntKind.signed]; omega
theorem w32_in {n : Int} (h : 0 ≤ n ∧ n < 4294967296) : IntKind.u32.wrap n = n := by
  simp [IntKind.wrap, IntKind.bits, IntKind.signed]; omega

theorem wU_tdiv {p q : Int} (h : 0 ≤ p) (h2 : inU64 (p / q)) : IntKind.u64.wrap (p.tdiv q) = p / q := by rw [Int.tdiv_eq_ediv_of_nonneg h, wU_in h2]
theorem wI_tdiv {p q : Int} (h : 0 ≤ p) (h2 : inI64 (p / q)) : IntKind.i64.wrap (p.tdiv q) = p / q := by rw [Int.tdiv_eq_ediv_of_nonneg h, wI_in h2]

section
variable {n : Nat} {Γ : Ctx} {M : Owns} {L : List (Nat × Spec)} {dst : Option Nat} {ty : TypeId} {pos : String} {after : Array Edge} {guard : Option (Nat × Bool)}

/-- An operation that computes a value out of its operands. -/
theorem y_val {o : Oper} {v : Value} (h : ∀ a w, St n Γ M L a w → (execOp a.eval o).run Γ.E.P w = .ok (.value v) w) : Yields n Γ M L o (sval v) := fun a w hs K Q hK => by
  unfold Oper.wp
  rw [h a w hs]
  exact hK v w (Below.refl _ _) rfl

theorem y_move {x : Operand} {S : Spec} (hx : opv L x = some S) : Yields n Γ M L ⟨dst, .move x, ty, pos, after, guard⟩ S := fun a w hs K Q hK => by
  unfold Oper.wp
  exact hK _ w (Below.refl _ _) (hs.opv hx)
theorem y_assign {x : Operand} {S : Spec} (hx : opv L x = some S) : Yields n Γ M L ⟨dst, .assign x, ty, pos, after, guard⟩ S := fun a w hs K Q hK => by
  unfold Oper.wp
  exact hK _ w (Below.refl _ _) (hs.opv hx)

theorem y_pick {c x y : Operand} {b : Bool} {S : Spec} (hc : opv L c = some (sval (.bool b))) (hx : opv L (if b then x else y) = some S) : Yields n Γ M L ⟨dst, .pick c x y, ty, pos, after, guard⟩ S := fun a w hs K Q hK => by
  have e : a.eval c = .bool b := hs.opv hc
  have e2 := hs.opv hx
  unfold Oper.wp
  have : (execOp a.eval ⟨dst, .pick c x y, ty, pos, after, guard⟩).run Γ.E.P w = .ok (.value (a.eval (if b then x else y))) w := by
    cases b <;> simp [execOp, e, asBool]
  rw [this]
  exact hK _ w (Below.refl _ _) e2

theorem y_pickT {c x y : Operand} {S : Spec} (hc : opv L c = some (sval (.bool true))) (hx : opv L x = some S) : Yields n Γ M L ⟨dst, .pick c x y, ty, pos, after, guard⟩ S := y_pick hc hx
theorem y_pickF {c x y : Operand} {S : Spec} (hc : opv L c = some (sval (.bool false))) (hx : opv L y = some S) : Yields n Γ M L ⟨dst, .pick c x y, ty, pos, after, guard⟩ S := y_pick hc hx
/-- of two bools -/
theorem y_pickB {c x y : Operand} {b p q : Bool} (hc : opv L c = some (sval (.bool b))) (hx : opv L x = some (sval (.bool p))) (hy : opv L y = some (sval (.bool q))) :
    Yields n Γ M L ⟨dst, .pick c x y, ty, pos, after, guard⟩ (sval (.bool (if b then p else q))) := y_pick hc (by cases b <;> simp [hx, hy])

theorem y_bin {op : BinOp} {t t2 : TypeId} {x y : Operand} {vx vy r : Value} (hx : opv L x = some (sval vx)) (hy : opv L y = some (sval vy))
    (h : ∀ w, (eqGuard op t x y vx vy >>= fun _ => binOp op t vx vy).run Γ.E.P w = .ok r w) : Yields n Γ M L ⟨dst, .binOp op t x y t2, ty, pos, after, guard⟩ (sval r) := by
  refine y_val fun a w hs => ?_
  have e1 : a.eval x = vx := hs.opv hx
  have e2 : a.eval y = vy := hs.opv hy
  have e : execOp a.eval ⟨dst, .binOp op t x y t2, ty, pos, after, guard⟩ = ((eqGuard op t x y vx vy >>= fun _ => binOp op t vx vy) >>= fun v => pure (.value v)) := by
    simp only [execOp, e1, e2]
  rw [e, Sem.run_bind, h w]
  rfl

theorem run_guard_int {P : Program} {op : BinOp} {t : TypeId} {x y : Operand} {k k' : IntKind} {a b : Int} (w : World) : (eqGuard op t x y (.int k a) (.int k' b)).run P w = .ok () w := by
  cases op <;> simp [eqGuard]

variable {t t2 : TypeId} {x y : Operand} {k : IntKind} {p q : Int}

theorem y_addw (hx : opv L x = some (sval (.int k p))) (hy : opv L y = some (sval (.int k q))) : Yields n Γ M L ⟨dst, .binOp .add t x y t2, ty, pos, after, guard⟩ (sval (.int k (k.wrap (p + q)))) :=
  y_bin hx hy fun w => by simp [run_guard_int, binOp, Op.intArith]
theorem y_subw (hx : opv L x = some (sval (.int k p))) (hy : opv L y = some (sval (.int k q))) : Yields n Γ M L ⟨dst, .binOp .sub t x y t2, ty, pos, after, guard⟩ (sval (.int k (k.wrap (p - q)))) :=
  y_bin hx hy fun w => by simp [run_guard_int, binOp, Op.intArith]
theorem y_mulw (hx : opv L x = some (sval (.int k p))) (hy : opv L y = some (sval (.int k q))) : Yields n Γ M L ⟨dst, .binOp .mul t x y t2, ty, pos, after, guard⟩ (sval (.int k (k.wrap (p * q)))) :=
  y_bin hx hy fun w => by simp [run_guard_int, binOp, Op.intArith]
/-- sums, differences, products that fit -/
theorem y_add {r : Int} (hx : opv L x = some (sval (.int k p))) (hy : opv L y = some (sval (.int k q))) (h : k.wrap (p + q) = r) : Yields n Γ M L ⟨dst, .binOp .add t x y t2, ty, pos, after, guard⟩ (sval (.int k r)) := h ▸ y_addw hx hy
theorem y_sub {r : Int} (hx : opv L x = some (sval (.int k p))) (hy : opv L y = some (sval (.int k q))) (h : k.wrap (p - q) = r) : Yields n Γ M L ⟨dst, .binOp .sub t x y t2, ty, pos, after, guard⟩ (sval (.int k r)) := h ▸ y_subw hx hy
theorem y_mul {r : Int} (hx : opv L x = some (sval (.int k p))) (hy : opv L y = some (sval (.int k q))) (h : k.wrap (p * q) = r) : Yields n Γ M L ⟨dst, .binOp .mul t x y t2, ty, pos, after, guard⟩ (sval (.int k r)) := h ▸ y_mulw hx hy

theorem y_quo {r : Int} (hx : opv L x = some (sval (.int k p))) (hy : opv L y = some (sval (.int k q))) (h0 : q ≠ 0) (h : k.wrap (p.tdiv q) = r) : Yields n Γ M L ⟨dst, .binOp .quo t x y t2, ty, pos, after, guard⟩ (sval (.int k r)) :=
  y_bin hx hy fun w => by simp [run_guard_int, binOp, Op.intDiv, h0, h]
theorem y_rem {r : Int} (hx : opv L x = some (sval (.int k p))) (hy : opv L y = some (sval (.int k q))) (h0 : q ≠ 0) (h : p.tmod q = r) : Yields n Γ M L ⟨dst, .binOp .rem t x y t2, ty, pos, after, guard⟩ (sval (.int k r)) :=
  y_bin hx hy fun w => by simp [run_guard_int, binOp, Op.intDiv, h0, h]
theorem tmod_of {p q : Int} (h : 0 ≤ p) : p.tmod q = p % q := Int.tmod_eq_emod_of_nonneg h
theorem tdiv_of {p q : Int} (h : 0 ≤ p) : p.tdiv q = p / q := Int.tdiv_eq_ediv_of_nonneg h

theorem y_shl {k2 : IntKind} {r : Int} (hx : opv L x = some (sval (.int k p))) (hy : opv L y = some (sval (.int k2 q))) (h0 : 0 ≤ q) (h : k.wrap (p * 2 ^ (min q.toNat k.bits)) = r) : Yields n Γ M L ⟨dst, .binOp .shl t x y t2, ty, pos, after, guard⟩ (sval (.int k r)) :=
  y_bin hx hy fun w => by simp [run_guard_int, binOp, Op.shift, show ¬ q < 0 by omega, h]
theorem y_shr {k2 : IntKind} {r : Int} (hx : opv L x = some (sval (.int k p))) (hy : opv L y = some (sval (.int k2 q))) (h0 : 0 ≤ q) (h : p.fdiv (2 ^ (min q.toNat k.bits)) = r) : Yields n Γ M L ⟨dst, .binOp .shr t x y t2, ty, pos, after, guard⟩ (sval (.int k r)) :=
  y_bin hx hy fun w => by simp [run_guard_int, binOp, Op.shift, show ¬ q < 0 by omega, h]

/-- and, or, exclusive or, on bits -/
def bits (op : BinOp) (k : IntKind) (p q : Int) : Int :=
  let a := BitVec.ofInt k.bits p
  let b := BitVec.ofInt k.bits q
  k.wrap (match op with
    | .and => (a &&& b).toNat
    | .or => (a ||| b).toNat
    | .xor => (a ^^^ b).toNat
    | _ => (a &&& ~~~b).toNat)
theorem y_and {r : Int} (hx : opv L x = some (sval (.int k p))) (hy : opv L y = some (sval (.int k q))) (h : bits .and k p q = r) : Yields n Γ M L ⟨dst, .binOp .and t x y t2, ty, pos, after, guard⟩ (sval (.int k r)) :=
  y_bin hx hy fun w => by subst h; simp [run_guard_int, binOp, Op.intBits, bits]
theorem y_or {r : Int} (hx : opv L x = some (sval (.int k p))) (hy : opv L y = some (sval (.int k q))) (h : bits .or k p q = r) : Yields n Γ M L ⟨dst, .binOp .or t x y t2, ty, pos, after, guard⟩ (sval (.int k r)) :=
  y_bin hx hy fun w => by subst h; simp [run_guard_int, binOp, Op.intBits, bits]
theorem y_xor {r : Int} (hx : opv L x = some (sval (.int k p))) (hy : opv L y = some (sval (.int k q))) (h : bits .xor k p q = r) : Yields n Γ M L ⟨dst, .binOp .xor t x y t2, ty, pos, after, guard⟩ (sval (.int k r)) :=
  y_bin hx hy fun w => by subst h; simp [run_guard_int, binOp, Op.intBits, bits]

theorem y_lss (hx : opv L x = some (sval (.int k p))) (hy : opv L y = some (sval (.int k q))) : Yields n Γ M L ⟨dst, .binOp .lss t x y t2, ty, pos, after, guard⟩ (sval (.bool (decide (p < q)))) :=
  y_bin hx hy fun w => by simp [run_guard_int, binOp, Op.intCmp]
theorem y_leq (hx : opv L x = some (sval (.int k p))) (hy : opv L y = some (sval (.int k q))) : Yields n Γ M L ⟨dst, .binOp .leq t x y t2, ty, pos, after, guard⟩ (sval (.bool (decide (p ≤ q)))) :=
  y_bin hx hy fun w => by simp [run_guard_int, binOp, Op.intCmp]
theorem y_gtr (hx : opv L x = some (sval (.int k p))) (hy : opv L y = some (sval (.int k q))) : Yields n Γ M L ⟨dst, .binOp .gtr t x y t2, ty, pos, after, guard⟩ (sval (.bool (decide (q < p)))) :=
  y_bin hx hy fun w => by simp [run_guard_int, binOp, Op.intCmp]
theorem y_geq (hx : opv L x = some (sval (.int k p))) (hy : opv L y = some (sval (.int k q))) : Yields n Γ M L ⟨dst, .binOp .geq t x y t2, ty, pos, after, guard⟩ (sval (.bool (decide (q ≤ p)))) :=
  y_bin hx hy fun w => by simp [run_guard_int, binOp, Op.intCmp]
theorem y_eql (hx : opv L x = some (sval (.int k p))) (hy : opv L y = some (sval (.int k q))) : Yields n Γ M L ⟨dst, .binOp .eql t x y t2, ty, pos, after, guard⟩ (sval (.bool (decide (p = q)))) :=
  y_bin hx hy fun w => by
    have e : (p == q) = decide (p = q) := by rw [Bool.eq_iff_iff]; simp
    simp [run_guard_int, binOp, Op.intCmp, e]
theorem y_neq (hx : opv L x = some (sval (.int k p))) (hy : opv L y = some (sval (.int k q))) : Yields n Γ M L ⟨dst, .binOp .neq t x y t2, ty, pos, after, guard⟩ (sval (.bool (decide (p ≠ q)))) :=
  y_bin hx hy fun w => by
    simp only [Sem.run_bind, run_guard_int, Result.andThen_ok, binOp, Op.intCmp]
    simp [bne, BEq.beq]
/-- a test whose outcome is known -/
theorem Yields.bool {o : Oper} {b c : Bool} (h : Yields n Γ M L o (sval (.bool b))) (e : b = c) : Yields n Γ M L o (sval (.bool c)) := e ▸ h
theorem Yields.int {o : Oper} {k : IntKind} {p q : Int} (h : Yields n Γ M L o (sval (.int k p))) (e : p = q) : Yields n Γ M L o (sval (.int k q)) := e ▸ h
theorem Yields.eq {o : Oper} {S T : Spec} (h : Yields n Γ M L o S) (e : S = T) : Yields n Γ M L o T := e ▸ h

theorem y_not {b : Bool} (hx : opv L x = some (sval (.bool b))) : Yields n Γ M L ⟨dst, .unOp .not t x, ty, pos, after, guard⟩ (sval (.bool (!b))) := by
  refine y_val fun a w hs => ?_
  have e1 : a.eval x = .bool b := hs.opv hx
  simp [execOp, e1, Op.unary]
theorem y_neg {r : Int} (hx : opv L x = some (sval (.int k p))) (h : k.wrap (0 - p) = r) : Yields n Γ M L ⟨dst, .unOp .neg t x, ty, pos, after, guard⟩ (sval (.int k r)) := by
  refine y_val fun a w hs => ?_
  have e1 : a.eval x = .int k p := hs.opv hx
  subst h
  simp [execOp, e1, Op.unary, Op.intArith]

theorem y_conv {src d : TypeId} {k' : IntKind} {r : Int} {D : TypeDesc} (hs' : Γ.E.P.underlying src = some D) (hd : Γ.E.P.underlying d = some (.int k')) (hx : opv L x = some (sval (.int k p))) (h : k'.wrap p = r) :
    Yields n Γ M L ⟨dst, .convert src d x, ty, pos, after, guard⟩ (sval (.int k' r)) := by
  refine y_val fun a w hs => ?_
  have e1 : a.eval x = .int k p := hs.opv hx
  subst h
  simp [execOp, e1, convert, run_underlying hs', run_underlying hd, Conv.intToInt]

theorem y_nil {S : Spec} {b o : Nat} {sp : Option Nat} (hx : opv L x = some (sval (.pointer (some ⟨b, o, sp⟩)))) (hS : S = sval (.pointer (some ⟨b, o, sp⟩))) : Yields n Γ M L ⟨dst, .nilCheck x, ty, pos, after, guard⟩ S := by
  subst hS
  refine y_val fun a w hs => ?_
  have e1 : a.eval x = .pointer (some ⟨b, o, sp⟩) := hs.opv hx
  simp [execOp, e1]

/-! tuples: the results of a call -/
/-- Several results. -/
def stup (l : List Spec) : Spec where
  holds F w v := ∃ us, v = .tuple us.toArray ∧ Holds F w l us
  keep := by
    rintro F w F' w' v ⟨us, h, c⟩ k
    refine ⟨us, h, ?_⟩
    clear h
    induction l generalizing us with
    | nil => cases us with
      | nil => trivial
      | cons u us => exact c.elim
    | cons S l ih => cases us with
      | nil => exact c.elim
      | cons u us => exact ⟨S.keep c.1 k, ih us c.2⟩

theorem y_extract {l : List Spec} {i : Nat} {S : Spec} (hx : opv L x = some (stup l)) (hi : l[i]? = some S) : Yields n Γ M L ⟨dst, .extract x i, ty, pos, after, guard⟩ S := fun a w hs K Q hK => by
  obtain ⟨us, hv, hc⟩ := hs.opv hx
  obtain ⟨u, hu, hh⟩ := hc.get hi
  unfold Oper.wp
  have : (execOp a.eval ⟨dst, .extract x i, ty, pos, after, guard⟩).run Γ.E.P w = .ok (.value u) w := by
    simp [execOp, hv, Instr.extract, hu]
  rw [this]
  exact hK _ w (Below.refl _ _) hh
end
end Go.Vx
