/- More rules, in the forms that a program prints: types' facts in one, guards that are not decided, typed rows, parts of values, the layers behind a way's end. Conditions: each rule states what it asks. -/
import Derived.Test.YtofnjbcbkfbomaaDoorVh
namespace Go.Vx
open Go Go.RowKit

/-- What is known of a type: its zero value, its cells, its bytes. -/
def TI (P : Program) (t : TypeId) (z : Value) (sz bytes : Nat) : Prop := (P.info? t).map (fun i => (i.zero, i.size, i.bytes)) = some (some z, sz, bytes)
theorem TI.siz {P : Program} {t : TypeId} {z : Value} {sz bytes : Nat} (h : TI P t z sz bytes) : (P.info? t).map (·.size) = some sz := by
  unfold TI at h
  cases hi : P.info? t with
  | none => rw [hi] at h; cases h
  | some i => rw [hi] at h; simp at h ⊢; exact h.2.1
theorem TI.ex {P : Program} {t : TypeId} {z : Value} {sz bytes : Nat} (h : TI P t z sz bytes) : ∃ i, P.info? t = some i ∧ i.zero = some z ∧ i.size = sz ∧ i.bytes = bytes := info_parts h

/-- A value of one cell, found by itself. -/
class OneS (S : Spec) : Prop where
  one : One S
instance (k : IntKind) (i : Int) : OneS (sval (.int k i)) := ⟨one_int k i⟩
instance (b : Bool) : OneS (sval (.bool b)) := ⟨one_bool b⟩
instance (a : Option Addr) : OneS (sval (.pointer a)) := ⟨one_ptr a⟩
instance (a : Option Addr) (l c : Nat) : OneS (sval (.slice a l c)) := ⟨one_slice a l c⟩
instance (s : ByteArray) : OneS (sval (.string s)) := ⟨one_string s⟩
instance {α : Type} (K : α → List Spec) (l : List α) : OneS (slc K l) := ⟨one_slc K l⟩
instance (l : List Spec) : OneS (spts l) := ⟨one_pts l⟩
instance (f : FuncId) (Cs : List Spec) : OneS (sfun f Cs) := ⟨one_fun f Cs⟩

/-- What is said of a value where a guard has let it be made. -/
def scond (b : Bool) (S : Spec) : Spec where
  holds F w v := b = true → S.holds F w v
  keep := fun h k hb => S.keep (h hb) k

/-- A typed row. -/
abbrev Ent.rows {α : Type} (K : α → List Spec) (v : Value) (e : TypeId) (sz : Nat) (l : List α) : Ent := .row v e sz l.length (l.flatMap K)

def opvs (L : List (Nat × Spec)) : List Operand → Option (List Spec)
  | [] => some []
  | x :: xs => match opv L x with
    | none => none
    | some S => match opvs L xs with
      | none => none
      | some l => some (S :: l)
theorem opvs_mapM {L : List (Nat × Spec)} : ∀ {xs : List Operand} {l : List Spec}, opvs L xs = some l → xs.mapM (opv L) = some l
  | [], l, h => by cases h; rfl
  | x :: xs, l, h => by
    unfold opvs at h
    cases hx : opv L x with
    | none => rw [hx] at h; cases h
    | some S =>
      rw [hx] at h
      simp only at h
      cases hr : opvs L xs with
      | none => rw [hr] at h; cases h
      | some l' =>
        rw [hr] at h
        cases h
        rw [List.mapM_cons, hx, opvs_mapM hr]
        rfl

section
variable {n : Nat} {Γ : Ctx} {M : Owns} {L : List (Nat × Spec)} {dst : Option Nat} {ty : TypeId} {pos : String} {after : Array Edge} {guard : Option (Nat × Bool)}
variable {t : TypeId} {d : TypeDesc} {x y : Operand} {ops : Array Oper} {Q : Exit → Act → World → Prop} {rest : List Oper} {o : Oper} {A : Act → World → Prop} {P : Program} {c : Code}

/-! ends of ways -/
theorem Run.nT (h : Run n Γ M L A) : Run n Γ M L (Exit.then A Q .normal) := h
theorem Run.nB {id : Nat} (h : Run n Γ M L (Q .normal)) : Run n Γ M L (Exit.inBlock id Q .normal) := h
theorem Run.eT {id : Nat} (h : Run n Γ M L (Q (.exit id))) : Run n Γ M L (Exit.then A Q (.exit id)) := h
theorem Run.eB {id : Nat} (h : Run n Γ M L (Q .normal)) : Run n Γ M L (Exit.inBlock id Q (.exit id)) := fun a w hs => by
  show Exit.inBlock id Q (.exit id) a w
  simp only [Exit.inBlock, if_true]
  exact h a w hs
theorem Run.eB' {id id' : Nat} (hne : Nat.beq id' id = false) (h : Run n Γ M L (Q (.exit id'))) : Run n Γ M L (Exit.inBlock id Q (.exit id')) := fun a w hs => by
  show Exit.inBlock id Q (.exit id') a w
  simp only [Exit.inBlock]
  rw [if_neg (Nat.ne_of_beq_eq_false hne)]
  exact h a w hs
theorem Run.rT (h : Run n Γ M L (Q .ret)) : Run n Γ M L (Exit.then A Q .ret) := h
theorem Run.rB {id : Nat} (h : Run n Γ M L (Q .ret)) : Run n Γ M L (Exit.inBlock id Q .ret) := h

/-! guards -/
theorem Incl.cond {L' : List (Nat × Spec)} {t : Nat} {b : Bool} {S : Spec} (h : look L t = some (scond b S)) (hb : b = true) (r : Incl Γ M L L') : Incl Γ M L ((t, S) :: L') := Incl.cons h (fun _ _ h => h hb) r
theorem Yields.incl {L' : List (Nat × Spec)} {S : Spec} (hi : Incl Γ M L L') (h : Yields n Γ M L' o S) : Yields n Γ M L o S := fun a w hs => h a w (hs.incl hi)

/-- whether a guard lets an operation be carried out -/
abbrev lets (b want : Bool) : Bool := b == want
/-- A guarded operation, the guard not decided. -/
theorem Run.opC {dn j t : Nat} {want b : Bool} {S : Spec} (hg : o.guard = some (j, want)) (hj : (ops[j]?).bind (·.dst) = some t) (ht : look L t = some (sval (.bool b))) (hd : o.dst = some dn) (hn : Nat.ble (dn + 1) n = true)
    (hy : lets b want = true → Yields n Γ M L o S) (h : Run n Γ M ((dn, scond (lets b want) S) :: L) (wpList Γ.E.P ops Q rest)) : Run n Γ M L (wpList Γ.E.P ops Q (o :: rest)) := by
  cases hb : lets b want with
  | true =>
    rw [hb] at h
    have hbw : b = want := by simpa using hb
    subst hbw
    exact Run.opG hg hj ht hd hn (fun a w hs K Q hK => hy hb a w hs K Q fun v w' g hv => hK v w' g (show (scond true S).holds _ _ _ from fun _ => hv)) h
  | false =>
    rw [hb] at h
    exact Run.opS hg hj ht hb hd hn (fun a w hs => h a w (hs.incl fun u T hT => by
      rw [look_cons] at hT
      by_cases e : dn = u
      · rw [if_pos e] at hT; cases hT
        exact ⟨sany, by rw [look_cons, if_pos e], fun _ _ _ hf => by cases hf⟩
      · rw [if_neg e] at hT; exact ⟨T, by rw [look_cons, if_neg e]; exact hT, fun _ _ h => h⟩))
theorem StepOk.opC {i dn j t : Nat} {want b : Bool} {S : Spec} (ho : ops[i]? = some o) (hg : o.guard = some (j, want)) (hj : (ops[j]?).bind (·.dst) = some t) (ht : look L t = some (sval (.bool b))) (hd : o.dst = some dn) (hy : lets b want = true → Yields n Γ M L o S) :
    StepOk n Γ M L ops Q i dn (scond (lets b want) S) := by
  cases hb : lets b want with
  | true =>
    have hbw : b = want := by simpa using hb
    subst hbw
    exact StepOk.opG ho hg hj ht hd (fun a w hs K Q hK => hy hb a w hs K Q fun v w' g hv => hK v w' g (show (scond true S).holds _ _ _ from fun _ => hv))
  | false =>
    have := StepOk.opS (n := n) (Γ := Γ) (M := M) (Q := Q) ho hg hj ht hb hd
    exact fun a w hs K hK => this a w hs K fun v w' g _ => hK v w' g (show (scond false S).holds _ _ _ from fun hf => by cases hf)

/-- 'a && b' -/
theorem y_pickAnd {b p : Bool} (hc : opv L x = some (sval (.bool b))) {z : Operand} (hx : opv L z = some (scond (lets b true) (sval (.bool p)))) : Yields n Γ M L ⟨dst, .pick x z (.const (.bool false)), ty, pos, after, guard⟩ (sval (.bool (b && p))) := fun a w hs K Q hK => by
  have e : a.eval x = .bool b := hs.opv hc
  have e2 := hs.opv hx
  unfold Oper.wp
  have : (execOp a.eval ⟨dst, .pick x z (.const (.bool false)), ty, pos, after, guard⟩).run Γ.E.P w = .ok (.value (.bool (b && p))) w := by
    cases b with
    | true =>
      have e3 : a.eval z = .bool p := e2 rfl
      simp [execOp, e, asBool, e3]
    | false =>
      have e4 : a.eval (.const (.bool false)) = .bool false := rfl
      simp [execOp, e, asBool, e4]
  rw [this]
  exact hK _ w (Below.refl _ _) rfl
/-- 'a || b' -/
theorem y_pickOr {b p : Bool} (hc : opv L x = some (sval (.bool b))) {z : Operand} (hx : opv L z = some (scond (lets b false) (sval (.bool p)))) : Yields n Γ M L ⟨dst, .pick x (.const (.bool true)) z, ty, pos, after, guard⟩ (sval (.bool (b || p))) := fun a w hs K Q hK => by
  have e : a.eval x = .bool b := hs.opv hc
  have e2 := hs.opv hx
  unfold Oper.wp
  have : (execOp a.eval ⟨dst, .pick x (.const (.bool true)) z, ty, pos, after, guard⟩).run Γ.E.P w = .ok (.value (.bool (b || p))) w := by
    cases b with
    | true =>
      have e4 : a.eval (.const (.bool true)) = .bool true := rfl
      simp [execOp, e, asBool, e4]
    | false =>
      have e3 : a.eval z = .bool p := e2 rfl
      simp [execOp, e, asBool, e3]
  rw [this]
  exact hK _ w (Below.refl _ _) rfl

/-- A bool in a slot is decided here. -/
theorem Run.cases {X : Act → World → Prop} {b : Bool} (t : Nat) (ht : look L t = some (sval (.bool b))) (h1 : b = true → Run n Γ M ((t, sval (.bool true)) :: L) X) (h0 : b = false → Run n Γ M ((t, sval (.bool false)) :: L) X) : Run n Γ M L X := fun a w hs => by
  cases hb : b with
  | true => rw [hb] at ht; exact h1 hb a w (hs.say (hs.slots t _ ht))
  | false => rw [hb] at ht; exact h0 hb a w (hs.say (hs.slots t _ ht))

/-! parts of values -/
theorem y_fieldV {l : List Spec} {fs : Array Field} {i : Nat} {f : Field} {S : Spec} (hx : opv L x = some (sagg l)) (hU : Γ.E.P.underlying t = some (.struct fs)) (hf : fs[i]? = some f) (hU' : Γ.E.P.underlying f.type = some d) (hd : aggD d = false) (hS : l[f.offset]? = some S) :
    Yields n Γ M L ⟨dst, .field t x i, ty, pos, after, guard⟩ S := fun a w hs K Q hK => by
  obtain ⟨us, hv, hc⟩ := hs.opv hx
  obtain ⟨u, hu, hh, _⟩ := hc.get hS
  unfold Oper.wp
  have : (execOp a.eval ⟨dst, .field t x i, ty, pos, after, guard⟩).run Γ.E.P w = .ok (.value u) w := by
    simp [execOp, hv, Instr.field, run_underlying hU, hf, asAgg, part, run_isAggD hU', hd, hu]
  rw [this]
  exact hK _ w (Below.refl _ _) hh
theorem y_fieldVA {l : List Spec} {fs : Array Field} {i m : Nat} {f : Field} (hx : opv L x = some (sagg l)) (hU : Γ.E.P.underlying t = some (.struct fs)) (hf : fs[i]? = some f) (hU' : Γ.E.P.underlying f.type = some d) (hd : aggD d = true) (hZ : (Γ.E.P.info? f.type).map (·.size) = some m) :
    Yields n Γ M L ⟨dst, .field t x i, ty, pos, after, guard⟩ (sagg ((l.drop f.offset).take m)) := fun a w hs K Q hK => by
  obtain ⟨us, hv, hc⟩ := hs.opv hx
  unfold Oper.wp
  have : (execOp a.eval ⟨dst, .field t x i, ty, pos, after, guard⟩).run Γ.E.P w = .ok (.value (.agg ((us.drop f.offset).take m).toArray)) w := by
    simp [execOp, hv, Instr.field, run_underlying hU, hf, asAgg, part, run_isAggD hU', hd, run_sizeOf hZ, List.take_drop, Nat.add_comm]
  rw [this]
  exact hK _ w (Below.refl _ _) ⟨_, rfl, (hc.drop _).take _⟩
theorem y_lenA {N : Nat} {e : TypeId} (hU : Γ.E.P.underlying t = some (.array N e)) : Yields n Γ M L ⟨dst, .call { callee := .builtin .len, args := #[x], argTypes := #[t] }, ty, pos, after, guard⟩ (i64 N) := by
  refine y_val fun a w hs => ?_
  simp [execOp, resolve, invoke, builtin, Builtin.len_, run_underlying hU, goInt]
theorem y_min {k : IntKind} {p q : Int} {at1 : Array TypeId} (hx : opv L x = some (sval (.int k p))) (hy : opv L y = some (sval (.int k q))) : Yields n Γ M L ⟨dst, .call { callee := .builtin .min, args := #[x, y], argTypes := at1 }, ty, pos, after, guard⟩ (sval (.int k (if q < p then q else p))) := by
  refine y_val fun a w hs => ?_
  have e1 : a.eval x = .int k p := hs.opv hx
  have e2 : a.eval y = .int k q := hs.opv hy
  simp [execOp, resolve, invoke, builtin, Builtin.min_, Builtin.min2, e1, e2]

/-! the forms that are printed -/
theorem q_alloc {dn sz by' : Nat} {z : Value} (hT : TI Γ.E.P t z sz by') (hone : (z.cells.toList.all fun u => u.oneCell') = true) (hn : Nat.ble (dn + 1) n = true)
    (h : ∀ b, Run n Γ ((dn, .blk b t (zeros z)) :: M) ((dn, sval (.pointer (some ⟨b, 0, none⟩))) :: L) (wpList Γ.E.P ops Q rest)) :
    Run n Γ M L (wpList Γ.E.P ops Q (⟨some dn, .alloc t, ty, pos, after, none⟩ :: rest)) := by
  obtain ⟨i, hi, hz, _, _⟩ := hT.ex
  exact Run.alloc hi hz (List.all_eq_true.1 hone) hn h
theorem q_box {dn : Nat} {S : Spec} [h1 : OneS S] (hx : opv L x = some S) (hn : Nat.ble (dn + 1) n = true)
    (h : ∀ b, Run n Γ ((dn, .blk b t [S]) :: M) ((dn, sval (.pointer (some ⟨b, 0, none⟩))) :: L) (wpList Γ.E.P ops Q rest)) :
    Run n Γ M L (wpList Γ.E.P ops Q (⟨some dn, .box t x, ty, pos, after, none⟩ :: rest)) := Run.box1 hx h1.one hn h
theorem q_store1 {b f0 : Nat} {e : TypeId} {l : List Spec} {S : Spec} {z : Value} {by' : Nat} [h1 : OneS S] (key : Nat) (hx : opv L x = some (sval (.pointer (some ⟨b, f0, none⟩)))) (hm : lookM M key = some (.blk b e l))
    (hy : opv L y = some S) (hT : TI Γ.E.P t z 1 by') (hfit : f0 < l.length)
    (h : Run n Γ (setM M key (.blk b e (l.set f0 S))) L (wpList Γ.E.P ops Q rest)) : Run n Γ M L (wpList Γ.E.P ops Q (⟨none, .store t x y, ty, pos, after, none⟩ :: rest)) := Run.store1 key hx hm hy h1.one hT.siz hfit h
theorem q_storeR1 {v : Value} {e : TypeId} {sz N f0 : Nat} {l : List Spec} {S : Spec} {z : Value} {by' : Nat} [h1 : OneS S] (key : Nat) (hx : opv L x = some (srow v f0)) (hm : lookM M key = some (.row v e sz N l))
    (hy : opv L y = some S) (hT : TI Γ.E.P t z 1 by') (hfit : f0 < l.length)
    (h : Run n Γ (setM M key (.row v e sz N (spl l f0 [S]))) L (wpList Γ.E.P ops Q rest)) : Run n Γ M L (wpList Γ.E.P ops Q (⟨none, .store t x y, ty, pos, after, none⟩ :: rest)) := Run.storeR1 key hx hm hy h1.one hT.siz hfit h
theorem Part.one' {x : Operand} {S : Spec} [h1 : OneS S] (h : opv L x = some S) : Part L x [S] := .one h h1.one

theorem q_buildS {ps : List (Nat × Operand)} {fs : Array Field} {z : Value} {sz by' : Nat} {l : List Spec} (places : List (Nat × Nat)) (hU : Γ.E.P.underlying t = some (.struct fs)) (hT : TI Γ.E.P t z sz by') (hone : (z.cells.toList.all fun u => u.oneCell') = true)
    (hpl : ∀ w, (fs.mapM fun f => do pure (f.offset, ← sizeOf f.type) : Sem (Array (Nat × Nat))).run Γ.E.P w = .ok places.toArray w)
    (hp : Parts L (fun i => places[i]?) ps (zeros z) l) : Yields n Γ M L ⟨dst, .build t ps.toArray, ty, pos, after, guard⟩ (sagg l) := by
  obtain ⟨i, hi, hz, _, _⟩ := hT.ex
  exact y_buildS places hU hi hz (List.all_eq_true.1 hone) hpl hp
theorem q_buildA {ps : List (Nat × Operand)} {N sz sz' by' by2 : Nat} {e : TypeId} {z z2 : Value} {l : List Spec} (hU : Γ.E.P.underlying t = some (.array N e)) (hT : TI Γ.E.P t z sz' by') (hone : (z.cells.toList.all fun u => u.oneCell') = true) (hE : TI Γ.E.P e z2 sz by2)
    (hp : Parts L (fun i => some (i * sz, sz)) ps (zeros z) l) : Yields n Γ M L ⟨dst, .build t ps.toArray, ty, pos, after, guard⟩ (sagg l) := by
  obtain ⟨i, hi, hz, _, _⟩ := hT.ex
  exact y_buildA hU hi hz (List.all_eq_true.1 hone) hE.siz hp

/-- the zero cells of a literal of N elements -/
def litZ (z : Value) (N : Nat) : List Value := (List.replicate N z.cells.toList).flatten
theorem litZ_ok (z : Value) (N sz : Nat) (hz : z.cells.size = sz) : (Array.range (N * sz)).map (fun k => (if N * sz = 0 then #[] else z.cells)[k % (if N * sz = 0 then #[] else z.cells).size]!) = (litZ z N).toArray := by
  subst hz
  unfold litZ
  rw [← madeCells_rep, Array.toArray_toList]
  by_cases h0 : N * z.cells.size = 0
  · simp only [if_pos h0]
    unfold madeCells
    rw [h0]; simp
  · simp only [if_neg h0]; rfl
theorem litZ_one (z : Value) (N : Nat) (h : (z.cells.toList.all fun u => u.oneCell') = true) : ∀ u ∈ litZ z N, u.oneCell' = true := by
  intro u hu
  unfold litZ at hu
  rw [List.mem_flatten] at hu
  obtain ⟨l, hl, hu⟩ := hu
  rw [List.mem_replicate] at hl
  exact List.all_eq_true.1 h u (hl.2 ▸ hu)

theorem q_buildL {α : Type} {K : α → List Spec} {ps : List (Nat × Operand)} {N sz by' : Nat} {e : TypeId} {z : Value} (l : List α) (hU : Γ.E.P.underlying t = some (.slice e)) (hT : TI Γ.E.P e z sz by')
    (hN : Nat.ble (N * sz) 16777216 = true) (hone : (z.cells.toList.all fun u => u.oneCell') = true) (hzs : z.cells.size = sz)
    (hp : Parts L (fun i => some (i * sz, sz)) ps ((litZ z N).map fun u => sval u) (l.flatMap K)) (hl : l.length = N) : Yields n Γ M L ⟨dst, .buildSlice t N ps.toArray, ty, pos, after, guard⟩ (slc K l) := by
  obtain ⟨i, hi, hz, _, _⟩ := hT.ex
  exact y_buildL hU hi hz hT.siz hN (litZ_ok z N sz hzs) (litZ_one z N hone) hp hl rfl
theorem q_buildR {α : Type} {K : α → List Spec} {ps : List (Nat × Operand)} {N sz by' dn : Nat} {e : TypeId} {z : Value} (l : List α) (hU : Γ.E.P.underlying t = some (.slice e)) (hT : TI Γ.E.P e z sz by')
    (hN : Nat.ble (N * sz) 16777216 = true) (hN' : Nat.ble N 16777216 = true) (hone : (z.cells.toList.all fun u => u.oneCell') = true) (hzs : z.cells.size = sz)
    (hp : Parts L (fun i => some (i * sz, sz)) ps ((litZ z N).map fun u => sval u) (l.flatMap K)) (hK : ∀ x, (K x).length = sz) (hl : l.length = N) (hd : Nat.ble (dn + 1) n = true)
    (h : ∀ v, Run n Γ ((dn, .rows K v e sz l) :: M) ((dn, sval v) :: L) (wpList Γ.E.P ops Q rest)) : Run n Γ M L (wpList Γ.E.P ops Q (⟨some dn, .buildSlice t N ps.toArray, ty, pos, after, none⟩ :: rest)) := by
  obtain ⟨i, hi, hz, _, _⟩ := hT.ex
  refine Run.buildRow hU hi hz hT.siz hN hN' (litZ_ok z N sz hzs) (litZ_one z N hone) hp ?_ hd (fun v => by rw [← hl]; exact h v)
  rw [List.length_flatMap, List.map_congr_left (g := fun _ => sz) (fun x _ => hK x), List.map_const', List.sum_replicate_nat, hl]
theorem q_nilRow {α : Type} {X : Act → World → Prop} (key : Nat) (K : α → List Spec) (e : TypeId) (sz : Nat) (h : Run n Γ ((key, .rows K (.slice none 0 0) e sz []) :: M) L X) : Run n Γ M L X := Run.nilRow key e sz h

theorem q_make {α : Type} {K : α → List Spec} {N sz by' dn : Nat} {e : TypeId} {z : Value} {k1 k2 : IntKind} {p q : Int} (z0 : α) (hx : opv L x = some (sval (.int k1 p))) (hy : opv L y = some (sval (.int k2 q))) (hp : p = (N : Int)) (hq : q = (N : Int))
    (hU : Γ.E.P.underlying t = some (.slice e)) (hT : TI Γ.E.P e z sz by') (hone : (z.cells.toList.all fun u => u.oneCell') = true) (hzs : z.cells.size = sz) (hK : K z0 = zeros z)
    (hb : (by' + 1) * N ≤ 281474976710656) (hd : Nat.ble (dn + 1) n = true)
    (h : ∀ v, Run n Γ ((dn, .rows K v e sz (List.replicate N z0)) :: M) ((dn, sval v) :: L) (wpList Γ.E.P ops Q rest)) : Run n Γ M L (wpList Γ.E.P ops Q (⟨some dn, .makeSlice t x y, ty, pos, after, none⟩ :: rest)) := by
  obtain ⟨i, hi, hz, hsz, hby⟩ := hT.ex
  have e1 : (by' + 1) * N = by' * N + N := by rw [Nat.add_mul, Nat.one_mul]
  exact Run.make z0 hx hy hp hq hU hi hz hsz (List.all_eq_true.1 hone) hzs hK (by rw [hby]; omega) (by unfold maxLen; omega) hd h

theorem q_append {α : Type} {K : α → List Spec} {l l' : List α} {dn sz by' : Nat} {e : TypeId} {z : Value} {v : Value} (key : Nat) (hx : opv L x = some (sval v)) (hm : lookM M key = some (.rows K v e sz l)) (hy : opv L y = some (slc K l'))
    (hU : Γ.E.P.underlying t = some (.slice e)) (hT : TI Γ.E.P e z sz by') (hzs : z.cells.size = sz) (hpos : Nat.ble 1 sz = true) (hK : ∀ x, (K x).length = sz)
    (hmax : (l.length + l'.length) * (by' + 1) ≤ 140737488355328) (hd : Nat.ble (dn + 1) n = true)
    (h : ∀ v', Run n Γ (setM M key (.rows K v' e sz (l ++ l'))) ((dn, sval v') :: L) (wpList Γ.E.P ops Q rest)) :
    Run n Γ M L (wpList Γ.E.P ops Q (⟨some dn, .call { callee := .builtin .append, args := #[x, y], argTypes := #[t, t] }, ty, pos, after, none⟩ :: rest)) := by
  obtain ⟨i, hi, hz, hsz, hby⟩ := hT.ex
  exact Run.append (l := l ++ l') key hx hm hy hU hi hz hsz hby hzs (Nat.le_of_ble_eq_true hpos) hK hmax hd (by rw [List.flatMap_append]) (by rw [List.length_append]) h

theorem q_call {f : FuncId} {As : List Spec} {S : Spec} {ats : Array TypeId} {xs : List Operand} (hf : Enters Γ.E.P f) (hargs : opvs L xs = some As) (C : Fn Γ.E f As S) :
    Yields n Γ M L ⟨dst, .call { callee := .value (.func f), args := xs.toArray, argTypes := ats }, ty, pos, after, guard⟩ S := y_call hf (opvs_mapM hargs) C
theorem q_callV {f : FuncId} {As Cs : List Spec} {S : Spec} {ats : Array TypeId} {c : Nat} {xs : List Operand} (hf : Enters Γ.E.P f) (hc : opv L (.tmp c) = some (sfun f Cs)) (hargs : opvs L xs = some As) (C : Fn Γ.E f (As ++ Cs) S) :
    Yields n Γ M L ⟨dst, .call { callee := .value (.tmp c), args := xs.toArray, argTypes := ats }, ty, pos, after, guard⟩ S := y_callV hf hc (opvs_mapM hargs) C
theorem q_makeFunc {f : FuncId} {xs : List Operand} {Cs : List Spec} (h : opvs L xs = some Cs) : Yields n Γ M L ⟨dst, .makeFunc (.func f) #[] xs.toArray, ty, pos, after, guard⟩ (sfun f Cs) := y_makeFunc (opvs_mapM h)

theorem q_index {α : Type} {K : α → List Spec} {l : List α} {e : TypeId} {sz by' : Nat} {z0 : Value} {k : IntKind} {i : Int} (j : Nat) (z : α)
    (hx : opv L x = some (slc K l)) (hi : opv L y = some (sval (.int k i))) (hU : Γ.E.P.underlying t = some (.slice e)) (hT : TI Γ.E.P e z0 sz by') (hK : ∀ x, (K x).length = sz)
    (hij : i = (j : Int)) (hz : l[j]? = some z) : Yields n Γ M L ⟨dst, .indexAddr t x y, ty, pos, after, guard⟩ (spts (K z)) := y_index j z hx hi hU hT.siz hK hij hz

/-- A variable of the program's, an array: an element's address. -/
theorem q_indexG {α : Type} {K : α → List Spec} {l : List α} {g : Nat} {e : TypeId} {N sz by' : Nat} {z0 : Value} {k : IntKind} {i : Int} (j : Nat) (z : α) (hg : (g, l.flatMap K) ∈ Γ.E.GT) (hi : opv L y = some (sval (.int k i)))
    (hU : Γ.E.P.underlying t = some (.array N e)) (hT : TI Γ.E.P e z0 sz by') (hK : ∀ x, (K x).length = sz) (hN : l.length = N) (hij : i = (j : Int)) (hz : l[j]? = some z) :
    Yields n Γ M L ⟨dst, .indexAddr t (.global g) y, ty, pos, after, guard⟩ (spts (K z)) := fun a w hs Kc Q hKc => by
  obtain ⟨us, hc, hat⟩ := hs.glob _ hg
  have hc := cells_free (F' := FM Γ.F0 M) (w' := w) (Γ.E.free _ hg) hc
  have hy : a.eval y = .int k i := hs.opv hi
  have hj := (List.getElem?_eq_some_iff.1 hz).1
  have hsplit : l = l.take j ++ z :: l.drop (j + 1) := by
    rw [List.getElem?_eq_getElem hj] at hz
    cases hz
    rw [List.getElem_cons_drop, List.take_append_drop]
  simp only at hc hat
  rw [hsplit, List.flatMap_append, List.flatMap_cons] at hc
  obtain ⟨u1, u2, rfl, hc1, hc2⟩ := hc.split
  obtain ⟨u3, u4, rfl, hc3, hc4⟩ := hc2.split
  have hl1 : u1.length = j * sz := by
    rw [hc1.length, List.length_flatMap, List.map_congr_left (g := fun _ => sz) (fun x _ => hK x), List.map_const', List.sum_replicate_nat]
    simp only [List.length_take, Nat.min_eq_left (Nat.le_of_lt hj)]
  have : (execOp a.eval ⟨dst, .indexAddr t (.global g) y, ty, pos, after, guard⟩).run Γ.E.P w = .ok (.value (.pointer (some ⟨g, j * sz, none⟩))) w := by
    subst hij
    have hv : a.eval (.global g) = .pointer (some ⟨g, 0, none⟩) := rfl
    simp [execOp, hv, hy, Instr.indexAt, Instr.sureAddr, asIntOf, run_underlying hU, run_sizeOf hT.siz, Addr.add_lit]; intro h; omega
  unfold Oper.wp
  rw [this]
  refine hKc _ w (Below.refl _ _) ⟨g, j * sz, u3, rfl, hc3, fun _ => hs.fresh' g (.inl (Γ.E.lt _ hg)), fun i u hu => hat (j * sz + i) u ?_⟩
  rw [← hl1, List.getElem?_append_right (by omega), show u1.length + i - u1.length = i by omega, List.getElem?_append_left (List.getElem?_eq_some_iff.1 hu).1]
  exact hu

/-- A value of one cell, whatever it is. -/
def sone : Spec := ⟨fun _ _ v => v.oneCell' = true, fun h _ => h⟩
theorem free_one : Free sone := fun _ _ _ _ _ h => h
instance : OneS sone := ⟨fun _ _ _ h => h⟩

/-! the code's head -/
theorem Fn.of {E : Env} {f : FuncId} {fn : Func} {c : Code} {As : List Spec} {S : Spec} {n : Nat} (hf : E.P.funcs[f]? = some fn) (hb : fn.body = some c) (hn : fn.ntmps = n) (hA : Nat.ble As.length n = true)
    (h : ∀ (w0 : World) (F0 : Foot), Run n ⟨E, w0, [], F0, []⟩ [] (slots0 0 As) (c.wp E.P (bodyPost E.P fn (Ctx.post ⟨E, w0, [], F0, []⟩ S)))) : Fn E f As S :=
  Fn.of_run hf hb hn hA fun Γ hE hC hD => by
    obtain ⟨E', w0, C, F0, ds⟩ := Γ
    cases hE
    cases hC
    cases hD
    exact h w0 F0

theorem q_draw {l : List Oper} {id : Nat} (h : Draw n Γ M L l Q id 0 []) (hP : P = Γ.E.P) : Run n Γ M L ((Code.region id l.toArray true).wp P Q) := by subst hP; exact Run.draw h
theorem q_draw2 {l : List Oper} {id : Nat} (A : New) (h : Draw2 n Γ M A L l Q id 0 []) (hP : P = Γ.E.P) : Run n Γ M L ((Code.region id l.toArray true).wp P Q) := by subst hP; exact Run.draw2 A h
theorem q_tail2 {l : List Oper} {id m : Nat} {B : Said} {A : New} {z : Value} {sz by' : Nat} {ty : TypeId} {pos : String} {after : Array Edge} (hal : l[A.ia]? = some ⟨some A.da, .alloc A.t, ty, pos, after, none⟩) (hiam : Nat.blt A.ia m = true)
    (hT : TI Γ.E.P A.t z sz by') (hone : (z.cells.toList.all fun u => u.oneCell') = true) (hA : A.z = zeros z) (hnA : Nat.ble (A.da + 1) n = true)
    (hok : orderOk l m = true) (hsl : slotsOk l m L = true) (hn : (B.all fun p => Nat.ble (p.2.1 + 1) n) = true)
    (h : ∀ b, Run n Γ (A.with M b) ((A.da, New.S b) :: (B.map (·.2) ++ L)) (wpList Γ.E.P l.toArray Q (l.drop m))) : Draw2 n Γ M A L l Q id m B := by
  obtain ⟨i, hi, hz, _, _⟩ := hT.ex
  exact Draw2.tail hal hiam hi hz (List.all_eq_true.1 hone) hA hnA hok hsl hn h
end
end Go.Vx
