/- The rules of the call's own blocks and rows, of values that are built, and of calls, for the assertions of Va. Conditions: each rule states what it asks. -/
import Derived.Test.YtofnjbcbkfbomaaDoorVc
import Derived.Laws.AppendOwnNone
namespace Go.Vx
open Go Go.RowKit

/-- A value of one cell. -/
def One (S : Spec) : Prop := ∀ F w v, S.holds F w v → v.oneCell' = true
theorem one_int (k : IntKind) (i : Int) : One (sval (.int k i)) := by intro F w v h; have h : v = _ := h; subst h; rfl
theorem one_bool (b : Bool) : One (sval (.bool b)) := by intro F w v h; have h : v = _ := h; subst h; rfl
theorem one_ptr (a : Option Addr) : One (sval (.pointer a)) := by intro F w v h; have h : v = _ := h; subst h; rfl
theorem one_slice (a : Option Addr) (l c : Nat) : One (sval (.slice a l c)) := by intro F w v h; have h : v = _ := h; subst h; rfl
theorem one_func (f : Go.Fn) (a b : Array Value) : One (sval (.func f a b)) := by intro F w v h; have h : v = _ := h; subst h; rfl
theorem one_string (s : ByteArray) : One (sval (.string s)) := by intro F w v h; have h : v = _ := h; subst h; rfl
theorem one_slc {α : Type} (K : α → List Spec) (l : List α) : One (slc K l) := by rintro F w v ⟨ao, c, us, rfl, _⟩; rfl
theorem one_pts (l : List Spec) : One (spts l) := by rintro F w v ⟨b, o, us, rfl, _⟩; rfl
theorem one_val {v : Value} (h : v.oneCell' = true) : One (sval v) := by intro F w u hu; have hu : u = v := hu; subst hu; exact h

theorem oneCell_cells {v : Value} (h : v.oneCell' = true) : v.cells = #[v] := by cases v <;> first | rfl | cases h

section
variable {P : Program}
theorem run_storeVarB {t : TypeId} {w : World} {b o : Nat} {e : TypeId} {us vs : List Value} {v : Value} (hb : w.heap[b]? = some (.cells us.toArray e (0, 0))) (hv : v.cells = vs.toArray) (hZ : (P.info? t).map (·.size) = some vs.length)
    (h1 : ∀ v ∈ vs, v.oneCell' = true) (hfit : o + vs.length ≤ us.length) : (storeVar t ⟨b, o, none⟩ v).run P w = .ok () (w.setRow b (spl us o vs).toArray) := by
  have := run_storeCells_at P b o e vs 0 us.toArray w hb (by simpa using hfit) h1
  simp only [Nat.add_zero] at this
  simp [storeVar, run_sizeOf hZ, hv, this, spl]
end

section
variable {n : Nat} {Γ : Ctx} {M : Owns} {L : List (Nat × Spec)} {dst : Option Nat} {ty : TypeId} {pos : String} {after : Array Edge} {guard : Option (Nat × Bool)}
variable {t : TypeId} {d : TypeDesc} {x y : Operand} {ops : Array Oper} {Q : Exit → Act → World → Prop} {rest : List Oper} {o : Oper}

/-! pointers into own blocks: values that are known -/
theorem y_fieldP {b f0 i sz : Nat} {fs : Array Field} {f : Field} (hx : opv L x = some (sval (.pointer (some ⟨b, f0, none⟩)))) (hU : Γ.E.P.underlying t = some (.struct fs)) (hf : fs[i]? = some f) (hZ : (Γ.E.P.info? f.type).map (·.size) = some (sz + 1)) :
    Yields n Γ M L ⟨dst, .fieldAddr t x i, ty, pos, after, guard⟩ (sval (.pointer (some ⟨b, f0 + f.offset, none⟩))) := by
  refine y_val fun a w hs => ?_
  have hv : a.eval x = _ := hs.opv hx
  simp [execOp, hv, Instr.fieldAt, run_underlying hU, hf, Instr.sureAddr, fieldPlace, run_sizeOf hZ, Addr.add_lit]

theorem y_indexP {b f0 sz N : Nat} {e : TypeId} {k : IntKind} {i : Int} (j : Nat) (hx : opv L x = some (sval (.pointer (some ⟨b, f0, none⟩)))) (hi : opv L y = some (sval (.int k i))) (hU : Γ.E.P.underlying t = some (.array N e)) (hZ : (Γ.E.P.info? e).map (·.size) = some sz)
    (hij : i = (j : Int)) (hj : j < N) : Yields n Γ M L ⟨dst, .indexAddr t x y, ty, pos, after, guard⟩ (sval (.pointer (some ⟨b, f0 + j * sz, none⟩))) := by
  refine y_val fun a w hs => ?_
  have hv : a.eval x = _ := hs.opv hx
  have hy : a.eval y = .int k i := hs.opv hi
  subst hij
  simp [execOp, hv, hy, Instr.indexAt, Instr.sureAddr, asIntOf, run_underlying hU, run_sizeOf hZ, Addr.add_lit]; intro h; omega

/-- A read of one cell of an own block. -/
theorem y_loadP {b f0 : Nat} {e : TypeId} {S : Spec} {l : List Spec} (key : Nat) (hx : opv L x = some (sval (.pointer (some ⟨b, f0, none⟩)))) (hm : lookM M key = some (.blk b e l)) (hS : l[f0]? = some S) (hU : Γ.E.P.underlying t = some d) (hd : aggD d = false) :
    Yields n Γ M L ⟨dst, .load t x, ty, pos, after, guard⟩ S := fun a w hs K Q hK => by
  have hv : a.eval x = _ := hs.opv hx
  obtain ⟨M1, M2, k0, rfl, -, -⟩ := lookM_split hm
  obtain ⟨⟨us, hb, hc⟩, _⟩ := hs.own (k0, Ent.blk b e l) (by simp)
  obtain ⟨u, hu, hh, _⟩ := hc.get hS
  have h0 : w.cell? ⟨b, f0, none⟩ = some u := by simp [World.cell?, hb, hu]
  have : (execOp a.eval ⟨dst, .load t x, ty, pos, after, guard⟩).run Γ.E.P w = .ok (.value u) w := by
    simp only [execOp, hv, Instr.loadAt, Instr.sureAddr, Sem.run_bind, Sem.run_pure, Result.andThen_ok, run_loadVar1 hU hd h0]
  unfold Oper.wp
  rw [this]
  exact hK _ w (Below.refl _ _) hh

/-- A read of a struct or an array out of an own block. -/
theorem y_loadPA {b f0 m : Nat} {e : TypeId} {l l' : List Spec} (key : Nat) (hx : opv L x = some (sval (.pointer (some ⟨b, f0, none⟩)))) (hm : lookM M key = some (.blk b e l)) (hl : (l.drop f0).take m = l') (hfit : Nat.ble (f0 + m) l.length = true)
    (hU : Γ.E.P.underlying t = some d) (hd : aggD d = true) (hZ : (Γ.E.P.info? t).map (·.size) = some m) :
    Yields n Γ M L ⟨dst, .load t x, ty, pos, after, guard⟩ (sagg l') := fun a w hs K Q hK => by
  subst hl
  have hfit := Nat.le_of_ble_eq_true hfit
  have hv : a.eval x = _ := hs.opv hx
  obtain ⟨M1, M2, k0, rfl, -, -⟩ := lookM_split hm
  obtain ⟨⟨us, hb, hc⟩, _⟩ := hs.own (k0, Ent.blk b e l) (by simp)
  have hlen := hc.length
  have h0 := run_loadVarA hU hd hZ (w := w) (b := b) (o := f0) (us := (us.drop f0).take m) (by simp; omega) (fun j u hj => by
    rw [List.getElem?_take] at hj
    split at hj
    · rw [List.getElem?_drop] at hj; simp [World.cell?, hb, hj]
    · cases hj)
  have : (execOp a.eval ⟨dst, .load t x, ty, pos, after, guard⟩).run Γ.E.P w = .ok (.value (.agg ((us.drop f0).take m).toArray)) w := by
    simp only [execOp, hv, Instr.loadAt, Instr.sureAddr, Sem.run_bind, Sem.run_pure, Result.andThen_ok, h0]
  unfold Oper.wp
  rw [this]
  exact hK _ w (Below.refl _ _) ⟨_, rfl, (hc.drop f0).take m⟩
theorem y_loadPW {b : Nat} {e : TypeId} {l : List Spec} (key : Nat) (hx : opv L x = some (sval (.pointer (some ⟨b, 0, none⟩)))) (hm : lookM M key = some (.blk b e l))
    (hU : Γ.E.P.underlying t = some d) (hd : aggD d = true) (hZ : (Γ.E.P.info? t).map (·.size) = some l.length) :
    Yields n Γ M L ⟨dst, .load t x, ty, pos, after, guard⟩ (sagg l) :=
  y_loadPA key hx hm (by simp) (by simp) hU hd hZ

theorem guard_wanted {a : Act} (hg : o.guard = none) : Region.wanted o (yielded ops a.tmps) = true := by simp [Region.wanted, hg]

/-- A new variable in an own block. -/
theorem Run.alloc {dn : Nat} {z : Value} {i : TypeInfo} (hi : Γ.E.P.info? t = some i) (hz : i.zero = some z) (hone : ∀ u ∈ z.cells.toList, u.oneCell' = true) (hn : Nat.ble (dn + 1) n = true)
    (h : ∀ b, Run n Γ ((dn, .blk b t (z.cells.toList.map fun u => sval u)) :: M) ((dn, sval (.pointer (some ⟨b, 0, none⟩))) :: L) (wpList Γ.E.P ops Q rest)) :
    Run n Γ M L (wpList Γ.E.P ops Q (⟨some dn, .alloc t, ty, pos, after, none⟩ :: rest)) := fun a w hs =>
  wpList_of_wp (guard_wanted rfl) (by
    have : (execOp a.eval ⟨some dn, .alloc t, ty, pos, after, none⟩).run Γ.E.P w = .ok (.value (.pointer (some ⟨w.heap.size, 0, none⟩))) (w.alloc (.cells z.cells t)) := by
      simp [execOp, Instr.alloc, zeroValue, typeInfo, hi, hz, newVar, newRow]
    unfold Oper.wp
    rw [this]
    have g : Grow w (w.alloc (.cells z.cells t)) := (Below.refl _ w).alloc (Nat.le_refl _) _
    refine h w.heap.size _ _ ((hs.fresh_own g (t := dn) (e := .blk w.heap.size t _) (fun k hk => ?_) (fun F hF => ⟨z.cells.toList, ?_, ?_⟩)).put (Nat.le_of_ble_eq_true hn) rfl)
    · simp [Ent.block] at hk; subst hk; simp
    · rw [heap_alloc_new]
    · clear h this g
      generalize z.cells.toList = us at hone
      induction us with
      | nil => trivial
      | cons u us ih => exact ⟨⟨rfl, hone u (by simp)⟩, ih fun v hv => hone v (by simp [hv])⟩)

/-- A variable that begins with a struct or an array. -/
theorem Run.boxA {dn : Nat} {l : List Spec} (hx : opv L x = some (sagg l)) (hn : Nat.ble (dn + 1) n = true)
    (h : ∀ b, Run n Γ ((dn, .blk b t l) :: M) ((dn, sval (.pointer (some ⟨b, 0, none⟩))) :: L) (wpList Γ.E.P ops Q rest)) :
    Run n Γ M L (wpList Γ.E.P ops Q (⟨some dn, .box t x, ty, pos, after, none⟩ :: rest)) := fun a w hs =>
  wpList_of_wp (guard_wanted rfl) (by
    obtain ⟨us, hv, hc⟩ := hs.opv hx
    have : (execOp a.eval ⟨some dn, .box t x, ty, pos, after, none⟩).run Γ.E.P w = .ok (.value (.pointer (some ⟨w.heap.size, 0, none⟩))) (w.alloc (.cells us.toArray t)) := by
      simp [execOp, hv, Instr.box, newVar, newRow, Value.cells]
    unfold Oper.wp
    rw [this]
    have g : Grow w (w.alloc (.cells us.toArray t)) := (Below.refl _ w).alloc (Nat.le_refl _) _
    refine h w.heap.size _ _ ((hs.fresh_own g (t := dn) (e := .blk w.heap.size t l) (fun k hk => ?_) (fun F hF => ⟨us, ?_, hc.keep hF⟩)).put (Nat.le_of_ble_eq_true hn) rfl)
    · simp [Ent.block] at hk; subst hk; simp
    · rw [heap_alloc_new])

/-- A variable that begins with one cell. -/
theorem Run.box1 {dn : Nat} {S : Spec} (hx : opv L x = some S) (h1 : One S) (hn : Nat.ble (dn + 1) n = true)
    (h : ∀ b, Run n Γ ((dn, .blk b t [S]) :: M) ((dn, sval (.pointer (some ⟨b, 0, none⟩))) :: L) (wpList Γ.E.P ops Q rest)) :
    Run n Γ M L (wpList Γ.E.P ops Q (⟨some dn, .box t x, ty, pos, after, none⟩ :: rest)) := fun a w hs =>
  wpList_of_wp (guard_wanted rfl) (by
    have hv := hs.opv hx
    generalize hu : a.eval x = u at hv
    have ho := h1 _ _ _ hv
    have : (execOp a.eval ⟨some dn, .box t x, ty, pos, after, none⟩).run Γ.E.P w = .ok (.value (.pointer (some ⟨w.heap.size, 0, none⟩))) (w.alloc (.cells [u].toArray t)) := by
      simp [execOp, hu, Instr.box, newVar, newRow, oneCell_cells ho]
    unfold Oper.wp
    rw [this]
    have g : Grow w (w.alloc (.cells [u].toArray t)) := (Below.refl _ w).alloc (Nat.le_refl _) _
    refine h w.heap.size _ _ ((hs.fresh_own g (t := dn) (e := .blk w.heap.size t [S]) (fun k hk => ?_) (fun F hF => ⟨[u], ?_, ⟨⟨S.keep hv hF, ho⟩, trivial⟩⟩)).put (Nat.le_of_ble_eq_true hn) rfl)
    · simp [Ent.block] at hk; subst hk; simp
    · rw [heap_alloc_new])

/-- The general store into an own block. -/
theorem Run.storeG {b f0 : Nat} {e : TypeId} {l m : List Spec} (key : Nat) (hg : o.guard = none) (hd : o.dst = none) (ho : o.op = .store t x y) (hx : opv L x = some (sval (.pointer (some ⟨b, f0, none⟩)))) (hm : lookM M key = some (.blk b e l))
    (hy : ∀ a w, St n Γ M L a w → ∃ vs, (a.eval y).cells = List.toArray vs ∧ Cells (FM Γ.F0 M) w m vs) (hZ : (Γ.E.P.info? t).map (·.size) = some m.length) (hfit : f0 + m.length ≤ l.length)
    (h : Run n Γ (setM M key (.blk b e (spl l f0 m))) L (wpList Γ.E.P ops Q rest)) : Run n Γ M L (wpList Γ.E.P ops Q (o :: rest)) := fun a w hs =>
  wpList_of_wp (guard_wanted hg) (by
    have hv : a.eval x = _ := hs.opv hx
    obtain ⟨vs, hvs, hcv⟩ := hy a w hs
    obtain ⟨⟨us, hb, hc⟩, _⟩ : (Ent.blk b e l).ok (FM Γ.F0 M) w ∧ True := by
      obtain ⟨M1, M2, k0, rfl, -, -⟩ := lookM_split hm
      exact ⟨(hs.own (k0, Ent.blk b e l) (by simp)).1, trivial⟩
    have hlu := hc.length
    have hlv := hcv.length
    have hst := run_storeVarB (P := Γ.E.P) (t := t) hb hvs (by rw [hlv]; exact hZ) hcv.one (by omega) (o := f0)
    have : (execOp a.eval o).run Γ.E.P w = .ok .skip (w.setRow b (Go.Vx.spl us f0 vs).toArray) := by
      simp only [execOp, ho, hv, Instr.storeAt, Instr.sureAddr, Sem.run_bind, Sem.run_pure, Result.andThen_ok, hst]
    unfold Oper.wp
    rw [this, Oper.upon_skip, hd]
    have hkp : Kp (FM Γ.F0 M) w (FM Γ.F0 M) (w.setRow b (Go.Vx.spl us f0 vs).toArray) := fun k hk _ => ⟨hk, setRow_other _ _ _ _ (by
      rintro rfl
      obtain ⟨M1, M2, k0, rfl, -, -⟩ := lookM_split hm
      exact hk.2 (k0, Ent.blk _ e l) (by simp) rfl)⟩
    exact h _ _ (hs.set hm rfl rfl (by simp) (by simp) (by simp) (by simp) (fun k hk => setRow_other _ _ _ _ hk) ⟨_, setRow_heap _ _ _ _ _ _ hb, (hc.spl hcv f0).keep hkp⟩))

/-- A store of one cell. -/
theorem Run.store1 {b f0 : Nat} {e : TypeId} {l : List Spec} {S : Spec} (key : Nat) (hx : opv L x = some (sval (.pointer (some ⟨b, f0, none⟩)))) (hm : lookM M key = some (.blk b e l))
    (hy : opv L y = some S) (h1 : One S) (hZ : (Γ.E.P.info? t).map (·.size) = some 1) (hfit : f0 < l.length)
    (h : Run n Γ (setM M key (.blk b e (l.set f0 S))) L (wpList Γ.E.P ops Q rest)) : Run n Γ M L (wpList Γ.E.P ops Q (⟨none, .store t x y, ty, pos, after, none⟩ :: rest)) := by
  have e : spl l f0 [S] = l.set f0 S := by
    unfold spl
    rw [List.set_eq_take_append_cons_drop, if_pos hfit]; simp
  refine Run.storeG (m := [S]) key rfl rfl rfl hx hm (fun a w hs => ?_) hZ hfit (e ▸ h)
  have hv := hs.opv hy
  exact ⟨[a.eval y], oneCell_cells (h1 _ _ _ hv), ⟨hv, h1 _ _ _ hv⟩, trivial⟩
/-- A store of a struct or an array over the whole variable. -/
theorem Run.storeW {b : Nat} {e : TypeId} {l m : List Spec} (key : Nat) (hx : opv L x = some (sval (.pointer (some ⟨b, 0, none⟩)))) (hm : lookM M key = some (.blk b e l))
    (hy : opv L y = some (sagg m)) (hZ : (Γ.E.P.info? t).map (·.size) = some m.length) (hfit : m.length = l.length)
    (h : Run n Γ (setM M key (.blk b e m)) L (wpList Γ.E.P ops Q rest)) : Run n Γ M L (wpList Γ.E.P ops Q (⟨none, .store t x y, ty, pos, after, none⟩ :: rest)) := by
  refine Run.storeG (m := m) key rfl rfl rfl hx hm (fun a w hs => ?_) hZ (by omega) (by rw [spl_all hfit]; exact h)
  obtain ⟨us, hv, hc⟩ := hs.opv hy
  exact ⟨us, by rw [hv]; rfl, hc⟩
/-- A store of a struct or an array into a part. -/
theorem Run.storeA {b f0 : Nat} {e : TypeId} {l m : List Spec} (key : Nat) (hx : opv L x = some (sval (.pointer (some ⟨b, f0, none⟩)))) (hm : lookM M key = some (.blk b e l))
    (hy : opv L y = some (sagg m)) (hZ : (Γ.E.P.info? t).map (·.size) = some m.length) (hfit : f0 + m.length ≤ l.length)
    (h : Run n Γ (setM M key (.blk b e (spl l f0 m))) L (wpList Γ.E.P ops Q rest)) : Run n Γ M L (wpList Γ.E.P ops Q (⟨none, .store t x y, ty, pos, after, none⟩ :: rest)) := by
  refine Run.storeG (m := m) key rfl rfl rfl hx hm (fun a w hs => ?_) hZ hfit h
  obtain ⟨us, hv, hc⟩ := hs.opv hy
  exact ⟨us, by rw [hv]; rfl, hc⟩

/-- What is owned may be said otherwise. -/
theorem Run.own {t : Nat} {e e' : Ent} {X : Act → World → Prop} (hm : lookM M t = some e) (he : e = e') (h : Run n Γ (setM M t e') L X) : Run n Γ M L X := by
  subst he
  have : setM M t e = M := by
    obtain ⟨M1, M2, k0, rfl, hset, -⟩ := lookM_split hm
    have : ∀ (M : Owns), lookM M t = some e → setM M t e = M := by
      intro M
      induction M with
      | nil => intro h; cases h
      | cons x M ih =>
        obtain ⟨k, f⟩ := x
        intro h
        unfold lookM at h
        unfold setM
        cases hb : Nat.beq k t with
        | true => rw [hb] at h; simp only [Option.some.injEq] at h; subst h; rfl
        | false => rw [hb] at h; simp only; rw [ih h]
    exact this _ hm
  rwa [this] at h

/-! values that are built -/
/-- The parts of a literal: the place, the operand, the cells. -/
inductive Part (L : List (Nat × Spec)) : Operand → List Spec → Prop
  | one {x : Operand} {S : Spec} (h : opv L x = some S) (h1 : One S) : Part L x [S]
  | agg {x : Operand} {l : List Spec} (h : opv L x = some (sagg l)) : Part L x l

theorem Part.cells {a : Act} {w : World} {x : Operand} {l : List Spec} (h : Part L x l) (hs : St n Γ M L a w) : ∃ us, (a.eval x).cells = List.toArray us ∧ Cells (FM Γ.F0 M) w l us := by
  cases h with
  | one h h1 => have := hs.opv h; exact ⟨[a.eval x], oneCell_cells (h1 _ _ _ this), ⟨this, h1 _ _ _ this⟩, trivial⟩
  | agg h => obtain ⟨us, hv, hc⟩ := hs.opv h; exact ⟨us, by rw [hv]; rfl, hc⟩

/-- All parts of a literal: where each goes, and what it is. -/
inductive Parts (L : List (Nat × Spec)) (place : Nat → Option (Nat × Nat)) : List (Nat × Operand) → List Spec → List Spec → Prop
  | nil {l : List Spec} : Parts L place [] l l
  | cons {i off : Nat} {x : Operand} {m l l' : List Spec} {ps : List (Nat × Operand)} (hp : place i = some (off, m.length)) (h : Part L x m) (hf : Nat.ble (off + m.length) l.length = true) (r : Parts L place ps (spl l off m) l') : Parts L place ((i, x) :: ps) l l'

theorem foldl_zipIdx_set (vs : List Value) (off : Nat) : ∀ (k : Nat) (us : List Value), off + k + vs.length ≤ us.length →
    (vs.zipIdx k).foldl (fun (cs : Array Value) (p : Value × Nat) => cs.setIfInBounds (off + p.2) p.1) us.toArray = (spl us (off + k) vs).toArray := by
  induction vs with
  | nil => intro k us h; simp [spl]
  | cons v vs ih =>
    intro k us h
    simp only [List.length_cons] at h
    simp only [List.zipIdx_cons, List.foldl_cons]
    have e : (us.toArray.setIfInBounds (off + k) v) = (us.set (off + k) v).toArray := by simp
    rw [e, ih (k + 1) (us.set (off + k) v) (by simp; omega)]
    congr 1
    unfold spl
    rw [List.set_eq_take_append_cons_drop, if_pos (by omega)]
    have hl : (us.take (off + k)).length = off + k := by simp; omega
    have e1 : off + (k + 1) = (us.take (off + k)).length + 1 := by omega
    rw [e1, List.take_length_add_append, List.length_cons]
    rw [show (us.take (off + k)).length + 1 + vs.length = (us.take (off + k)).length + (1 + vs.length) by omega, List.drop_length_add_append]
    simp only [List.take_succ_cons, List.take_zero, List.drop_succ_cons, Nat.add_comm 1 vs.length, List.drop_drop]
    simp
    congr 1
    omega

theorem Parts.fill {place : Nat → Option (Nat × Nat)} {a : Act} {w : World} (hs : St n Γ M L a w) : ∀ {ps : List (Nat × Operand)} {l l' : List Spec}, Parts L place ps l l' → ∀ {us : List Value}, Cells (FM Γ.F0 M) w l us →
    ∃ us', Instr.fill place us.toArray (ps.map fun (i, x) => (i, a.eval x)) = some (List.toArray us') ∧ Cells (FM Γ.F0 M) w l' us' := by
  intro ps l l' h
  induction h with
  | nil => intro us hc; exact ⟨us, rfl, hc⟩
  | @cons i off x m l l' ps hp h hf r ih =>
    intro us hc
    obtain ⟨vs, hv, hcv⟩ := h.cells hs
    have hf := Nat.le_of_ble_eq_true hf
    have hlu := hc.length
    have hlv := hcv.length
    obtain ⟨us', h1, h2⟩ := ih (hc.spl hcv off)
    refine ⟨us', ?_, h2⟩
    simp only [List.map_cons, Instr.fill, hp, hv]
    rw [if_neg (by simp; omega)]
    have := foldl_zipIdx_set vs off 0 us (by omega)
    simp only [Nat.add_zero] at this
    rw [← h1, ← this]
    congr 1
    simp only [Array.zipIdx_toArray, List.foldl_toArray']

/-- zero cells -/
abbrev zeros (z : Value) : List Spec := z.cells.toList.map fun u => sval u
theorem cells_zeros {F : Foot} {w : World} {us : List Value} (h : ∀ u ∈ us, u.oneCell' = true) : Cells F w (us.map fun u => sval u) us := by
  induction us with
  | nil => trivial
  | cons u us ih => exact ⟨⟨rfl, h u (by simp)⟩, ih fun v hv => h v (by simp [hv])⟩

theorem run_zeroValue {P : Program} {t : TypeId} {i : TypeInfo} {z : Value} (hi : P.info? t = some i) (hz : i.zero = some z) (w : World) : (zeroValue t).run P w = .ok z w := by simp [zeroValue, typeInfo, hi, hz]

/-- A struct by its fields: 'sz i' are the places and sizes. -/
theorem y_buildS {ps : List (Nat × Operand)} {fs : Array Field} {z : Value} {i : TypeInfo} {l : List Spec} (places : List (Nat × Nat)) (hU : Γ.E.P.underlying t = some (.struct fs)) (hi : Γ.E.P.info? t = some i) (hz : i.zero = some z) (hone : ∀ u ∈ z.cells.toList, u.oneCell' = true)
    (hpl : ∀ w, (fs.mapM fun f => do pure (f.offset, ← sizeOf f.type) : Sem (Array (Nat × Nat))).run Γ.E.P w = .ok places.toArray w)
    (hp : Parts L (fun i : Nat => places[i]?) ps (zeros z) l) : Yields n Γ M L ⟨dst, .build t ps.toArray, ty, pos, after, guard⟩ (sagg l) := fun a w hs K Q hK => by
  obtain ⟨us, h1, h2⟩ := hp.fill hs (cells_zeros hone)
  have : (execOp a.eval ⟨dst, .build t ps.toArray, ty, pos, after, guard⟩).run Γ.E.P w = .ok (.value (.agg us.toArray)) w := by
    have e : (fun i : Nat => places.toArray[i]?) = fun i : Nat => places[i]? := by funext i; simp
    simp only [execOp, Instr.build, Sem.run_bind, Sem.run_pure, Result.andThen_ok, run_zeroValue hi hz, run_underlying hU]
    simp only [hpl, Result.andThen_ok, e]
    simp only [List.map_toArray, List.toList_toArray] at h1 ⊢
    simp only [Array.toArray_toList] at h1
    rw [h1]
    rfl
  unfold Oper.wp
  rw [this]
  exact hK _ w (Below.refl _ _) ⟨us, rfl, h2⟩

/-- An array by its elements. -/
theorem y_buildA {ps : List (Nat × Operand)} {N sz : Nat} {e : TypeId} {z : Value} {i : TypeInfo} {l : List Spec} (hU : Γ.E.P.underlying t = some (.array N e)) (hi : Γ.E.P.info? t = some i) (hz : i.zero = some z) (hone : ∀ u ∈ z.cells.toList, u.oneCell' = true) (hZ : (Γ.E.P.info? e).map (·.size) = some sz)
    (hp : Parts L (fun i => some (i * sz, sz)) ps (zeros z) l) : Yields n Γ M L ⟨dst, .build t ps.toArray, ty, pos, after, guard⟩ (sagg l) := fun a w hs K Q hK => by
  obtain ⟨us, h1, h2⟩ := hp.fill hs (cells_zeros hone)
  have : (execOp a.eval ⟨dst, .build t ps.toArray, ty, pos, after, guard⟩).run Γ.E.P w = .ok (.value (.agg us.toArray)) w := by
    simp only [execOp, Instr.build, Sem.run_bind, Sem.run_pure, Result.andThen_ok, run_zeroValue hi hz, run_underlying hU, run_sizeOf hZ]
    simp only [List.map_toArray, List.toList_toArray] at h1 ⊢
    simp only [Array.toArray_toList] at h1
    rw [h1]
    rfl
  unfold Oper.wp
  rw [this]
  exact hK _ w (Below.refl _ _) ⟨us, rfl, h2⟩
end
end Go.Vx
