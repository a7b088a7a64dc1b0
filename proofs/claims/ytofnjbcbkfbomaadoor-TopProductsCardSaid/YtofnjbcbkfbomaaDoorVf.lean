/- The rules of what is given up, of slices of slices, of function values, of calls and of a call's end, for the assertions of Va. Conditions: each rule states what it asks. -/
import Derived.Test.YtofnjbcbkfbomaaDoorVe
namespace Go.Vx
open Go Go.RowKit

/-- A function value: which function, and what it has captured. -/
def sfun (f : FuncId) (Cs : List Spec) : Spec where
  holds F w v := ∃ us, v = .func (.func f) #[] us.toArray ∧ Holds F w Cs us
  keep := by
    rintro F w F' w' v ⟨us, h, c⟩ k
    refine ⟨us, h, ?_⟩
    clear h
    induction Cs generalizing us with
    | nil => cases us with
      | nil => trivial
      | cons u us => exact c.elim
    | cons S l ih => cases us with
      | nil => exact c.elim
      | cons u us => exact ⟨S.keep c.1 k, ih us c.2⟩

theorem one_fun (f : FuncId) (Cs : List Spec) : One (sfun f Cs) := by rintro F w v ⟨us, rfl, _⟩; rfl

theorem Holds.keep {F : Foot} {w : World} {F' : Foot} {w' : World} : ∀ {l : List Spec} {us : List Value}, Holds F w l us → Kp F w F' w' → Holds F' w' l us
  | [], [], _, _ => trivial
  | S :: _, _ :: _, ⟨h, r⟩, k => ⟨S.keep h k, Holds.keep r k⟩
  | [], _ :: _, h, _ => h.elim
  | _ :: _, [], h, _ => h.elim
theorem Holds.append {F : Foot} {w : World} : ∀ {l : List Spec} {us : List Value} {m : List Spec} {vs : List Value}, Holds F w l us → Holds F w m vs → Holds F w (l ++ m) (us ++ vs)
  | [], [], _, _, _, k => k
  | _ :: _, _ :: _, _, _, ⟨h, r⟩, k => ⟨h, Holds.append r k⟩
  | [], _ :: _, _, _, h, _ => h.elim
  | _ :: _, [], _, _, h, _ => h.elim

/-- An element's address, in a row of the call's own. -/
def srow (v : Value) (o : Nat) : Spec where
  holds _ _ u := ∃ g N c, v = .slice (some ⟨g, 0, none⟩) N c ∧ u = .pointer (some ⟨g, o, none⟩)
  keep := fun h _ => h

section
variable {n : Nat} {Γ : Ctx} {M : Owns} {L : List (Nat × Spec)} {dst : Option Nat} {ty : TypeId} {pos : String} {after : Array Edge} {guard : Option (Nat × Bool)}
variable {t : TypeId} {d : TypeDesc} {x y : Operand} {ops : Array Oper} {Q : Exit → Act → World → Prop} {rest : List Oper} {o : Oper}

theorem St.say {a : Act} {w : World} {s : Nat} {S' : Spec} (h : St n Γ M L a w) (hs : ∃ v, a.tmps[s]? = some v ∧ S'.holds (FM Γ.F0 M) w v) : St n Γ M ((s, S') :: L) a w :=
  { good := h.good, size := h.size, defs := h.defs, glob := h.glob, kept := h.kept, own := h.own, dis := h.dis, slots := fun u T hT => by
      rw [look_cons] at hT
      by_cases e : s = u
      · subst e; rw [if_pos rfl] at hT; cases hT; exact hs
      · rw [if_neg e] at hT; exact h.slots u T hT }

theorem St.own_ok {a : Act} {w : World} {key : Nat} {e : Ent} (h : St n Γ M L a w) (hm : lookM M key = some e) : e.ok (FM Γ.F0 M) w := by
  obtain ⟨M1, M2, k0, rfl, -, -⟩ := lookM_split hm
  exact (h.own (k0, e) (by simp)).1

/-- A row of the call's own is given up: from now on it stays as it is. -/
theorem Run.freeze {α : Type} {K : α → List Spec} {l : List α} {sz : Nat} {e : TypeId} {v : Value} {X : Act → World → Prop} (key s : Nat) (hm : lookM M key = some (.row v e sz l.length (l.flatMap K))) (hs : look L s = some (sval v))
    (h : Run n Γ (delM M key) ((s, slc K l) :: L) X) : Run n Γ M L X := fun a w hst => by
  obtain ⟨us, hown, hc⟩ := hst.own_ok hm
  obtain ⟨h1, h2, h3⟩ := hst.free hm
  refine h a w (h1.say ?_)
  obtain ⟨u, hu, hv⟩ := hst.slots s _ hs
  have hv : u = v := hv
  subst hv
  refine ⟨u, hu, ?_⟩
  rcases hown.2 with ⟨rfl, h0⟩ | ⟨g, cap, cur, rfl, -, hg, hcap, -, hcs, htk⟩
  · have : l = [] := List.eq_nil_of_length_eq_zero h0
    subst this
    exact ⟨none, 0, us, rfl, hc.keep h2, rfl, rfl⟩
  · refine ⟨some ⟨g, 0, none⟩, cap, us, rfl, hc.keep h2, rfl, hcap, fun _ => h3 g rfl, fun j z hj => ?_⟩
    simp only [World.cell?, hg, Nat.zero_add]
    rw [← htk, List.getElem?_take] at hj
    split at hj
    · simpa using hj
    · cases hj

/-- A block of the call's own is given up: a pointer to its head. -/
theorem Run.freezeB {b : Nat} {e : TypeId} {l : List Spec} {X : Act → World → Prop} (key s : Nat) (hm : lookM M key = some (.blk b e l)) (hs : look L s = some (sval (.pointer (some ⟨b, 0, none⟩))))
    (h : Run n Γ (delM M key) ((s, spts l) :: L) X) : Run n Γ M L X := fun a w hst => by
  obtain ⟨us, hb, hc⟩ := hst.own_ok hm
  obtain ⟨h1, h2, h3⟩ := hst.free hm
  refine h a w (h1.say ?_)
  obtain ⟨u, hu, hv⟩ := hst.slots s _ hs
  have hv : u = _ := hv
  subst hv
  refine ⟨_, hu, b, 0, us, rfl, hc.keep h2, fun _ => h3 b rfl, fun j z hj => ?_⟩
  simp only [World.cell?, hb, Nat.zero_add]
  simpa using hj

/-- Something owned is forgotten. -/
theorem Run.drop {e : Ent} {X : Act → World → Prop} (key : Nat) (hm : lookM M key = some e) (h : Run n Γ (delM M key) L X) : Run n Γ M L X := fun a w hst => h a w (hst.free hm).1

/-! rows of the call's own, element by element -/
theorem y_lenR {v : Value} {e : TypeId} {sz N : Nat} {m : List Spec} {e' : TypeId} (key : Nat) (hx : opv L x = some (sval v)) (hm : lookM M key = some (.row v e sz N m)) (hU : Γ.E.P.underlying t = some (.slice e')) :
    Yields n Γ M L ⟨dst, .call { callee := .builtin .len, args := #[x], argTypes := #[t] }, ty, pos, after, guard⟩ (i64 N) := by
  refine y_val fun a w hs => ?_
  have hv : a.eval x = v := hs.opv hx
  obtain ⟨us, hown, hc⟩ := hs.own_ok hm
  rcases hown.2 with ⟨rfl, h0⟩ | ⟨g, cap, cur, rfl, -⟩
  · subst h0; simp [execOp, resolve, invoke, builtin, Builtin.len_, hv, run_underlying hU, goInt]
  · simp [execOp, resolve, invoke, builtin, Builtin.len_, hv, run_underlying hU, goInt]

theorem y_indexR {v : Value} {e e' : TypeId} {sz N : Nat} {m : List Spec} {k : IntKind} {i : Int} (key j : Nat) (hx : opv L x = some (sval v)) (hi : opv L y = some (sval (.int k i))) (hm : lookM M key = some (.row v e sz N m))
    (hU : Γ.E.P.underlying t = some (.slice e')) (hZ : (Γ.E.P.info? e').map (·.size) = some sz) (hij : i = (j : Int)) (hj : j < N) :
    Yields n Γ M L ⟨dst, .indexAddr t x y, ty, pos, after, guard⟩ (srow v (j * sz)) := fun a w hs Kc Q hKc => by
  have hv : a.eval x = v := hs.opv hx
  have hy : a.eval y = .int k i := hs.opv hi
  obtain ⟨us, hown, hc⟩ := hs.own_ok hm
  rcases hown.2 with ⟨rfl, h0⟩ | ⟨g, cap, cur, rfl, -⟩
  · omega
  · have : (execOp a.eval ⟨dst, .indexAddr t x y, ty, pos, after, guard⟩).run Γ.E.P w = .ok (.value (.pointer (some ⟨g, 0 + j * sz, none⟩))) w := by
      subst hij
      simp [execOp, hv, hy, Instr.indexAt, asIntOf, run_underlying hU, run_sizeOf hZ, Addr.add_lit]; intro h; omega
    unfold Oper.wp
    rw [this]
    exact hKc _ w (Below.refl _ _) ⟨g, N, cap, rfl, by rw [Nat.zero_add]⟩

theorem y_fieldR {v : Value} {f0 i sz : Nat} {fs : Array Field} {f : Field} (hx : opv L x = some (srow v f0)) (hU : Γ.E.P.underlying t = some (.struct fs)) (hf : fs[i]? = some f) (hZ : (Γ.E.P.info? f.type).map (·.size) = some (sz + 1)) :
    Yields n Γ M L ⟨dst, .fieldAddr t x i, ty, pos, after, guard⟩ (srow v (f0 + f.offset)) := fun a w hs Kc Q hKc => by
  obtain ⟨g, N, c, hv, hu⟩ := hs.opv hx
  have : (execOp a.eval ⟨dst, .fieldAddr t x i, ty, pos, after, guard⟩).run Γ.E.P w = .ok (.value (.pointer (some ⟨g, f0 + f.offset, none⟩))) w := by
    simp [execOp, hu, Instr.fieldAt, run_underlying hU, hf, Instr.sureAddr, fieldPlace, run_sizeOf hZ, Addr.add_lit]
  unfold Oper.wp
  rw [this]
  exact hKc _ w (Below.refl _ _) ⟨g, N, c, hv, rfl⟩

theorem y_indexRP {v : Value} {f0 sz N : Nat} {e : TypeId} {k : IntKind} {i : Int} (j : Nat) (hx : opv L x = some (srow v f0)) (hi : opv L y = some (sval (.int k i))) (hU : Γ.E.P.underlying t = some (.array N e)) (hZ : (Γ.E.P.info? e).map (·.size) = some sz)
    (hij : i = (j : Int)) (hj : j < N) : Yields n Γ M L ⟨dst, .indexAddr t x y, ty, pos, after, guard⟩ (srow v (f0 + j * sz)) := fun a w hs Kc Q hKc => by
  obtain ⟨g, N', c, hv, hu⟩ := hs.opv hx
  have hy : a.eval y = .int k i := hs.opv hi
  have : (execOp a.eval ⟨dst, .indexAddr t x y, ty, pos, after, guard⟩).run Γ.E.P w = .ok (.value (.pointer (some ⟨g, f0 + j * sz, none⟩))) w := by
    subst hij
    simp [execOp, hu, hy, Instr.indexAt, Instr.sureAddr, asIntOf, run_underlying hU, run_sizeOf hZ, Addr.add_lit]; intro h; omega
  unfold Oper.wp
  rw [this]
  exact hKc _ w (Below.refl _ _) ⟨g, N', c, hv, rfl⟩

theorem row_cell {w : World} {e : TypeId} {sz N g c M0 f0 : Nat} {us : List Value} {u : Value} (hown : w.ownsRow 0 e sz (.slice (some ⟨g, 0, none⟩) M0 c) N us) (hu : us[f0]? = some u) : w.cell? ⟨g, f0, none⟩ = some u := by
  have := hown.cells (g := g) rfl f0 u hu
  rwa [Addr.add_lit, Nat.zero_add] at this

theorem y_loadR {v : Value} {e : TypeId} {sz N f0 : Nat} {m : List Spec} {S : Spec} (key : Nat) (hx : opv L x = some (srow v f0)) (hm : lookM M key = some (.row v e sz N m)) (hS : m[f0]? = some S) (hU : Γ.E.P.underlying t = some d) (hd : aggD d = false) :
    Yields n Γ M L ⟨dst, .load t x, ty, pos, after, guard⟩ S := fun a w hs Kc Q hKc => by
  obtain ⟨g, N', c, rfl, hu⟩ := hs.opv hx
  obtain ⟨us, hown, hc⟩ := hs.own_ok hm
  obtain ⟨u, hu2, hh, _⟩ := hc.get hS
  have h0 := row_cell hown hu2
  have : (execOp a.eval ⟨dst, .load t x, ty, pos, after, guard⟩).run Γ.E.P w = .ok (.value u) w := by
    simp only [execOp, hu, Instr.loadAt, Instr.sureAddr, Sem.run_bind, Sem.run_pure, Result.andThen_ok, run_loadVar1 hU hd h0]
  unfold Oper.wp
  rw [this]
  exact hKc _ w (Below.refl _ _) hh

theorem y_loadRA {v : Value} {e : TypeId} {sz N f0 k : Nat} {m l' : List Spec} (key : Nat) (hx : opv L x = some (srow v f0)) (hm : lookM M key = some (.row v e sz N m)) (hl : (m.drop f0).take k = l') (hfit : l'.length = k) (hU : Γ.E.P.underlying t = some d) (hd : aggD d = true)
    (hZ : (Γ.E.P.info? t).map (·.size) = some k) : Yields n Γ M L ⟨dst, .load t x, ty, pos, after, guard⟩ (sagg l') := fun a w hs Kc Q hKc => by
  obtain ⟨g, N', c, rfl, hu⟩ := hs.opv hx
  obtain ⟨us, hown, hc⟩ := hs.own_ok hm
  subst hl
  have hc' := (hc.drop f0).take k
  have hlen := hc'.length
  have h0 := run_loadVarA hU hd hZ (w := w) (b := g) (o := f0) (us := (us.drop f0).take k) (by omega) (fun j u hj => by
    rw [List.getElem?_take] at hj
    split at hj
    · rw [List.getElem?_drop] at hj; exact row_cell hown hj
    · cases hj)
  have : (execOp a.eval ⟨dst, .load t x, ty, pos, after, guard⟩).run Γ.E.P w = .ok (.value (.agg ((us.drop f0).take k).toArray)) w := by
    simp only [execOp, hu, Instr.loadAt, Instr.sureAddr, Sem.run_bind, Sem.run_pure, Result.andThen_ok, h0]
  unfold Oper.wp
  rw [this]
  exact hKc _ w (Below.refl _ _) ⟨_, rfl, hc'⟩

theorem ownsRow_spl {w : World} {e : TypeId} {sz N g c f0 : Nat} {us vs : List Value} {cur : Array Value} (hg : w.heap[g]? = some (.cells cur e (0, 0))) (hcs : cur.size = c * sz) (hNc : N ≤ c) (hcm : c ≤ maxLen) (htk : cur.toList.take (N * sz) = us) (hl : us.length = N * sz) (hfit : f0 + vs.length ≤ us.length) :
    (w.setRow g (spl cur.toList f0 vs).toArray).ownsRow 0 e sz (.slice (some ⟨g, 0, none⟩) N c) N (spl us f0 vs) := by
  have hcl : us.length ≤ cur.toList.length := by rw [← htk]; simp; omega
  refine ⟨by rw [spl_length hfit, hl], .inr ⟨g, c, _, rfl, Nat.zero_le _, setRow_heap _ _ _ _ _ _ hg, hNc, hcm, ?_, ?_⟩⟩
  · rw [List.size_toArray, spl_length (by omega)]; simpa using hcs
  · have e1 : cur.toList = us ++ cur.toList.drop (N * sz) := by rw [← htk, List.take_append_drop]
    have e2 : spl cur.toList f0 vs = spl us f0 vs ++ cur.toList.drop (N * sz) := by
      rw [e1]
      unfold spl
      rw [List.take_append_of_le_length (by omega), List.drop_append_of_le_length (by omega), ← List.append_assoc]
      congr 1
      rw [← e1]
    rw [show ((spl cur.toList f0 vs).toArray).toList = spl cur.toList f0 vs from rfl, e2, List.take_left' (by rw [spl_length hfit, hl])]

/-- A store into a row of the call's own. -/
theorem Run.storeRG {v : Value} {e : TypeId} {sz N f0 : Nat} {l m : List Spec} (key : Nat) (hg : o.guard = none) (hd : o.dst = none) (ho : o.op = .store t x y) (hx : opv L x = some (srow v f0)) (hm : lookM M key = some (.row v e sz N l))
    (hy : ∀ a w, St n Γ M L a w → ∃ vs, (a.eval y).cells = List.toArray vs ∧ Cells (FM Γ.F0 M) w m vs) (hZ : (Γ.E.P.info? t).map (·.size) = some m.length) (hfit : f0 + m.length ≤ l.length)
    (h : Run n Γ (setM M key (.row v e sz N (spl l f0 m))) L (wpList Γ.E.P ops Q rest)) : Run n Γ M L (wpList Γ.E.P ops Q (o :: rest)) := fun a w hs =>
  wpList_of_wp (guard_wanted hg) (by
    obtain ⟨g, N', c, rfl, hu⟩ := hs.opv hx
    obtain ⟨vs, hvs, hcv⟩ := hy a w hs
    obtain ⟨us, hown, hc⟩ := hs.own_ok hm
    have hlu := hc.length
    have hlv := hcv.length
    obtain ⟨cap, cur, e1, hgb, hNc, hcm, hcs, htk⟩ : ∃ cap cur, (Value.slice (some ⟨g, 0, none⟩) N' c = .slice (some ⟨g, 0, none⟩) N cap) ∧ w.heap[g]? = some (.cells cur e (0, 0)) ∧ N ≤ cap ∧ cap ≤ maxLen ∧ cur.size = cap * sz ∧ cur.toList.take (N * sz) = us := by
      rcases hown.2 with ⟨h1, _⟩ | ⟨g', cap, cur, h1, -, h2, h3, h4, h5, h6⟩
      · cases h1
      · cases h1; exact ⟨_, cur, rfl, h2, h3, h4, h5, h6⟩
    cases e1
    have hus : us.length = N * sz := hown.1
    have hst := run_storeVarB (P := Γ.E.P) (t := t) (w := w) (b := g) (o := f0) (e := e) (us := cur.toList) (vs := vs) (v := a.eval y) (by simpa using hgb) hvs (by rw [hlv]; exact hZ) hcv.one (by
      have : us.length ≤ cur.toList.length := by rw [← htk]; simp; omega
      omega)
    have hrow := ownsRow_spl hgb hcs hNc hcm htk hus (f0 := f0) (vs := vs) (by omega)
    have : (execOp a.eval o).run Γ.E.P w = .ok .skip (w.setRow g (Go.Vx.spl cur.toList f0 vs).toArray) := by
      simp only [execOp, ho, hu, Instr.storeAt, Instr.sureAddr, Sem.run_bind, Sem.run_pure, Result.andThen_ok, hst]
    unfold Oper.wp
    rw [this, Oper.upon_skip, hd]
    have hkp : Kp (FM Γ.F0 M) w (FM Γ.F0 M) (w.setRow g (Go.Vx.spl cur.toList f0 vs).toArray) := fun k hk _ => ⟨hk, setRow_other _ _ _ _ (by
      rintro rfl
      obtain ⟨M1, M2, k0, rfl, -, -⟩ := lookM_split hm
      exact hk.2 (k0, Ent.row (.slice (some ⟨_, 0, none⟩) N c) e sz N l) (by simp) rfl)⟩
    exact h _ _ (hs.set hm (b := g) rfl rfl (by simp) (by simp) (by simp) (by simp) (fun k hk => setRow_other _ _ _ _ hk) ⟨_, hrow, (hc.spl hcv f0).keep hkp⟩))

theorem Run.storeR1 {v : Value} {e : TypeId} {sz N f0 : Nat} {l : List Spec} {S : Spec} (key : Nat) (hx : opv L x = some (srow v f0)) (hm : lookM M key = some (.row v e sz N l))
    (hy : opv L y = some S) (h1 : One S) (hZ : (Γ.E.P.info? t).map (·.size) = some 1) (hfit : f0 < l.length)
    (h : Run n Γ (setM M key (.row v e sz N (spl l f0 [S]))) L (wpList Γ.E.P ops Q rest)) : Run n Γ M L (wpList Γ.E.P ops Q (⟨none, .store t x y, ty, pos, after, none⟩ :: rest)) := by
  refine Run.storeRG (m := [S]) key rfl rfl rfl hx hm (fun a w hs => ?_) hZ hfit h
  have hv := hs.opv hy
  exact ⟨[a.eval y], oneCell_cells (h1 _ _ _ hv), ⟨hv, h1 _ _ _ hv⟩, trivial⟩
theorem Run.storeRA {v : Value} {e : TypeId} {sz N f0 : Nat} {l m : List Spec} (key : Nat) (hx : opv L x = some (srow v f0)) (hm : lookM M key = some (.row v e sz N l))
    (hy : opv L y = some (sagg m)) (hZ : (Γ.E.P.info? t).map (·.size) = some m.length) (hfit : f0 + m.length ≤ l.length)
    (h : Run n Γ (setM M key (.row v e sz N (spl l f0 m))) L (wpList Γ.E.P ops Q rest)) : Run n Γ M L (wpList Γ.E.P ops Q (⟨none, .store t x y, ty, pos, after, none⟩ :: rest)) := by
  refine Run.storeRG (m := m) key rfl rfl rfl hx hm (fun a w hs => ?_) hZ hfit h
  obtain ⟨us, hv, hc⟩ := hs.opv hy
  exact ⟨us, by rw [hv]; rfl, hc⟩

/-- 'xs[lo:hi]' of a slice that stays. -/
theorem y_slice {α : Type} {K : α → List Spec} {l : List α} {e : TypeId} {sz : Nat} {lo hi : Option Operand} (i j : Nat) (hx : opv L x = some (slc K l)) (hU : Γ.E.P.underlying t = some (.slice e)) (hZ : (Γ.E.P.info? e).map (·.size) = some sz) (hK : ∀ x, (K x).length = sz)
    (hlo : (lo = none ∧ i = 0) ∨ ∃ z k, lo = some z ∧ opv L z = some (sval (.int k (i : Int)))) (hhi : (hi = none ∧ j = l.length) ∨ ∃ z k, hi = some z ∧ opv L z = some (sval (.int k (j : Int)))) (hij : i ≤ j) (hj : j ≤ l.length) :
    Yields n Γ M L ⟨dst, .slice t x lo hi none, ty, pos, after, guard⟩ (slc K ((l.drop i).take (j - i))) := fun a w hs Kc Q hKc => by
  obtain ⟨ao, c, us, hv, hc, hm⟩ := hs.opv hx
  have hlc : l.length ≤ c := by
    cases ao with
    | none => rw [hm.1]; simp
    | some p => exact hm.2.1
  have hb : (Instr.sliceBounds true l.length c (lo.map a.eval) (hi.map a.eval) none).run Γ.E.P w = .ok (i, j, c) w := by
    have h1 : (match (generalizing := false) (hi.map a.eval : Option Value) with
      | some v => Instr.sliceBound v c .sliceAcap
      | none => pure l.length : Sem Nat).run Γ.E.P w = .ok j w := by
      rcases hhi with ⟨rfl, rfl⟩ | ⟨z, k, rfl, hz⟩
      · rfl
      · have hz' : a.eval z = .int k j := hs.opv hz
        simp [Instr.sliceBound, asIntOf, hz']; intro h; omega
    have h2 : (match (generalizing := false) (lo.map a.eval : Option Value) with
      | some v => Instr.sliceBound v j .sliceB
      | none => pure 0 : Sem Nat).run Γ.E.P w = .ok i w := by
      rcases hlo with ⟨rfl, rfl⟩ | ⟨z, k, rfl, hz⟩
      · rfl
      · have hz' : a.eval z = .int k i := hs.opv hz
        simp [Instr.sliceBound, asIntOf, hz']; intro h; omega
    cases hi <;> cases lo <;> simp [Instr.sliceBounds] at h1 h2 ⊢ <;> simp [h1, h2]
  have hspl : l = l.take i ++ ((l.drop i).take (j - i) ++ (l.drop i).drop (j - i)) := by rw [List.take_append_drop, List.take_append_drop]
  have hc0 := hc
  rw [hspl, List.flatMap_append, List.flatMap_append] at hc
  obtain ⟨u1, u2, rfl, hc1, hc2⟩ := hc.split
  obtain ⟨u3, u4, rfl, hc3, hc4⟩ := hc2.split
  have hl1 : u1.length = i * sz := by
    rw [hc1.length, List.length_flatMap, List.map_congr_left (g := fun _ => sz) (fun x _ => hK x), List.map_const', List.sum_replicate_nat]
    simp only [List.length_take, Nat.min_eq_left (Nat.le_trans hij hj)]
  have hlen : ((l.drop i).take (j - i)).length = j - i := by simp; omega
  cases ao with
  | none =>
    obtain ⟨rfl, rfl⟩ := hm
    simp at hj
    subst hj
    have hi0 : i = 0 := by omega
    subst hi0
    have : (execOp a.eval ⟨dst, .slice t x lo hi none, ty, pos, after, guard⟩).run Γ.E.P w = .ok (.value (.slice none 0 0)) w := by
      have ht : ∀ v lo hi, (Instr.sliceAt t v lo hi none).run Γ.E.P w = (Instr.slice t v lo hi none).run Γ.E.P w := by
        intro v lo hi; simp [Instr.sliceAt, run_underlying hU]
      simp only [execOp, Sem.run_bind, hv, Option.map_none, ht]
      simp [Instr.slice, run_underlying hU, run_sizeOf hZ] at hb ⊢
      simp [hb]
    unfold Oper.wp
    rw [this]
    exact hKc _ w (Below.refl _ _) ⟨none, 0, [], by simp, by simp [Cells], by simp, rfl⟩
  | some p =>
    obtain ⟨b, o0, sp⟩ := p
    obtain ⟨hsp, _, hat⟩ := hm
    simp only at hsp
    subst hsp
    have : (execOp a.eval ⟨dst, .slice t x lo hi none, ty, pos, after, guard⟩).run Γ.E.P w = .ok (.value (.slice (some (if c = i then ⟨b, o0, none⟩ else ⟨b, o0 + i * sz, none⟩)) (j - i) (c - i))) w := by
      have ht : ∀ v lo hi, (Instr.sliceAt t v lo hi none).run Γ.E.P w = (Instr.slice t v lo hi none).run Γ.E.P w := by
        intro v lo hi; simp [Instr.sliceAt, run_underlying hU]
      simp only [execOp, Sem.run_bind, hv, Option.map_none, ht]
      simp [Instr.slice, run_underlying hU, run_sizeOf hZ, hb, Addr.add_lit]
      split <;> rfl
    unfold Oper.wp
    rw [this]
    refine hKc _ w (Below.refl _ _) ⟨some (if c = i then ⟨b, o0, none⟩ else ⟨b, o0 + i * sz, none⟩), c - i, u3, by rw [hlen], hc3, ?_, by rw [hlen]; omega, ?_⟩
    · split <;> rfl
    · have ha := hat.right.left
      rw [hl1] at ha
      by_cases hci : c = i
      · have h0 : j - i = 0 := by omega
        have hu3 : u3 = [] := List.eq_nil_of_length_eq_zero (by rw [hc3.length, h0]; simp)
        subst hu3
        exact ⟨fun h => (h rfl).elim, fun k u hk => by simp at hk⟩
      · simp only [if_neg hci]; exact ha

theorem y_makeFunc {f : FuncId} {xs : List Operand} {Cs : List Spec} (h : xs.mapM (opv L) = some Cs) : Yields n Γ M L ⟨dst, .makeFunc (.func f) #[] xs.toArray, ty, pos, after, guard⟩ (sfun f Cs) := fun a w hs Kc Q hKc => by
  have hh : Holds (FM Γ.F0 M) w Cs (xs.map a.eval) := by
    clear hKc
    induction xs generalizing Cs with
    | nil => simp at h; subst h; trivial
    | cons x xs ih =>
      simp only [List.mapM_cons, Option.bind_eq_bind, Option.bind_eq_some_iff] at h
      obtain ⟨S, hS, l, hl, he⟩ := h
      cases he
      exact ⟨hs.opv hS, ih hl⟩
  unfold Oper.wp
  have : (execOp a.eval ⟨dst, .makeFunc (.func f) #[] xs.toArray, ty, pos, after, guard⟩).run Γ.E.P w = .ok (.value (.func (.func f) #[] (xs.map a.eval).toArray)) w := by
    simp [execOp, Instr.makeFunc]
  rw [this]
  exact hKc _ w (Below.refl _ _) ⟨_, rfl, hh⟩

/-! calls -/
/-- The function has a body, and is entered. -/
structure Enters (P : Program) (f : FuncId) : Prop where
  run : ∀ args w, (callFunc f args).run P w = .ok (.enter f args) w
theorem enters_of' {P : Program} {f : FuncId} {fn : Func} (hf : P.funcs[f]? = some fn) (hn : (fn.name == "runtime.NumGoroutine") = false) (hb : fn.body.isSome = true) : Enters P f := ⟨fun args w => by
  obtain ⟨c, hc⟩ := Option.isSome_iff_exists.1 hb
  have hn' : ¬ (fn.name = "runtime.NumGoroutine") := by simpa using hn
  simp [callFunc, program, Sem.run, bind, Sem.bind, hf, hn', hc, pure]⟩

/-- An argument: what is said of a slot, or a row of the call's own that is lent. -/
inductive Arg (M : Owns) (L : List (Nat × Spec)) : Operand → Spec → Prop
  | slot {x : Operand} {S : Spec} (h : opv L x = some S) : Arg M L x S
  | row {α : Type} {K : α → List Spec} {l : List α} {x : Operand} {v : Value} {e : TypeId} {sz : Nat} (key : Nat) (h : opv L x = some (sval v)) (hm : lookM M key = some (.row v e sz l.length (l.flatMap K))) : Arg M L x (slc K l)
  | ptr {x : Operand} {b : Nat} {e : TypeId} {l : List Spec} (key : Nat) (h : opv L x = some (sval (.pointer (some ⟨b, 0, none⟩)))) (hm : lookM M key = some (.blk b e l)) : Arg M L x (spts l)
inductive Args (M : Owns) (L : List (Nat × Spec)) : List Operand → List Spec → Prop
  | nil : Args M L [] []
  | cons {x : Operand} {S : Spec} {xs : List Operand} {l : List Spec} (h : Arg M L x S) (r : Args M L xs l) : Args M L (x :: xs) (S :: l)

theorem Arg.holds {a : Act} {w : World} {x : Operand} {S : Spec} (h : Arg M L x S) (hs : St n Γ M L a w) : S.holds (fun _ => True) w (a.eval x) := by
  have hkp : Kp (FM Γ.F0 M) w (fun _ => True) w := fun k _ _ => ⟨trivial, rfl⟩
  cases h with
  | slot h => exact S.keep (hs.opv h) hkp
  | row key h hm =>
    have hv : a.eval x = _ := hs.opv h
    obtain ⟨us, hown, hc⟩ := hs.own_ok hm
    rw [hv]
    rcases hown.2 with ⟨rfl, h0⟩ | ⟨g, cap, cur, rfl, -, hg, hcap, -, hcs, htk⟩
    · have hl := List.eq_nil_of_length_eq_zero h0
      exact ⟨none, 0, us, by rw [hl]; rfl, hc.keep hkp, hl, rfl⟩
    · exact ⟨some ⟨g, 0, none⟩, cap, us, rfl, hc.keep hkp, rfl, hcap, fun _ => trivial, fun j z hj => row_cell hown (by simpa using hj)⟩
  | ptr key h hm =>
    have hv : a.eval x = _ := hs.opv h
    obtain ⟨us, hb, hc⟩ := hs.own_ok hm
    rw [hv]
    refine ⟨_, 0, us, rfl, hc.keep hkp, fun _ => trivial, fun j z hj => ?_⟩
    simp only [World.cell?, hb, Nat.zero_add]
    simpa using hj

theorem Args.holds {a : Act} {w : World} (hs : St n Γ M L a w) : ∀ {xs : List Operand} {l : List Spec}, Args M L xs l → Holds (fun _ => True) w l (xs.map a.eval)
  | _, _, .nil => trivial
  | _, _, .cons h r => ⟨h.holds hs, Args.holds hs r⟩

theorem Args.slots {xs : List Operand} {l : List Spec} {a : Act} {w : World} (hs : St n Γ M L a w) (h : xs.mapM (opv L) = some l) : Holds (FM Γ.F0 M) w l (xs.map a.eval) := by
  induction xs generalizing l with
  | nil => simp at h; subst h; trivial
  | cons x xs ih =>
    simp only [List.mapM_cons, Option.bind_eq_bind, Option.bind_eq_some_iff] at h
    obtain ⟨S, hS, l, hl, he⟩ := h
    cases he
    exact ⟨hs.opv hS, ih hl⟩

theorem free_val (v : Value) : Free (sval v) := fun _ _ _ _ _ h => h
theorem free_agg : ∀ {l : List Spec}, (∀ S ∈ l, Free S) → Free (sagg l) := by
  rintro l hl F w v F' w' ⟨us, hv, hc⟩
  refine ⟨us, hv, ?_⟩
  clear hv
  induction l generalizing us with
  | nil => cases us with
    | nil => trivial
    | cons u us => exact hc.elim
  | cons S l ih => cases us with
    | nil => exact hc.elim
    | cons u us => exact ⟨⟨hl S (by simp) _ _ _ _ _ hc.1.1, hc.1.2⟩, ih (fun T hT => hl T (by simp [hT])) us hc.2⟩
theorem free_tup : ∀ {l : List Spec}, (∀ S ∈ l, Free S) → Free (stup l) := by
  rintro l hl F w v F' w' ⟨us, hv, hc⟩
  refine ⟨us, hv, ?_⟩
  clear hv
  induction l generalizing us with
  | nil => cases us with
    | nil => trivial
    | cons u us => exact hc.elim
  | cons S l ih => cases us with
    | nil => exact hc.elim
    | cons u us => exact ⟨hl S (by simp) _ _ _ _ _ hc.1, ih (fun T hT => hl T (by simp [hT])) us hc.2⟩

theorem call_run {P : Program} {f : FuncId} (hf : Enters P f) {ats : Array TypeId} {xs : List Operand} (a : Act) (w : World) : (execOp a.eval ⟨dst, .call { callee := .value (.func f), args := xs.toArray, argTypes := ats }, ty, pos, after, guard⟩).run P w = .ok (.enter f (xs.map a.eval).toArray) w := by
  simp [execOp, resolve, Deferred.ofValue, Act.eval, invoke, hf.run _ w]

theorem wp_of_calls {P : Program} {f : FuncId} {args : Array Value} {a : Act} {w : World} {K : Act → World → Prop} {R : Value → World → Prop} (hrun : (execOp a.eval o).run P w = .ok (.enter f args) w)
    (hc : Calls P f args w fun e w' => ∃ v, e = .returned v ∧ R v w') (hK : ∀ v w', R v w' → K (a.put o.dst v) w') : o.wp P a w K Q := by
  unfold Oper.wp
  rw [hrun, Oper.upon_enter]
  refine Calls.mono hc fun e w' he => ?_
  obtain ⟨v, rfl, hv⟩ := he
  exact hK v w' hv

/-- A call of a function by what is known of it. -/
theorem y_call {f : FuncId} {As : List Spec} {S : Spec} {ats : Array TypeId} {xs : List Operand} (hf : Enters Γ.E.P f) (hargs : xs.mapM (opv L) = some As) (C : Fn Γ.E f As S) :
    Yields n Γ M L ⟨dst, .call { callee := .value (.func f), args := xs.toArray, argTypes := ats }, ty, pos, after, guard⟩ S := fun a w hs _ _ hKc =>
  wp_of_calls (call_run hf a w) (C (FM Γ.F0 M) w _ hs.glob hs.gnle hs.fresh' (Args.slots hs hargs)) fun v w' h => hKc v w' h.1 h.2

/-- The same, with rows of the call's own among the arguments. -/
theorem y_callL {f : FuncId} {As : List Spec} {S : Spec} {ats : Array TypeId} {xs : List Operand} (hf : Enters Γ.E.P f) (hargs : Args M L xs As) (C : Fn Γ.E f As S) (hS : Free S) :
    Yields n Γ M L ⟨dst, .call { callee := .value (.func f), args := xs.toArray, argTypes := ats }, ty, pos, after, guard⟩ S := fun a w hs _ _ hKc =>
  wp_of_calls (call_run hf a w) (C (fun _ => True) w _ hs.glob hs.gnle (fun _ _ => trivial) (hargs.holds hs)) fun v w' h => hKc v w' h.1 (hS _ _ _ _ _ h.2)

/-- A call of a function value. -/
theorem y_callV {f : FuncId} {As Cs : List Spec} {S : Spec} {ats : Array TypeId} {c : Nat} {xs : List Operand} (hf : Enters Γ.E.P f) (hc : opv L (.tmp c) = some (sfun f Cs)) (hargs : xs.mapM (opv L) = some As) (C : Fn Γ.E f (As ++ Cs) S) :
    Yields n Γ M L ⟨dst, .call { callee := .value (.tmp c), args := xs.toArray, argTypes := ats }, ty, pos, after, guard⟩ S := fun a w hs Kc Q hKc => by
  obtain ⟨us, hv, hh⟩ := hs.opv hc
  have hrun : (execOp a.eval ⟨dst, .call { callee := .value (.tmp c), args := xs.toArray, argTypes := ats }, ty, pos, after, guard⟩).run Γ.E.P w = .ok (.enter f (xs.map a.eval ++ us).toArray) w := by
    simp [execOp, resolve, hv, Deferred.ofValue, invoke, hf.run _ w]
  exact wp_of_calls hrun (C (FM Γ.F0 M) w _ hs.glob hs.gnle hs.fresh' ((Args.slots hs hargs).append hh)) fun v w' h => hKc v w' h.1 h.2

/-! the end of a call -/
/-- A result. -/
inductive Res (P : Program) (M : Owns) (L : List (Nat × Spec)) : ResultVar → Spec → Prop
  | tmp {t : Nat} {S : Spec} (h : look L t = some S) : Res P M L (.tmp t) S
  | agg {p : Nat} {ty : TypeId} {b : Nat} {e : TypeId} {l : List Spec} {d : TypeDesc} (key : Nat) (h : look L p = some (sval (.pointer (some ⟨b, 0, none⟩)))) (hm : lookM M key = some (.blk b e l)) (hU : P.underlying ty = some d) (hd : aggD d = true)
      (hZ : (P.info? ty).map (·.size) = some l.length) : Res P M L (.cell p ty) (sagg l)
  | one {p : Nat} {ty : TypeId} {b : Nat} {e : TypeId} {S : Spec} {d : TypeDesc} (key : Nat) (h : look L p = some (sval (.pointer (some ⟨b, 0, none⟩)))) (hm : lookM M key = some (.blk b e [S])) (hU : P.underlying ty = some d) (hd : aggD d = false) : Res P M L (.cell p ty) S

/-- The run of one result. -/
def evalRes (tmps : Array Value) : ResultVar → Sem Value
  | .tmp t => pure (tmps.getD t undef)
  | .cell a t => do loadVar t (← asAddr (tmps.getD a undef))

theorem results_eq (fn : Func) (tmps : Array Value) : results fn tmps = (fn.results.mapM (evalRes tmps) >>= fun vs => pure (if h : vs.size = 1 then vs[0] else .tuple vs)) := by
  unfold results
  congr 1

theorem Res.run {a : Act} {w : World} {r : ResultVar} {S : Spec} (h : Res Γ.E.P M L r S) (hs : St n Γ M L a w) : ∃ v, (evalRes a.tmps r).run Γ.E.P w = .ok v w ∧ S.holds (FM Γ.F0 M) w v := by
  cases h with
  | tmp h =>
    obtain ⟨v, h1, h2⟩ := hs.slots _ _ h
    exact ⟨v, by simp [evalRes, h1], h2⟩
  | @agg p ty b e l d key h hm hU hd hZ =>
    obtain ⟨v, h1, h2⟩ := hs.slots _ _ h
    have h2 : v = _ := h2
    subst h2
    obtain ⟨us, hb, hc⟩ := hs.own_ok hm
    have h0 := run_loadVarA (P := Γ.E.P) hU hd hZ (w := w) (b := b) (o := 0) (us := us) hc.length (fun j u hj => by simp only [World.cell?, hb, Nat.zero_add]; simpa using hj)
    exact ⟨_, by simp [evalRes, h1, asAddr, h0], us, rfl, hc⟩
  | @one p ty b e _ d key h hm hU hd =>
    obtain ⟨v, h1, h2⟩ := hs.slots _ _ h
    have h2 : v = _ := h2
    subst h2
    obtain ⟨us, hb, hc⟩ := hs.own_ok hm
    obtain ⟨u, hu, hh, _⟩ := hc.get (i := 0) rfl
    have h0 := run_loadVar1 (P := Γ.E.P) hU hd (w := w) (v := u) (show w.cell? ⟨b, 0, none⟩ = some u by simp only [World.cell?, hb]; simpa using hu)
    exact ⟨u, by simp [evalRes, h1, asAddr, h0], hh⟩

theorem St.kept0 {a : Act} {w : World} (hs : St n Γ M L a w) (hC : Γ.C = []) : Grow Γ.w0 w :=
  ⟨hs.kept.os, hs.kept.tape, hs.kept.output, hs.kept.size, fun k hk => hs.kept.block k hk (by simp [hC])⟩

theorem Run.fin1 {fn : Func} {r : ResultVar} {S S' : Spec} (hr : fn.results = #[r]) (hC : Γ.C = []) (hD : Γ.ds = []) (h : Res Γ.E.P M L r S') (hc : ∀ w v, S'.holds Γ.F0 w v → S.holds Γ.F0 w v) :
    Run n Γ M L (bodyPost Γ.E.P fn (Γ.post S) .ret) := fun a w hs => by
  obtain ⟨v, h1, h2⟩ := h.run hs
  have : (results fn a.tmps).run Γ.E.P w = .ok v w := by
    simp [results_eq, hr, h1]
  exact bodyPost_ret this (hs.defs.trans hD) ⟨_, rfl, hs.kept0 hC, hc _ _ (S'.keep h2 (FM_le rfl))⟩

theorem Run.fin2 {fn : Func} {r1 r2 : ResultVar} {S1 S2 S1' S2' : Spec} (hr : fn.results = #[r1, r2]) (hC : Γ.C = []) (hD : Γ.ds = []) (h1 : Res Γ.E.P M L r1 S1') (h2 : Res Γ.E.P M L r2 S2') (hc1 : ∀ w v, S1'.holds Γ.F0 w v → S1.holds Γ.F0 w v) (hc2 : ∀ w v, S2'.holds Γ.F0 w v → S2.holds Γ.F0 w v) :
    Run n Γ M L (bodyPost Γ.E.P fn (Γ.post (stup [S1, S2])) .ret) := fun a w hs => by
  obtain ⟨v1, g1, k1⟩ := h1.run hs
  obtain ⟨v2, g2, k2⟩ := h2.run hs
  have : (results fn a.tmps).run Γ.E.P w = .ok (.tuple #[v1, v2]) w := by
    simp [results_eq, hr, g1, g2]
  exact bodyPost_ret this (hs.defs.trans hD) ⟨_, rfl, hs.kept0 hC, [v1, v2], rfl, hc1 _ _ (S1'.keep k1 (FM_le rfl)), hc2 _ _ (S2'.keep k2 (FM_le rfl)), trivial⟩

theorem Run.fin3 {fn : Func} {r1 r2 r3 : ResultVar} {S1 S2 S3 S1' S2' S3' : Spec} (hr : fn.results = #[r1, r2, r3]) (hC : Γ.C = []) (hD : Γ.ds = []) (h1 : Res Γ.E.P M L r1 S1') (h2 : Res Γ.E.P M L r2 S2') (h3 : Res Γ.E.P M L r3 S3')
    (hc1 : ∀ w v, S1'.holds Γ.F0 w v → S1.holds Γ.F0 w v) (hc2 : ∀ w v, S2'.holds Γ.F0 w v → S2.holds Γ.F0 w v) (hc3 : ∀ w v, S3'.holds Γ.F0 w v → S3.holds Γ.F0 w v) :
    Run n Γ M L (bodyPost Γ.E.P fn (Γ.post (stup [S1, S2, S3])) .ret) := fun a w hs => by
  obtain ⟨v1, g1, k1⟩ := h1.run hs
  obtain ⟨v2, g2, k2⟩ := h2.run hs
  obtain ⟨v3, g3, k3⟩ := h3.run hs
  have : (results fn a.tmps).run Γ.E.P w = .ok (.tuple #[v1, v2, v3]) w := by
    simp [results_eq, hr, g1, g2, g3]
  exact bodyPost_ret this (hs.defs.trans hD) ⟨_, rfl, hs.kept0 hC, [v1, v2, v3], rfl, hc1 _ _ (S1'.keep k1 (FM_le rfl)), hc2 _ _ (S2'.keep k2 (FM_le rfl)), hc3 _ _ (S3'.keep k3 (FM_le rfl)), trivial⟩
end
end Go.Vx
