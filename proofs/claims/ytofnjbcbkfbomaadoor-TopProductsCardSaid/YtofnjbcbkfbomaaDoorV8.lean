/- More operations: texts made of bytes, rows made with room, rows cut, arrays taken as slices, the greatest of two. Conditions: each rule states what it asks. -/
import Derived.Test.YtofnjbcbkfbomaaDoorV7
import Derived.Lib.AppendZeros
namespace Go.Vx
open Go Go.RowKit

/-- Texts as keys: by their bytes. -/
def kstrI (l : List Int) : Value := .string (bytesOf l)

section
variable {n : Nat} {Γ : Ctx} {M : Owns} {L : List (Nat × Spec)} {dst : Option Nat} {ty : TypeId} {pos : String} {after : Array Edge} {guard : Option (Nat × Bool)}
variable {t t2 : TypeId} {x y : Operand} {ops : Array Oper} {Q : Exit → Act → World → Prop} {rest : List Oper} {o : Oper}

theorem cells_K8 {F : Foot} {w : World} : ∀ {l : List Int} {us : List Value}, Cells F w (l.flatMap fun x => [u8 x]) us → us = l.map (Value.int .u8)
  | [], [], _ => rfl
  | [], _ :: _, h => h.elim
  | x :: l, us, h => by
    rw [List.flatMap_cons] at h
    obtain ⟨u1, u2, rfl, h1, h2⟩ := Cells.split h
    match u1, h1 with
    | [u], ⟨⟨hu, _⟩, _⟩ => 
      have hu : u = .int .u8 x := hu
      rw [cells_K8 h2, hu]; rfl

/-- A text out of bytes that stay. -/
theorem y_toStr {l : List Int} {e : TypeId} (hx : opv L x = some (slc (fun x => [u8 x]) l)) (hU : Γ.E.P.underlying t = some (.slice e)) (hUe : Γ.E.P.underlying e = some (.int .u8)) (hU2 : Γ.E.P.underlying t2 = some .string) :
    Yields n Γ M L ⟨dst, .convert t t2 x, ty, pos, after, guard⟩ (sval (kstrI l)) := y_val fun a w hs => by
  obtain ⟨ao, c, us, hv, hc, hm⟩ := hs.opv hx
  have hus := cells_K8 hc
  have : (convert t t2 (a.eval x)).run Γ.E.P w = .ok (kstrI l) w := by
    rw [hv, run_convert_bytes_string w t t2 e ao l.length c hU hUe hU2]
    cases ao with
    | none =>
      obtain ⟨rfl, _⟩ := hm
      simp [Conv.bytesToString, kstrI, bytesOf, Sem.run_pure]
    | some p =>
      obtain ⟨b, o0, sp⟩ := p
      obtain ⟨hsp, _, hat⟩ := hm
      simp only at hsp
      subst hsp
      refine run_bytesToString w _ _ _ l ?_
      have := run_loadCells_list (P := Γ.E.P) w ⟨b, o0, none⟩ us (fun j u hj => by rw [Addr.add_lit]; exact hat.2 j u hj)
      rw [hus] at this
      simpa using this
  simp only [execOp]
  rw [Sem.run_bind, this]; rfl

/-- A row made with room. -/
theorem Run.makeCap {α : Type} {K : α → List Spec} {N sz by' dn : Nat} {e : TypeId} {z : Value} {k1 k2 : IntKind} {p : Int} (hx : opv L x = some (sval (.int k1 0))) (hy : opv L y = some (sval (.int k2 p))) (hp : p = (N : Int))
    (hU : Γ.E.P.underlying t = some (.slice e)) (hT : TI Γ.E.P e z sz by') (hb : (by' + 1) * N ≤ 281474976710656) (hd : Nat.ble (dn + 1) n = true)
    (h : ∀ v, Run n Γ ((dn, .rows K v e sz []) :: M) ((dn, sval v) :: L) (wpList Γ.E.P ops Q rest)) : Run n Γ M L (wpList Γ.E.P ops Q (⟨some dn, .makeSlice t x y, ty, pos, after, none⟩ :: rest)) := fun a w hs =>
  wpList_of_wp (guard_wanted rfl) (by
    obtain ⟨i, hi, hz, hsz, hby⟩ := hT.ex
    have e1 : (by' + 1) * N = by' * N + N := by rw [Nat.add_mul, Nat.one_mul]
    have hvx : a.eval x = .int k1 0 := hs.opv hx
    have hvy : a.eval y = .int k2 p := hs.opv hy
    subst hp
    obtain ⟨w', hrun, hown, hg⟩ := run_make_own (P := Γ.E.P) (w := w) 0 t e i z sz hU hi hz hsz k1 k2 N (by rw [hby]; omega) (by unfold maxLen; omega) (Nat.zero_le _)
    have : (execOp a.eval ⟨some dn, .makeSlice t x y, ty, pos, after, none⟩).run Γ.E.P w = .ok (.value (.slice (some ⟨w.heap.size, 0, none⟩) 0 N)) w' := by
      simp [execOp, hvx, hvy, hrun]
    unfold Oper.wp
    rw [this]
    have g : Grow w w' := ⟨hg.os, hg.tape, hg.output, hg.size, fun k hk => hg.block k hk (by simp)⟩
    refine h _ _ _ ((hs.fresh_own g (t := dn) (e := Ent.rows K (.slice (some ⟨w.heap.size, 0, none⟩) 0 N) e sz []) (fun k hk => ?_) (fun F hF => ⟨_, hown, trivial⟩)).put (Nat.le_of_ble_eq_true hd) rfl)
    simp [Ent.block, Value.ownBlock] at hk
    subst hk
    exact ⟨Nat.le_refl _, ownBlock_block hown rfl⟩)

/-- An own row, cut at its end. -/
theorem Run.cutRow {α : Type} {K : α → List Spec} {l : List α} {sz by' dn : Nat} {e : TypeId} {z : Value} {k : IntKind} {v : Value} (j key : Nat) (hx : opv L x = some (sval v)) (hm : lookM M key = some (.rows K v e sz l)) (hy : opv L y = some (sval (.int k (j : Int))))
    (hU : Γ.E.P.underlying t = some (.slice e)) (hT : TI Γ.E.P e z sz by') (hK : ∀ x, (K x).length = sz) (hj : j ≤ l.length) (hd : Nat.ble (dn + 1) n = true)
    (h : ∀ v', Run n Γ (setM M key (.rows K v' e sz (l.take j))) ((dn, sval v') :: L) (wpList Γ.E.P ops Q rest)) :
    Run n Γ M L (wpList Γ.E.P ops Q (⟨some dn, .slice t x none (some y) none, ty, pos, after, none⟩ :: rest)) := fun a w hs =>
  wpList_of_wp (guard_wanted rfl) (by
    have hvx : a.eval x = v := hs.opv hx
    have hvy : a.eval y = .int k (j : Int) := hs.opv hy
    obtain ⟨us, hown, hc⟩ : (Ent.rows K v e sz l).ok (FM Γ.F0 M) w := hs.own_ok hm
    have ht : ∀ v lo hi, (Instr.sliceAt t v lo hi none).run Γ.E.P w = (Instr.slice t v lo hi none).run Γ.E.P w := by
      intro v lo hi; simp [Instr.sliceAt, run_underlying hU]
    have hlen : (l.take j).length = j := by simp; omega
    have hcj : ∀ F, Kp (FM Γ.F0 M) w F w → Cells F w ((l.take j).flatMap K) (us.take (j * sz)) := fun F hF => by
      have hspl : l = l.take j ++ l.drop j := by rw [List.take_append_drop]
      rw [hspl, List.flatMap_append] at hc
      obtain ⟨u1, u2, rfl, hc1, _⟩ := hc.split
      have hl1 : u1.length = j * sz := by
        rw [hc1.length, List.length_flatMap, List.map_congr_left (g := fun _ => sz) (fun x _ => hK x), List.map_const', List.sum_replicate_nat, hlen]
      rw [← hl1, List.take_left]
      exact hc1.keep hF
    rcases hown.2 with ⟨rfl, h0⟩ | ⟨g, cap, cur, rfl, _, hg, hcap, hmx, hcs, htk⟩
    · have hj0 : j = 0 := by omega
      subst hj0
      have : (execOp a.eval ⟨some dn, .slice t x none (some y) none, ty, pos, after, none⟩).run Γ.E.P w = .ok (.value (.slice none 0 0)) w := by
        simp only [execOp, Sem.run_bind, hvx, Option.map_none, Option.map_some, hvy, ht]
        simp [Instr.slice, run_underlying hU, run_sizeOf hT.siz, Instr.sliceBounds, Instr.sliceBound, asIntOf]
      unfold Oper.wp
      rw [this]
      exact h _ _ _ ((hs.grown hm (World.grownBy.refl _ _) (fun k hk => .inl hk) (fun F hF => ⟨_, by rw [hlen]; exact World.ownsRow_nil w 0 e sz, by simpa using hcj F hF⟩)).put (Nat.le_of_ble_eq_true hd) rfl)
    · have : (execOp a.eval ⟨some dn, .slice t x none (some y) none, ty, pos, after, none⟩).run Γ.E.P w = .ok (.value (.slice (some ⟨g, 0, none⟩) j cap)) w := by
        simp only [execOp, Sem.run_bind, hvx, Option.map_none, Option.map_some, hvy, ht]
        have hjc : (j : Int) ≤ (cap : Int) := by omega
        have hjc' : ¬ cap < j := by omega
        simp [Instr.slice, run_underlying hU, run_sizeOf hT.siz, Instr.sliceBounds, Instr.sliceBound, asIntOf, hjc', Addr.add_lit]
      unfold Oper.wp
      rw [this]
      refine h _ _ _ ((hs.grown hm (v' := .slice (some ⟨g, 0, none⟩) j cap) (World.grownBy.refl _ _) (fun k hk => .inl hk) (fun F hF => ⟨_, ?_, hcj F hF⟩)).put (Nat.le_of_ble_eq_true hd) rfl)
      refine ⟨?_, .inr ⟨g, cap, cur, by rw [hlen], Nat.zero_le _, hg, by rw [hlen]; omega, hmx, hcs, ?_⟩⟩
      · rw [hlen, List.length_take, hown.1]
        exact Nat.min_eq_left (Nat.mul_le_mul_right _ hj)
      · rw [hlen, ← htk, List.take_take, Nat.min_eq_left (Nat.mul_le_mul_right _ hj)])

theorem cells_sone {F : Foot} {w : World} : ∀ (us : List Value), (∀ u ∈ us, u.oneCell' = true) → Cells F w (List.replicate us.length sone) us
  | [], _ => trivial
  | u :: us, h => ⟨⟨h u (by simp), h u (by simp)⟩, cells_sone us fun v hv => h v (by simp [hv])⟩
theorem flatMap_sone (N sz : Nat) : (List.replicate N ()).flatMap (fun _ => List.replicate sz sone) = List.replicate (N * sz) sone := by
  induction N with
  | zero => simp
  | succ N ih => rw [List.replicate_succ, List.flatMap_cons, ih, Nat.succ_mul, Nat.add_comm, List.replicate_append_replicate]

/-- To a nil slice as many zeros are appended as a number says. -/
theorem Run.appendZ {N sz by' dn : Nat} {e tn : TypeId} {z : Value} {k kn : IntKind} {p : Int} (hx : opv L x = some (sval (.slice none 0 0))) (hy : opv L y = some (sval (.int k p))) (hp : p = (N : Int)) (h0 : 0 < N)
    (hU : Γ.E.P.underlying t = some (.slice e)) (hUn : Γ.E.P.underlying tn = some (.int kn)) (hT : TI Γ.E.P e z sz by') (hone : (z.cells.toList.all fun u => u.oneCell') = true) (hzs : z.cells.size = sz) (hpos : Nat.blt 0 sz = true) (hb : (by' + 1) * N ≤ 281474976710656) (hd : Nat.ble (dn + 1) n = true)
    (h : ∀ v, Run n Γ ((dn, .rows (fun _ : Unit => List.replicate sz sone) v e sz (List.replicate N ())) :: M) ((dn, sval v) :: L) (wpList Γ.E.P ops Q rest)) :
    Run n Γ M L (wpList Γ.E.P ops Q (⟨some dn, .call { callee := .builtin .append, args := #[x, y], argTypes := #[t, tn] }, ty, pos, after, none⟩ :: rest)) := fun a w hs =>
  wpList_of_wp (guard_wanted rfl) (by
    obtain ⟨i, hi, hz, hsz, hby⟩ := hT.ex
    have hpos : 0 < sz := Nat.le_of_ble_eq_true hpos
    have e1 : (by' + 1) * N = by' * N + N := by rw [Nat.add_mul, Nat.one_mul]
    have e2 : by' * N = N * by' := Nat.mul_comm _ _
    have hvx : a.eval x = .slice none 0 0 := hs.opv hx
    have hvy : a.eval y = .int k p := hs.opv hy
    subst hp
    have hrun := Lib.run_append_nil_zeros (P := Γ.E.P) w t tn ty e i z k kn hU hUn hi hz N h0 (by omega) (by omega) (by rw [hby]; omega)
    have : (execOp a.eval ⟨some dn, .call { callee := .builtin .append, args := #[x, y], argTypes := #[t, tn] }, ty, pos, after, none⟩).run Γ.E.P w = .ok (.value (.slice (some ⟨w.heap.size, 0, none⟩) N (grownCap w N 0 e))) (w.drew.alloc (.cells (Builtin.zeroCells z.cells N ++ Builtin.zeroCells z.cells (grownCap w N 0 e - N)) e)) := by
      simp [execOp, resolve, invoke, builtin, hvx, hvy, hrun]
    unfold Oper.wp
    rw [this]
    have hcs : ∀ m, ∀ u ∈ (Builtin.zeroCells z.cells m).toList, u.oneCell' = true := fun m u hu => by
      simp [Builtin.zeroCells] at hu
      obtain ⟨j, hj, rfl⟩ := hu
      have hlt : j % z.cells.size < z.cells.size := Nat.mod_lt _ (by omega)
      rw [getElem!_pos z.cells _ hlt]
      exact List.all_eq_true.1 hone _ (by simp)
    have hge := grownCap_ge w N 0 e
    have hle := grownCap_le_maxLen w N 0 e (by unfold maxLen; omega)
    have hown : (w.drew.alloc (.cells (Builtin.zeroCells z.cells N ++ Builtin.zeroCells z.cells (grownCap w N 0 e - N)) e)).ownsRow 0 e sz (.slice (some ⟨w.heap.size, 0, none⟩) N (grownCap w N 0 e)) N (Builtin.zeroCells z.cells N).toList := by
      refine ⟨by simp [size_zeroCells, hzs], .inr ⟨w.heap.size, _, _, rfl, Nat.zero_le _, heap_alloc_new w.drew _, hge, hle, ?_, ?_⟩⟩
      · rw [Array.size_append, size_zeroCells, size_zeroCells, hzs, ← Nat.add_mul]; congr 1; omega
      · rw [Array.toList_append, List.take_append_of_le_length (by simp [size_zeroCells, hzs]), List.take_of_length_le (by simp [size_zeroCells, hzs])]
    have gr : Grow w (w.drew.alloc (.cells (Builtin.zeroCells z.cells N ++ Builtin.zeroCells z.cells (grownCap w N 0 e - N)) e)) := ((Below.refl _ w).drew).alloc (Nat.le_refl _) _
    refine h _ _ _ ((hs.fresh_own gr (t := dn) (e := Ent.rows (fun _ : Unit => List.replicate sz sone) (.slice (some ⟨w.heap.size, 0, none⟩) N (grownCap w N 0 e)) e sz (List.replicate N ())) (fun k hk => ?_) (fun F hF => ⟨_, by rw [List.length_replicate]; exact hown, ?_⟩)).put (Nat.le_of_ble_eq_true hd) rfl)
    · simp [Ent.block, Value.ownBlock] at hk
      subst hk
      exact ⟨Nat.le_refl _, by simp⟩
    · rw [flatMap_sone]
      have hl : (Builtin.zeroCells z.cells N).toList.length = N * sz := by simp [size_zeroCells, hzs]
      rw [← hl]
      exact cells_sone _ (hcs N))

/-- A nil slice's room. -/
theorem y_capNil {e : TypeId} (hx : opv L x = some (sval (.slice none 0 0))) (hU : Γ.E.P.underlying t = some (.slice e)) : Yields n Γ M L ⟨dst, .call { callee := .builtin .cap, args := #[x], argTypes := #[t] }, ty, pos, after, guard⟩ (i64 0) := by
  refine y_val fun a w hs => ?_
  have e1 : a.eval x = _ := hs.opv hx
  simp [execOp, resolve, invoke, builtin, Builtin.cap_, e1, run_underlying hU, goInt]
theorem y_lenNil {e : TypeId} (hx : opv L x = some (sval (.slice none 0 0))) (hU : Γ.E.P.underlying t = some (.slice e)) : Yields n Γ M L ⟨dst, .call { callee := .builtin .len, args := #[x], argTypes := #[t] }, ty, pos, after, guard⟩ (i64 0) := by
  refine y_val fun a w hs => ?_
  have e1 : a.eval x = _ := hs.opv hx
  simp [execOp, resolve, invoke, builtin, Builtin.len_, e1, run_underlying hU, goInt]
theorem y_cutNil {e : TypeId} {z : Value} {sz by' : Nat} {k : IntKind} (hx : opv L x = some (sval (.slice none 0 0))) (hy : opv L y = some (sval (.int k 0))) (hU : Γ.E.P.underlying t = some (.slice e)) (hT : TI Γ.E.P e z sz by') : Yields n Γ M L ⟨dst, .slice t x none (some y) none, ty, pos, after, guard⟩ (sval (.slice none 0 0)) := by
  refine y_val fun a w hs => ?_
  have e1 : a.eval x = _ := hs.opv hx
  have e2 : a.eval y = _ := hs.opv hy
  have ht : ∀ v lo hi, (Instr.sliceAt t v lo hi none).run Γ.E.P w = (Instr.slice t v lo hi none).run Γ.E.P w := by
    intro v lo hi; simp [Instr.sliceAt, run_underlying hU]
  simp only [execOp, Sem.run_bind, e1, Option.map_none, Option.map_some, e2, ht]
  simp [Instr.slice, run_underlying hU, run_sizeOf hT.siz, Instr.sliceBounds, Instr.sliceBound, asIntOf]

theorem y_max {k : IntKind} {p q : Int} {at1 : Array TypeId} (hx : opv L x = some (sval (.int k p))) (hy : opv L y = some (sval (.int k q))) : Yields n Γ M L ⟨dst, .call { callee := .builtin .max, args := #[x, y], argTypes := at1 }, ty, pos, after, guard⟩ (sval (.int k (if q > p then q else p))) := by
  refine y_val fun a w hs => ?_
  have e1 : a.eval x = .int k p := hs.opv hx
  have e2 : a.eval y = .int k q := hs.opv hy
  simp [execOp, resolve, invoke, builtin, Builtin.max_, Builtin.max2, e1, e2]

/-- An array that stays, taken as a slice up to a place. -/
theorem y_sliceP {α : Type} {K : α → List Spec} {l : List α} {e : TypeId} {N sz : Nat} {hi : Option Operand} (j : Nat) (hx : opv L x = some (spts (l.flatMap K))) (hU : Γ.E.P.underlying t = some (.array N e)) (hZ : (Γ.E.P.info? e).map (·.size) = some sz) (_hK : ∀ x, (K x).length = sz) (hN : l.length = N)
    (hhi : (hi = none ∧ j = l.length) ∨ ∃ z k, hi = some z ∧ opv L z = some (sval (.int k (j : Int)))) (hj : j ≤ l.length) :
    Yields n Γ M L ⟨dst, .slice t x none hi none, ty, pos, after, guard⟩ (slc K (l.take j)) := fun a w hs Kc Q hKc => by
  obtain ⟨b, o0, us, hv, hc, hat⟩ := hs.opv hx
  have hb : (Instr.sliceBounds false N N (none : Option Value) (hi.map a.eval) none).run Γ.E.P w = .ok (0, j, N) w := by
    rcases hhi with ⟨rfl, rfl⟩ | ⟨z, k, rfl, hz⟩
    · simp [Instr.sliceBounds, hN]
    · have hz' : a.eval z = .int k j := hs.opv hz
      simp [Instr.sliceBounds, Instr.sliceBound, asIntOf, hz']; omega
  have hspl : l = l.take j ++ l.drop j := by rw [List.take_append_drop]
  rw [hspl, List.flatMap_append] at hc
  obtain ⟨u1, u2, rfl, hc1, hc2⟩ := hc.split
  have hlen : (l.take j).length = j := by simp; omega
  have : (execOp a.eval ⟨dst, .slice t x none hi none, ty, pos, after, guard⟩).run Γ.E.P w = .ok (.value (.slice (some (if N = 0 then ⟨b, o0, none⟩ else ⟨b, o0 + 0 * sz, none⟩)) j N)) w := by
    simp only [execOp, Sem.run_bind, Option.map_none]
    simp [Instr.sliceAt, run_underlying hU, run_sizeOf hZ, hb, hv, Instr.sureAddr, Addr.add_lit]
  unfold Oper.wp
  rw [this]
  refine hKc _ w (Below.refl _ _) ⟨some (if N = 0 then ⟨b, o0, none⟩ else ⟨b, o0 + 0 * sz, none⟩), N, u1, by rw [hlen], hc1, ?_, by rw [hlen]; omega, ?_⟩
  · split <;> rfl
  · have ha := hat.left
    split
    · exact ha
    · rw [Nat.zero_mul, Nat.add_zero]; exact ha
end
end Go.Vx
