/- The rules of slices that are made, appended to and given up, of calls and of a call's end, for the assertions of Va. Conditions: each rule states what it asks. -/
import Derived.Test.YtofnjbcbkfbomaaDoorVd
namespace Go.Vx
open Go Go.RowKit

section
variable {n : Nat} {Γ : Ctx} {M : Owns} {L : List (Nat × Spec)} {dst : Option Nat} {ty : TypeId} {pos : String} {after : Array Edge} {guard : Option (Nat × Bool)}
variable {t : TypeId} {d : TypeDesc} {x y : Operand} {ops : Array Oper} {Q : Exit → Act → World → Prop} {rest : List Oper} {o : Oper}

theorem cells_madeZ (z : Array Value) (k : Nat) : (Array.range k).map (fun i => z[i % z.size]!) = madeCells z k := rfl

/-- A literal of a slice, in a new block that stays as it is. -/
theorem y_buildL {α : Type} {K : α → List Spec} {l : List α} {ps : List (Nat × Operand)} {N sz : Nat} {e : TypeId} {z : Value} {i : TypeInfo} {zl : List Value} {m : List Spec} (hU : Γ.E.P.underlying t = some (.slice e)) (hi : Γ.E.P.info? e = some i) (hz : i.zero = some z) (hZ : (Γ.E.P.info? e).map (·.size) = some sz)
    (hN : Nat.ble (N * sz) 16777216 = true) (hzl : (Array.range (N * sz)).map (fun k => (if N * sz = 0 then #[] else z.cells)[k % (if N * sz = 0 then #[] else z.cells).size]!) = zl.toArray) (hone : ∀ u ∈ zl, u.oneCell' = true)
    (hp : Parts L (fun i => some (i * sz, sz)) ps (zl.map fun u => sval u) m) (hl : l.length = N) (hm : m = l.flatMap K) : Yields n Γ M L ⟨dst, .buildSlice t N ps.toArray, ty, pos, after, guard⟩ (slc K l) := fun a w hs Kc Q hK => by
  subst hm
  obtain ⟨us, h1, h2⟩ := hp.fill hs (cells_zeros hone)
  have hN := Nat.le_of_ble_eq_true hN
  have : (execOp a.eval ⟨dst, .buildSlice t N ps.toArray, ty, pos, after, guard⟩).run Γ.E.P w = .ok (.value (.slice (some ⟨w.heap.size, 0, none⟩) N N)) (w.alloc (.cells us.toArray e)) := by
    simp only [execOp, Instr.buildSlice, Sem.run_bind, Sem.run_pure, Result.andThen_ok, run_underlying hU, run_sizeOf hZ]
    rw [if_neg (by omega)]
    simp only [List.map_toArray, List.toList_toArray] at h1 ⊢
    by_cases h0 : N * sz = 0
    · simp only [if_pos h0] at hzl ⊢
      simp only [Sem.run_bind, Sem.run_pure, Result.andThen_ok, hzl, h1]
      simp [newRow]
    · simp only [if_neg h0] at hzl ⊢
      simp only [Sem.run_bind, Sem.run_pure, Result.andThen_ok, run_zeroValue hi hz, hzl, h1]
      simp [newRow]
  unfold Oper.wp
  rw [this]
  have g : Grow w (w.alloc (.cells us.toArray e)) := (Below.refl _ w).alloc (Nat.le_refl _) _
  refine hK _ _ g ⟨some ⟨w.heap.size, 0, none⟩, N, us, by rw [hl], h2.keep (g.kp _), rfl, by omega, fun _ => hs.fresh _ (Nat.le_refl _), fun j u hj => ?_⟩
  simp only [World.cell?, heap_alloc_new, Nat.zero_add]
  simpa using hj

/-- A slice that is nil, and that will be appended to. -/
theorem Run.nilRow {X : Act → World → Prop} (key : Nat) (e : TypeId) (sz : Nat) (h : Run n Γ ((key, .row (.slice none 0 0) e sz 0 []) :: M) L X) : Run n Γ M L X := fun a w hs =>
  h a w (hs.fresh_own (Below.refl _ _) (fun k hk => by simp [Ent.block, Value.ownBlock] at hk) (fun F _ => ⟨[], World.ownsRow_nil w 0 e sz, trivial⟩))

/-- A literal of a slice that will be written or appended to. -/
theorem Run.buildRow {ps : List (Nat × Operand)} {N sz dn : Nat} {e : TypeId} {z : Value} {i : TypeInfo} {zl : List Value} {m : List Spec} (hU : Γ.E.P.underlying t = some (.slice e)) (hi : Γ.E.P.info? e = some i) (hz : i.zero = some z) (hZ : (Γ.E.P.info? e).map (·.size) = some sz)
    (hN : Nat.ble (N * sz) 16777216 = true) (hN' : Nat.ble N 16777216 = true) (hzl : (Array.range (N * sz)).map (fun k => (if N * sz = 0 then #[] else z.cells)[k % (if N * sz = 0 then #[] else z.cells).size]!) = zl.toArray) (hone : ∀ u ∈ zl, u.oneCell' = true)
    (hp : Parts L (fun i => some (i * sz, sz)) ps (zl.map fun u => sval u) m) (hml : m.length = N * sz) (hd : Nat.ble (dn + 1) n = true)
    (h : ∀ v, Run n Γ ((dn, .row v e sz N m) :: M) ((dn, sval v) :: L) (wpList Γ.E.P ops Q rest)) : Run n Γ M L (wpList Γ.E.P ops Q (⟨some dn, .buildSlice t N ps.toArray, ty, pos, after, none⟩ :: rest)) := fun a w hs =>
  wpList_of_wp (guard_wanted rfl) (by
    obtain ⟨us, h1, h2⟩ := hp.fill hs (cells_zeros hone)
    have hN := Nat.le_of_ble_eq_true hN
    have hN' := Nat.le_of_ble_eq_true hN'
    have hlu := h2.length
    have : (execOp a.eval ⟨some dn, .buildSlice t N ps.toArray, ty, pos, after, none⟩).run Γ.E.P w = .ok (.value (.slice (some ⟨w.heap.size, 0, none⟩) N N)) (w.alloc (.cells us.toArray e)) := by
      simp only [execOp, Instr.buildSlice, Sem.run_bind, Sem.run_pure, Result.andThen_ok, run_underlying hU, run_sizeOf hZ]
      rw [if_neg (by omega)]
      simp only [List.map_toArray, List.toList_toArray] at h1 ⊢
      by_cases h0 : N * sz = 0
      · simp only [if_pos h0] at hzl ⊢
        simp only [Sem.run_bind, Sem.run_pure, Result.andThen_ok, hzl, h1]
        simp [newRow]
      · simp only [if_neg h0] at hzl ⊢
        simp only [Sem.run_bind, Sem.run_pure, Result.andThen_ok, run_zeroValue hi hz, hzl, h1]
        simp [newRow]
    unfold Oper.wp
    rw [this]
    have g : Grow w (w.alloc (.cells us.toArray e)) := (Below.refl _ w).alloc (Nat.le_refl _) _
    refine h (.slice (some ⟨w.heap.size, 0, none⟩) N N) _ _ ((hs.fresh_own g (t := dn) (e := .row (.slice (some ⟨w.heap.size, 0, none⟩) N N) e sz N m) (fun k hk => ?_) (fun F hF => ⟨us, ⟨by omega, .inr ⟨w.heap.size, N, us.toArray, rfl, Nat.zero_le _, by rw [heap_alloc_new], Nat.le_refl _, by unfold maxLen; omega, by simp; omega, by simp; rw [List.take_of_length_le (by omega)]⟩⟩, h2.keep hF⟩)).put (Nat.le_of_ble_eq_true hd) rfl)
    simp [Ent.block, Value.ownBlock] at hk
    subst hk
    simp)

theorem madeCells_rep (z : Array Value) (k : Nat) : (madeCells z (k * z.size)).toList = (List.replicate k z.toList).flatten := by
  unfold madeCells
  simp only [Array.toList_map, Array.toList_range]
  induction k with
  | zero => simp
  | succ k ih =>
    rw [Nat.succ_mul, List.range_add, List.map_append, ih, List.replicate_succ', List.flatten_append]
    congr 1
    simp only [List.map_map, List.flatten_cons, List.flatten_nil, List.append_nil]
    apply List.ext_getElem
    · simp
    · intro i h1 h2
      simp at h1 h2 ⊢
      rw [Nat.mod_eq_of_lt h2, getElem!_pos z i h2]

/-- 'make([]T, n)': a row of zeros of the call's own. -/
theorem Run.make {α : Type} {K : α → List Spec} {N sz dn : Nat} {e : TypeId} {z : Value} {i : TypeInfo} {k1 k2 : IntKind} {p q : Int} (z0 : α) (hx : opv L x = some (sval (.int k1 p))) (hy : opv L y = some (sval (.int k2 q))) (hp : p = (N : Int)) (hq : q = (N : Int))
    (hU : Γ.E.P.underlying t = some (.slice e)) (hi : Γ.E.P.info? e = some i) (hz : i.zero = some z) (hsz : i.size = sz) (hone : ∀ u ∈ z.cells.toList, u.oneCell' = true) (hzs : z.cells.size = sz) (hK : K z0 = z.cells.toList.map fun u => sval u)
    (hb : i.bytes * N ≤ 281474976710656) (hm : N ≤ maxLen) (hd : Nat.ble (dn + 1) n = true)
    (h : ∀ v, Run n Γ ((dn, .row v e sz (List.replicate N z0).length ((List.replicate N z0).flatMap K)) :: M) ((dn, sval v) :: L) (wpList Γ.E.P ops Q rest)) : Run n Γ M L (wpList Γ.E.P ops Q (⟨some dn, .makeSlice t x y, ty, pos, after, none⟩ :: rest)) := fun a w hs =>
  wpList_of_wp (guard_wanted rfl) (by
    have hvx : a.eval x = .int k1 p := hs.opv hx
    have hvy : a.eval y = .int k2 q := hs.opv hy
    subst hp hq
    obtain ⟨w', hrun, hown, hg⟩ := run_make_full (P := Γ.E.P) (w := w) 0 t e i z sz hU hi hz hsz k1 k2 N hb hm (Nat.zero_le _)
    have : (execOp a.eval ⟨some dn, .makeSlice t x y, ty, pos, after, none⟩).run Γ.E.P w = .ok (.value (.slice (some ⟨w.heap.size, 0, none⟩) N N)) w' := by
      simp [execOp, hvx, hvy, hrun]
    unfold Oper.wp
    rw [this]
    have g : Grow w w' := ⟨hg.os, hg.tape, hg.output, hg.size, fun k hk => hg.block k hk (by simp)⟩
    have hc : ∀ F, Cells F w' ((List.replicate N z0).flatMap K) (madeCells z.cells (N * sz)).toList := fun F => by
      subst hzs
      rw [madeCells_rep]
      clear hown hrun h hb hm this hvx hvy hx hy
      induction N with
      | zero => trivial
      | succ N ih =>
        rw [List.replicate_succ, List.replicate_succ, List.flatMap_cons, List.flatten_cons, hK]
        exact (cells_zeros hone).append ih
    refine h _ _ _ ((hs.fresh_own g (t := dn) (e := .row (.slice (some ⟨w.heap.size, 0, none⟩) N N) e sz (List.replicate N z0).length _) (fun k hk => ?_) (fun F hF => ⟨_, by rw [List.length_replicate]; exact hown, hc F⟩)).put (Nat.le_of_ble_eq_true hd) rfl)
    simp [Ent.block, Value.ownBlock] at hk
    subst hk
    exact ⟨Nat.le_refl _, ownBlock_block hown rfl⟩)

/-- 'append' to a row of the call's own, out of a slice that stays. -/
theorem Run.append {α β : Type} {K : α → List Spec} {l : List α} {K' : β → List Spec} {l' : List β} {dn sz bytes : Nat} {e : TypeId} {z : Value} {i : TypeInfo} {v : Value} {m : List Spec} {N : Nat} (key : Nat) (hx : opv L x = some (sval v)) (hm : lookM M key = some (.row v e sz N m)) (hy : opv L y = some (slc K' l'))
    (hU : Γ.E.P.underlying t = some (.slice e)) (hi : Γ.E.P.info? e = some i) (hz : i.zero = some z) (hsz : i.size = sz) (hby : i.bytes = bytes) (hzs : z.cells.size = sz) (hpos : 0 < sz) (hK' : ∀ x, (K' x).length = sz)
    (hmax : (N + l'.length) * (bytes + 1) ≤ 140737488355328) (hd : Nat.ble (dn + 1) n = true) (hl : m ++ l'.flatMap K' = l.flatMap K) (hlen : N + l'.length = l.length)
    (h : ∀ v', Run n Γ (setM M key (.row v' e sz l.length (l.flatMap K))) ((dn, sval v') :: L) (wpList Γ.E.P ops Q rest)) :
    Run n Γ M L (wpList Γ.E.P ops Q (⟨some dn, .call { callee := .builtin .append, args := #[x, y], argTypes := #[t, t] }, ty, pos, after, none⟩ :: rest)) := fun a w hs =>
  wpList_of_wp (guard_wanted rfl) (by
    have hvx : a.eval x = v := hs.opv hx
    obtain ⟨ao, c, us, hvy, hc, hao⟩ := hs.opv hy
    obtain ⟨us0, hown, hc0⟩ : (Ent.row v e sz N m).ok (FM Γ.F0 M) w := by
      obtain ⟨M1, M2, k0, rfl, -, -⟩ := lookM_split hm
      exact (hs.own (k0, Ent.row v e sz N m) (by simp)).1
    have hlu : us.length = l'.length * sz := by
      rw [hc.length, List.length_flatMap, List.map_congr_left (g := fun _ => sz) (fun x _ => hK' x), List.map_const', List.sum_replicate_nat]
    rw [← hl, ← hlen] at h
    have hfin : ∀ v' w', w'.ownsRow 0 e sz v' (N + l'.length) (us0 ++ us) → w.grownBy w' v.ownBlock → (∀ k, v'.ownBlock = some k → v.ownBlock = some k ∨ w.heap.size ≤ k) →
        wpList Γ.E.P ops Q rest (a.put (some dn) v') w' := fun v' w' h1 h2 h3 =>
      h v' _ _ ((hs.grown hm h2 h3 (fun F hF => ⟨_, h1, (hc0.append hc).keep hF⟩)).put (Nat.le_of_ble_eq_true hd) rfl)
    cases ao with
    | none =>
      obtain ⟨rfl, rfl⟩ := hao
      have hnil : us = [] := List.eq_nil_of_length_eq_zero (by simpa using hlu)
      subst hnil
      have hrun := run_append_owned_none (P := Γ.E.P) (w := w) 0 t ty e i sz hU hi v N us0 hown
      have : (execOp a.eval ⟨some dn, .call { callee := .builtin .append, args := #[x, y], argTypes := #[t, t] }, ty, pos, after, none⟩).run Γ.E.P w = .ok (.value v) w := by
        simp only [List.length_nil] at hvy
        simp [execOp, resolve, invoke, builtin, hvx, hvy, hrun]
      unfold Oper.wp
      rw [this]
      exact hfin v w (by simpa using hown) (World.grownBy.refl _ _) (fun k hk => .inl hk)
    | some p =>
      obtain ⟨b, o0, sp⟩ := p
      obtain ⟨hsp, hlc, hat⟩ := hao
      simp only at hsp
      subst hsp
      have hb1 : (N + l'.length) * bytes ≤ 140737488355328 := Nat.le_trans (Nat.mul_le_mul_left _ (Nat.le_succ _)) hmax
      have hb2 : N + l'.length ≤ maxLen := by
        have : (N + l'.length) * 1 ≤ (N + l'.length) * (bytes + 1) := Nat.mul_le_mul_left _ (Nat.le_add_left _ _)
        unfold maxLen; omega
      obtain ⟨v', w', hrun, h1, h2, h3, h4⟩ : ∃ v' w', (Builtin.append_ #[t, t] ty #[v, .slice (some ⟨b, o0, none⟩) l'.length c]).run Γ.E.P w = .ok v' w' ∧ w'.ownsRow 0 e sz v' (N + l'.length) (us0 ++ us) ∧ w.grownBy w' v.ownBlock ∧ True ∧ (∀ k, v'.ownBlock = some k → v.ownBlock = some k ∨ w.heap.size ≤ k) := by
        by_cases hv0 : v = .slice none 0 0
        · have hown0 : w.ownsRow w.heap.size e sz v N us0 := by
            obtain ⟨q1, q2⟩ := hown
            refine ⟨q1, .inl ⟨hv0, ?_⟩⟩
            rcases q2 with q2 | ⟨g, cap, cur, r1, _⟩
            · exact q2.2
            · rw [hv0] at r1; cases r1
          obtain ⟨v', w', hrun, h1, h2, h3⟩ := run_append_own (P := Γ.E.P) (w := w) w.heap.size t ty e i z sz bytes hU hi hz hsz hby hzs hpos v N us0 hown0 ⟨b, o0, none⟩ l'.length c us hlu (fun j u hj => by rw [Addr.add_lit]; exact hat.2 j u hj) hc.one hb2 hb1 (Nat.le_refl _)
          refine ⟨v', w', hrun, ?_, h2, trivial, fun k hk => .inr (h1.lt k hk).1⟩
          obtain ⟨q1, q2⟩ := h1
          exact ⟨q1, q2.imp id fun ⟨g, cap, cur, r1, _, r2⟩ => ⟨g, cap, cur, r1, Nat.zero_le _, r2⟩⟩
        · obtain ⟨g, cap, cur, r1, r2, r3, r4, r5, r6, r7⟩ : ∃ g cap cur, v = .slice (some ⟨g, 0, none⟩) N cap ∧ 0 ≤ g ∧ w.heap[g]? = some (.cells cur e (0, 0)) ∧ N ≤ cap ∧ cap ≤ maxLen ∧ cur.size = cap * sz ∧ cur.toList.take (N * sz) = us0 := by
            rcases hown.2 with q2 | q2
            · exact (hv0 q2.1).elim
            · exact q2
          obtain ⟨v', w', hrun, h1, h2, h3⟩ := run_append_own (P := Γ.E.P) (w := w) 0 t ty e i z sz bytes hU hi hz hsz hby hzs hpos v N us0 hown ⟨b, o0, none⟩ l'.length c us hlu (fun j u hj => by rw [Addr.add_lit]; exact hat.2 j u hj) hc.one hb2 hb1 (Nat.zero_le _)
          refine ⟨v', w', hrun, h1, h2, trivial, fun k hk => ?_⟩
          by_cases hfit : N + l'.length ≤ cap
          · left
            obtain ⟨w2, hr2, s1, s2⟩ := run_append_fits (P := Γ.E.P) (w := w) 0 t ty e i sz hU hi hsz g N cap us0 (by rw [← r1]; exact hown) ⟨b, o0, none⟩ l'.length c us hlu (fun j u hj => by rw [Addr.add_lit]; exact hat.2 j u hj) hc.one hfit
            rw [r1] at hrun
            rw [hr2] at hrun
            cases hrun
            rw [r1]; exact hk
          · right
            subst hsz hby
            have hr := run_append_grow (P := Γ.E.P) (w := w) t ty e i z hU hi hz ⟨g, 0, none⟩ N cap us0 hown.1 (hown.cells (g := g) (by rw [r1]; rfl)) ⟨b, o0, none⟩ l'.length c us hlu (fun j u hj => by rw [Addr.add_lit]; exact hat.2 j u hj) (by omega) (by unfold maxLen at hb2; omega) (growslice_fits (by omega) hb1)
            rw [r1, hr] at hrun
            cases hrun
            simp [Value.ownBlock] at hk
            omega
      have : (execOp a.eval ⟨some dn, .call { callee := .builtin .append, args := #[x, y], argTypes := #[t, t] }, ty, pos, after, none⟩).run Γ.E.P w = .ok (.value v') w' := by
        simp [execOp, resolve, invoke, builtin, hvx, hvy, hrun]
      unfold Oper.wp
      rw [this]
      exact hfin v' w' h1 h2 h4)
end
end Go.Vx
