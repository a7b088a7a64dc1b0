/- Contracts of functions that hand out blocks, and of functions that are lent blocks and turn them: closures with what they have captured, makers of rows. Conditions: each rule states what it asks. -/
import Derived.Test.YtofnjbcbkfbomaaDoorV1
import Derived.Lib.SliceRun
namespace Go.Vx
open Go Go.RowKit

/-- The blocks of F that are none of these. -/
def FE (F : Foot) (l : List Ent) : Foot := fun k => F k ∧ ∀ e ∈ l, e.block ≠ some k
theorem FM_FE (F : Foot) (M : Owns) : FM F M = FE F (M.map (·.2)) := by
  funext k
  simp only [FM, FE, List.mem_map, eq_iff_iff]
  exact and_congr_right fun _ => ⟨fun h e ⟨x, hx, he⟩ => he ▸ h x hx, fun h x hx => h _ ⟨x, hx, rfl⟩⟩
theorem FE_append (F : Foot) (l m : List Ent) : FE F (l ++ m) = FE (FE F m) l := by
  funext k
  simp only [FE, List.mem_append, eq_iff_iff]
  exact ⟨fun h => ⟨⟨h.1, fun e he => h.2 e (.inr he)⟩, fun e he => h.2 e (.inl he)⟩, fun h => ⟨h.1.1, fun e he => he.elim (h.2 e) (h.1.2 e)⟩⟩
theorem FE_nil (F : Foot) : FE F [] = F := by funext k; simp [FE]
theorem FE_le (F : Foot) (l : List Ent) {k : Nat} (h : FE F l k) : F k := h.1

/-- The entries' blocks are apart. -/
def Apart (l : List Ent) : Prop := l.Pairwise fun x y => ∀ k, x.block = some k → y.block ≠ some k
/-- What is owned holds, and its blocks lie where they may. -/
def Have (F : Foot) (lo : Nat → Prop) (l : List Ent) (w : World) : Prop := (∀ e ∈ l, e.ok (FE F l) w ∧ ∀ k, e.block = some k → k < w.heap.size ∧ lo k) ∧ Apart l
def blocks (l : List Ent) : List Nat := l.filterMap Ent.block
theorem mem_blocks {l : List Ent} {k : Nat} : k ∈ blocks l ↔ ∃ e ∈ l, e.block = some k := by simp [blocks]

/-- A contract with blocks that come in and blocks that go out: what goes out may be told by ghosts. -/
def FnX (E : Env) (f : FuncId) (As : List Spec) (Ni : List Ent) {β : Type} (S : β → Spec) (No : β → List Ent) : Prop :=
  ∀ (F : Foot) (w : World) (args : List Value), E.G w → E.gn ≤ w.heap.size → (∀ k, k < E.gn ∨ w.heap.size ≤ k ∨ k ∈ blocks Ni → F k) → Have F (fun k => E.gn ≤ k) Ni w → Holds (FE F Ni) w As args →
    Calls E.P f args.toArray w fun e w' => ∃ v b, e = .returned v ∧ Kept (blocks Ni) w w' ∧ (S b).holds (FE F (No b)) w' v ∧ Have F (fun k => k ∈ blocks Ni ∨ w.heap.size ≤ k) (No b) w'

/-- How such a call ends. -/
def Ctx.postX (Γ : Ctx) {β : Type} (S : β → Spec) (No : β → List Ent) (e : Ending) (w' : World) : Prop :=
  ∃ v b, e = .returned v ∧ Kept Γ.C Γ.w0 w' ∧ (S b).holds (FE Γ.F0 (No b)) w' v ∧ Have Γ.F0 (fun k => k ∈ Γ.C ∨ Γ.w0.heap.size ≤ k) (No b) w'

/-- Entries by their keys, and what is left. -/
def takes : Owns → List Nat → Option (List Ent × Owns)
  | M, [] => some ([], M)
  | M, k :: ks => match lookM M k with
    | none => none
    | some e => match takes (delM M k) ks with
      | none => none
      | some (l, R) => some (e :: l, R)

theorem perm_split {M1 M2 : Owns} {x : Nat × Ent} : (M1 ++ x :: M2).Perm (x :: (M1 ++ M2)) := List.perm_middle
theorem takes_perm : ∀ {ks : List Nat} {M : Owns} {l : List Ent} {R : Owns}, takes M ks = some (l, R) → ∃ Z : Owns, Z.map (·.2) = l ∧ M.Perm (Z ++ R)
  | [], M, l, R, h => by cases h; exact ⟨[], rfl, List.Perm.refl _⟩
  | k :: ks, M, l, R, h => by
    unfold takes at h
    cases hm : lookM M k with
    | none => rw [hm] at h; cases h
    | some e =>
      rw [hm] at h
      simp only at h
      cases ht : takes (delM M k) ks with
      | none => rw [ht] at h; cases h
      | some p =>
        obtain ⟨l', R'⟩ := p
        rw [ht] at h
        cases h
        obtain ⟨Z, hz, hp⟩ := takes_perm ht
        obtain ⟨M1, M2, k0, rfl, -, hdel⟩ := lookM_split hm
        rw [hdel] at hp
        exact ⟨(k0, e) :: Z, by simp [hz], perm_split.trans (hp.cons _)⟩

section
variable {n : Nat} {Γ : Ctx} {M : Owns} {L : List (Nat × Spec)} {dst : Option Nat} {ty : TypeId} {pos : String} {after : Array Edge} {guard : Option (Nat × Bool)}
variable {t : TypeId} {d : TypeDesc} {x y : Operand} {ops : Array Oper} {Q : Exit → Act → World → Prop} {rest : List Oper} {o : Oper}

theorem FM_perm {F : Foot} {M M' : Owns} (h : M.Perm M') : FM F M = FM F M' := by
  funext k
  simp only [FM, eq_iff_iff]
  exact and_congr_right fun _ => ⟨fun hh x hx => hh x (h.mem_iff.2 hx), fun hh x hx => hh x (h.mem_iff.1 hx)⟩
/-- The order of what is owned is nothing. -/
theorem St.perm {M' : Owns} {a : Act} {w : World} (h : St n Γ M L a w) (hp : M.Perm M') : St n Γ M' L a w :=
  h.turn (fun _ _ => rfl) h.kept (fun k hk _ => ⟨by rw [← FM_perm hp]; exact hk, rfl⟩) (fun e he => by rw [← FM_perm hp]; exact h.own e (hp.mem_iff.2 he))
    (hp.pairwise h.dis (fun hxy k hk hy => hxy k hy hk))

theorem St.have_ {a : Act} {w : World} {l : List Ent} {R : Owns} {ks : List Nat} (h : St n Γ M L a w) (ht : takes M ks = some (l, R)) : Have (FM Γ.F0 R) (fun k => Γ.w0.heap.size ≤ k ∨ k ∈ Γ.C) l w ∧ FE (FM Γ.F0 R) l = FM Γ.F0 M ∧
    (∀ e ∈ R, e.2.ok (FM Γ.F0 M) w ∧ ∀ k, e.2.block = some k → k < w.heap.size ∧ (Γ.w0.heap.size ≤ k ∨ k ∈ Γ.C)) ∧ (R.Pairwise fun x y => ∀ k, x.2.block = some k → y.2.block ≠ some k) ∧ (∀ x ∈ l, ∀ y ∈ R, ∀ k, x.block = some k → y.2.block ≠ some k) := by
  obtain ⟨Z, hz, hp⟩ := takes_perm ht
  have h' := h.perm hp
  have hFE : FE (FM Γ.F0 R) l = FM Γ.F0 M := by rw [FM_perm hp, FM_FE, FM_FE, List.map_append, FE_append, hz]
  have hd := h'.dis
  rw [List.pairwise_append] at hd
  refine ⟨⟨fun e he => ?_, ?_⟩, hFE, fun e he => ?_, hd.2.1, fun x hx y hy k hk => ?_⟩
  · rw [← hz, List.mem_map] at he
    obtain ⟨x, hx, rfl⟩ := he
    rw [hFE, FM_perm hp]
    exact h'.own x (by simp [hx])
  · rw [← hz, Apart, List.pairwise_map]; exact hd.1
  · rw [FM_perm hp]; exact h'.own e (by simp [he])
  · rw [← hz, List.mem_map] at hx
    obtain ⟨x, hx, rfl⟩ := hx
    exact hd.2.2 x hx y hy k hk

theorem St.lends {a : Act} {w : World} {l : List Ent} {R : Owns} {ks : List Nat} (hs : St n Γ M L a w) (ht : takes M ks = some (l, R)) : ∀ k, k < Γ.E.gn ∨ w.heap.size ≤ k ∨ k ∈ blocks l → FM Γ.F0 R k := fun k hk => by
  obtain ⟨h1, h2, h3, h4, h5⟩ := hs.have_ ht
  have old : k < Γ.E.gn ∨ w.heap.size ≤ k → FM Γ.F0 R k := fun hk => by
    have := hs.fresh' k hk
    rw [← h2] at this
    exact this.1
  rcases hk with hk | hk | hk
  · exact old (.inl hk)
  · exact old (.inr hk)
  · obtain ⟨e, he, hek⟩ := mem_blocks.1 hk
    refine ⟨?_, fun y hy hyk => h5 e he y hy k hek hyk⟩
    rcases ((h1.1 e he).2 k hek).2 with h | h
    · exact hs.good.fresh k (.inr h)
    · exact hs.good.cF k h

/-- The state behind a call that has turned what it was lent. -/
theorem St.behind {a : Act} {w w' : World} {Ni No : List Ent} {R : Owns} {ks ks' : List Nat} (h : St n Γ M L a w) (ht : takes M ks = some (Ni, R)) (hk : Kept (blocks Ni) w w')
    (hh : Have (FM Γ.F0 R) (fun k => k ∈ blocks Ni ∨ w.heap.size ≤ k) No w') (hlen : ks'.length = No.length) : St n Γ (ks'.zip No ++ R) L a w' ∧ FM Γ.F0 (ks'.zip No ++ R) = FE (FM Γ.F0 R) No := by
  obtain ⟨h1, h2, h3, h4, h5⟩ := h.have_ ht
  have hmap : (ks'.zip No).map (·.2) = No := List.map_snd_zip (by omega)
  have hFM : FM Γ.F0 (ks'.zip No ++ R) = FE (FM Γ.F0 R) No := by rw [FM_FE, List.map_append, FE_append, hmap, ← FM_FE]
  have hb : ∀ k, k ∈ blocks Ni → k < w.heap.size ∧ (Γ.w0.heap.size ≤ k ∨ k ∈ Γ.C) := fun k hk => by
    obtain ⟨e, he, hek⟩ := mem_blocks.1 hk
    exact (h1.1 e he).2 k hek
  have hgn : ∀ k, k ∈ blocks Ni → Γ.E.gn ≤ k := fun k hk => by
    rcases (hb k hk).2 with h | h'
    · exact Nat.le_trans (by assumption : St n Γ M L a w).good.gn h
    · exact (by assumption : St n Γ M L a w).good.gC k h'
  have hkp : Kp (FM Γ.F0 M) w (FM Γ.F0 (ks'.zip No ++ R)) w' := fun k hF hlt => by
    rw [← h2] at hF
    have hni : k ∉ blocks Ni := fun hk' => by
      obtain ⟨e, he, hek⟩ := mem_blocks.1 hk'
      exact hF.2 e he hek
    refine ⟨?_, hk.block k hlt hni⟩
    rw [hFM]
    refine ⟨hF.1, fun e he hek => ?_⟩
    rcases ((hh.1 e he).2 k hek).2 with hq | hq
    · exact hni hq
    · omega
  refine ⟨h.turn (fun k hk' => hk.block k (Nat.lt_of_lt_of_le hk' h.gnle) fun hq => ?_) ⟨hk.os.trans h.kept.os, hk.tape.trans h.kept.tape, hk.output.trans h.kept.output, Nat.le_trans h.kept.size hk.size, fun k hlt hC => ?_⟩ hkp ?_ ?_, hFM⟩
  · have := hgn k hq; omega
  · rw [hk.block k (Nat.lt_of_lt_of_le hlt h.kept.size) fun hq => ?_]
    · exact h.kept.block k hlt hC
    · rcases (hb k hq).2 with h' | h'
      · omega
      · exact hC h'
  · intro e he
    rcases List.mem_append.1 he with he | he
    · have hm : e.2 ∈ No := by rw [← hmap]; exact List.mem_map_of_mem he
      rw [hFM]
      refine ⟨(hh.1 _ hm).1, fun k hek => ?_⟩
      obtain ⟨q1, q2⟩ := (hh.1 _ hm).2 k hek
      refine ⟨q1, ?_⟩
      rcases q2 with q2 | q2
      · exact (hb k q2).2
      · exact .inl (Nat.le_trans h.kept.size q2)
    · obtain ⟨o1, o2⟩ := h3 e he
      refine ⟨Ent.keep o1 hkp fun k hek => hk.block k (o2 k hek).1 fun hq => ?_, fun k hek => ⟨Nat.lt_of_lt_of_le (o2 k hek).1 hk.size, (o2 k hek).2⟩⟩
      obtain ⟨x, hx, hxk⟩ := mem_blocks.1 hq
      exact h5 x hx e he k hxk hek
  · rw [List.pairwise_append]
    refine ⟨?_, h4, fun x hx y hy k hxk hyk => ?_⟩
    · have := hh.2
      rw [← hmap, Apart, List.pairwise_map] at this
      exact this
    · have hm : x.2 ∈ No := by rw [← hmap]; exact List.mem_map_of_mem hx
      rcases ((hh.1 _ hm).2 k hxk).2 with hq | hq
      · obtain ⟨z, hz, hzk⟩ := mem_blocks.1 hq
        exact h5 z hz y hy k hzk hyk
      · have := ((h3 y hy).2 k hyk).1; omega

theorem Have.weaken {F : Foot} {lo lo' : Nat → Prop} {l : List Ent} {w : World} (h : Have F lo l w) (hl : ∀ k, lo k → lo' k) : Have F lo' l w :=
  ⟨fun e he => ⟨(h.1 e he).1, fun k hk => ⟨((h.1 e he).2 k hk).1, hl k ((h.1 e he).2 k hk).2⟩⟩, h.2⟩

/-- The keys are nothing. -/
theorem St.rekey {a : Act} {w : World} {Z R : Owns} {ks : List Nat} (h : St n Γ (Z ++ R) L a w) (hl : ks.length = Z.length) : St n Γ (ks.zip (Z.map (·.2)) ++ R) L a w := by
  have hmap : (ks.zip (Z.map (·.2))).map (·.2) = Z.map (·.2) := List.map_snd_zip (by simp [hl])
  have hFM : FM Γ.F0 (ks.zip (Z.map (·.2)) ++ R) = FM Γ.F0 (Z ++ R) := by rw [FM_FE, FM_FE, List.map_append, List.map_append, hmap]
  refine h.turn (fun _ _ => rfl) h.kept (fun k hk _ => ⟨by rw [hFM]; exact hk, rfl⟩) (fun e he => ?_) ?_
  · rw [hFM]
    have : e.2 ∈ (Z ++ R).map (·.2) := by
      rw [List.map_append, ← hmap, ← List.map_append]; exact List.mem_map_of_mem he
    obtain ⟨x, hx, hxe⟩ := List.mem_map.1 this
    rw [← hxe]
    exact h.own x hx
  · have h0 : ((Z ++ R).map (·.2)).Pairwise fun x y => ∀ k, x.block = some k → y.block ≠ some k := by rw [List.pairwise_map]; exact h.dis
    rw [List.map_append, ← hmap, ← List.map_append, List.pairwise_map] at h0
    exact h0
theorem takes_len : ∀ {ks : List Nat} {M : Owns} {l : List Ent} {R : Owns}, takes M ks = some (l, R) → l.length = ks.length
  | [], M, l, R, h => by cases h; rfl
  | k :: ks, M, l, R, h => by
    unfold takes at h
    cases hm : lookM M k with
    | none => rw [hm] at h; cases h
    | some e =>
      rw [hm] at h
      simp only at h
      cases ht : takes (delM M k) ks with
      | none => rw [ht] at h; cases h
      | some p =>
        obtain ⟨l', R'⟩ := p
        rw [ht] at h
        cases h
        rw [List.length_cons, List.length_cons, takes_len ht]
/-- Some of what is owned comes to the front. -/
theorem Run.reorder {l : List Ent} {R : Owns} {X : Act → World → Prop} (ks : List Nat) (ht : takes M ks = some (l, R)) (h : Run n Γ (ks.zip l ++ R) L X) : Run n Γ M L X := fun a w hs => by
  obtain ⟨Z, hz, hp⟩ := takes_perm ht
  have hl := takes_len ht
  have := (hs.perm hp).rekey (ks := ks) (by rw [← hl, ← hz, List.length_map])
  rw [hz] at this
  exact h a w this

/-- What such a call gives: the step, whatever more is said of the slots. -/
theorem step_callX {f : FuncId} {As : List Spec} {args : List Value} {Ni : List Ent} {R : Owns} {ks ks' : List Nat} {β : Type} {S : β → Spec} {No : β → List Ent} (C : FnX Γ.E f As Ni S No) (ht : takes M ks = some (Ni, R)) (hlen : ∀ b, ks'.length = (No b).length)
    {dn : Nat} (hd : o.dst = some dn) (hn : Nat.ble (dn + 1) n = true) {a : Act} {w : World} (hs : St n Γ M L a w) (hrun : (execOp a.eval o).run Γ.E.P w = .ok (.enter f args.toArray) w) (hargs : Holds (FM Γ.F0 M) w As args)
    {K : Act → World → Prop} (hK : ∀ b a' w', St n Γ (ks'.zip (No b) ++ R) ((dn, S b) :: L) a' w' → K a' w') : o.wp Γ.E.P a w K Q := by
  obtain ⟨h1, h2, h3, h4, h5⟩ := hs.have_ ht
  unfold Oper.wp
  rw [hrun, Oper.upon_enter]
  have hfr := hs.lends ht
  refine Calls.mono (C (FM Γ.F0 R) w args hs.glob hs.gnle hfr (h1.weaken fun k hk => ?_) (by rw [h2]; exact hargs)) fun e w' he => ?_
  · rcases hk with hk | hk
    · exact Nat.le_trans hs.good.gn hk
    · exact hs.good.gC k hk
  · obtain ⟨v, b, rfl, hk, hS, hh⟩ := he
    obtain ⟨hs', hFM⟩ := hs.behind ht hk hh (hlen b)
    rw [hd]
    exact hK b _ _ (hs'.put (Nat.le_of_ble_eq_true hn) (by rw [hFM]; exact hS))

/-- A call of a function, with blocks in and out. -/
theorem Run.callX {f : FuncId} {As : List Spec} {ats : Array TypeId} {xs : List Operand} {Ni : List Ent} {R : Owns} {β : Type} {S : β → Spec} {No : β → List Ent} {dn : Nat} (ks ks' : List Nat) (hf : Enters Γ.E.P f) (hargs : opvs L xs = some As) (C : FnX Γ.E f As Ni S No)
    (ht : takes M ks = some (Ni, R)) (hlen : ∀ b, ks'.length = (No b).length) (hn : Nat.ble (dn + 1) n = true)
    (h : ∀ b, Run n Γ (ks'.zip (No b) ++ R) ((dn, S b) :: L) (wpList Γ.E.P ops Q rest)) :
    Run n Γ M L (wpList Γ.E.P ops Q (⟨some dn, .call { callee := .value (.func f), args := xs.toArray, argTypes := ats }, ty, pos, after, none⟩ :: rest)) := fun a w hs =>
  wpList_of_wp (guard_wanted rfl) (step_callX C ht hlen rfl hn hs (call_run hf a w) (Args.slots hs (opvs_mapM hargs)) fun b a' w' hs' => h b a' w' hs')
/-- A call of a function value. -/
theorem Run.callXV {f : FuncId} {As Cs : List Spec} {ats : Array TypeId} {c : Nat} {xs : List Operand} {Ni : List Ent} {R : Owns} {β : Type} {S : β → Spec} {No : β → List Ent} {dn : Nat} (ks ks' : List Nat) (hf : Enters Γ.E.P f) (hc : opv L (.tmp c) = some (sfun f Cs)) (hargs : opvs L xs = some As) (C : FnX Γ.E f (As ++ Cs) Ni S No)
    (ht : takes M ks = some (Ni, R)) (hlen : ∀ b, ks'.length = (No b).length) (hn : Nat.ble (dn + 1) n = true)
    (h : ∀ b, Run n Γ (ks'.zip (No b) ++ R) ((dn, S b) :: L) (wpList Γ.E.P ops Q rest)) :
    Run n Γ M L (wpList Γ.E.P ops Q (⟨some dn, .call { callee := .value (.tmp c), args := xs.toArray, argTypes := ats }, ty, pos, after, none⟩ :: rest)) := fun a w hs =>
  wpList_of_wp (guard_wanted rfl) (by
    obtain ⟨us, hv, hh⟩ := hs.opv hc
    have hrun : (execOp a.eval ⟨some dn, .call { callee := .value (.tmp c), args := xs.toArray, argTypes := ats }, ty, pos, after, none⟩).run Γ.E.P w = .ok (.enter f (xs.map a.eval ++ us).toArray) w := by
      simp [execOp, resolve, hv, Deferred.ofValue, invoke, hf.run _ w]
    exact step_callX C ht hlen rfl hn hs hrun ((Args.slots hs (opvs_mapM hargs)).append hh) fun b a' w' hs' => h b a' w' hs')

/-! such a function's walk -/
theorem FnX.of {E : Env} {f : FuncId} {fn : Func} {c : Code} {As : List Spec} {Ni : List Ent} {β : Type} {S : β → Spec} {No : β → List Ent} {n : Nat} (ks : List Nat) (hl : ks.length = Ni.length) (hf : E.P.funcs[f]? = some fn) (hb : fn.body = some c) (hn : fn.ntmps = n) (hA : Nat.ble As.length n = true)
    (h : ∀ (w0 : World) (F0 : Foot), Run n ⟨E, w0, blocks Ni, F0, []⟩ (ks.zip Ni) (slots0 0 As) (c.wp E.P (bodyPost E.P fn (Ctx.postX ⟨E, w0, blocks Ni, F0, []⟩ S No)))) : FnX E f As Ni S No := by
  intro F w args hG hgn hF hh hargs
  have hlen := hargs.length
  have hA := Nat.le_of_ble_eq_true hA
  have hmap : (ks.zip Ni).map (·.2) = Ni := List.map_snd_zip (by omega)
  have hFM : FM F (ks.zip Ni) = FE F Ni := by rw [FM_FE, hmap]
  refine calls_of_wp hf hb (h w F _ _ ?_)
  refine { good := ⟨hgn, fun k hk => ?_, fun k hk => hF k (hk.imp id .inl), fun k hk => hF k (.inr (.inr hk))⟩, size := ?_, defs := rfl, glob := hG, kept := Kept.refl _ _, own := fun e he => ?_, dis := ?_, slots := ?_ }
  · obtain ⟨e, he, hek⟩ := mem_blocks.1 hk
    exact ((hh.1 e he).2 k hek).2
  · simp [hn, hlen]; omega
  · have hm : e.2 ∈ Ni := by rw [← hmap]; exact List.mem_map_of_mem he
    show e.2.ok (FM F (ks.zip Ni)) w ∧ _
    rw [hFM]
    exact ⟨(hh.1 _ hm).1, fun k hk => ⟨((hh.1 _ hm).2 k hk).1, .inr (mem_blocks.2 ⟨_, hm, hk⟩)⟩⟩
  · have := hh.2
    rw [← hmap, Apart, List.pairwise_map] at this
    exact this
  · intro t T hT
    obtain ⟨_, h2⟩ := look_slots0 As 0 t T hT
    obtain ⟨u, hu, hh⟩ := hargs.get h2
    simp only [Nat.sub_zero] at hu
    refine ⟨u, ?_, ?_⟩
    · rw [Array.getElem?_append_left (by simpa using (List.getElem?_eq_some_iff.1 hu).1)]
      simpa using hu
    · show T.holds (FM F (ks.zip Ni)) w u
      rw [hFM]; exact hh

/-- The results of a call. -/
def Outs (n : Nat) (Γ : Ctx) (M : Owns) (L : List (Nat × Spec)) (fn : Func) (S : Spec) : Prop := ∀ a w, St n Γ M L a w → ∃ v, (results fn a.tmps).run Γ.E.P w = .ok v w ∧ S.holds (FM Γ.F0 M) w v
theorem Outs.one {fn : Func} {r : ResultVar} {S : Spec} (hr : fn.results = #[r]) (h : Res Γ.E.P M L r S) : Outs n Γ M L fn S := fun a w hs => by
  obtain ⟨v, h1, h2⟩ := h.run hs
  exact ⟨v, by simp [results_eq, hr, h1], h2⟩
theorem Outs.two {fn : Func} {r1 r2 : ResultVar} {S1 S2 : Spec} (hr : fn.results = #[r1, r2]) (h1 : Res Γ.E.P M L r1 S1) (h2 : Res Γ.E.P M L r2 S2) : Outs n Γ M L fn (stup [S1, S2]) := fun a w hs => by
  obtain ⟨v1, g1, k1⟩ := h1.run hs
  obtain ⟨v2, g2, k2⟩ := h2.run hs
  exact ⟨.tuple #[v1, v2], by simp [results_eq, hr, g1, g2], [v1, v2], rfl, k1, k2, trivial⟩
theorem Outs.three {fn : Func} {r1 r2 r3 : ResultVar} {S1 S2 S3 : Spec} (hr : fn.results = #[r1, r2, r3]) (h1 : Res Γ.E.P M L r1 S1) (h2 : Res Γ.E.P M L r2 S2) (h3 : Res Γ.E.P M L r3 S3) : Outs n Γ M L fn (stup [S1, S2, S3]) := fun a w hs => by
  obtain ⟨v1, g1, k1⟩ := h1.run hs
  obtain ⟨v2, g2, k2⟩ := h2.run hs
  obtain ⟨v3, g3, k3⟩ := h3.run hs
  exact ⟨.tuple #[v1, v2, v3], by simp [results_eq, hr, g1, g2, g3], [v1, v2, v3], rfl, k1, k2, k3, trivial⟩
/-- No result. -/
theorem Outs.none {fn : Func} (hr : fn.results = #[]) : Outs n Γ M L fn sany := fun a w hs => ⟨.tuple #[], by simp [results_eq, hr], trivial⟩

theorem St.haveNo {a : Act} {w : World} {l : List Ent} {R : Owns} {ks : List Nat} (hs : St n Γ M L a w) (ht : takes M ks = some (l, R)) : Have Γ.F0 (fun k => k ∈ Γ.C ∨ Γ.w0.heap.size ≤ k) l w ∧ Kp (FM Γ.F0 M) w (FE Γ.F0 l) w := by
  obtain ⟨h1, h2, h3, h4, h5⟩ := hs.have_ ht
  have hkp : Kp (FM Γ.F0 M) w (FE Γ.F0 l) w := fun k hk _ => by
    rw [← h2] at hk
    exact ⟨⟨hk.1.1, hk.2⟩, rfl⟩
  refine ⟨⟨fun e he => ⟨?_, fun k hk => ⟨((h1.1 e he).2 k hk).1, ((h1.1 e he).2 k hk).2.symm⟩⟩, h1.2⟩, hkp⟩
  have := (h1.1 e he).1
  rw [h2] at this
  exact Ent.keep this hkp fun _ _ => rfl

/-- The end of such a call. -/
theorem Run.finX {fn : Func} {β : Type} {S : β → Spec} {No : β → List Ent} {S' : Spec} {R : Owns} (b : β) (ks : List Nat) (hD : Γ.ds = []) (ho : Outs n Γ M L fn S') (ht : takes M ks = some (No b, R)) (hc : ∀ F w v, S'.holds F w v → (S b).holds F w v) :
    Run n Γ M L (bodyPost Γ.E.P fn (Γ.postX S No) .ret) := fun a w hs => by
  obtain ⟨v, h1, h2⟩ := ho a w hs
  obtain ⟨h3, h4⟩ := hs.haveNo ht
  exact bodyPost_ret h1 (hs.defs.trans hD) ⟨v, b, rfl, hs.kept, hc _ _ _ (S'.keep h2 h4), h3⟩

/-- A function that hands out a row, taken as one that hands out what stays. -/
theorem FnX.frozen {E : Env} {f : FuncId} {As : List Spec} {α : Type} {K : α → List Spec} {e : TypeId} {sz : Nat} {l : List α} (h : FnX E f As [] (fun v : Value => sval v) (fun v => [Ent.rows K v e sz l])) : Fn E f As (slc K l) := fun F w args hG hgn hF hargs => by
  refine Calls.mono (h F w args hG hgn (fun k hk => hF k (hk.imp id fun h => h.elim id fun h => by simp [blocks] at h)) ⟨fun e he => by simp at he, List.Pairwise.nil⟩ (by rw [FE_nil]; exact hargs)) fun e' w' he => ?_
  obtain ⟨v, b, rfl, hk, hS, hh⟩ := he
  have hv : v = b := hS
  subst hv
  refine ⟨v, rfl, ⟨hk.os, hk.tape, hk.output, hk.size, fun k hlt => hk.block k hlt (by simp [blocks])⟩, ?_⟩
  obtain ⟨⟨us, hown, hc⟩, hb⟩ := hh.1 (Ent.rows K v e sz l) (by simp)
  have hkp : Kp (FE F [Ent.rows K v e sz l]) w' F w' := fun k hk _ => ⟨hk.1, rfl⟩
  rcases hown.2 with ⟨rfl, h0⟩ | ⟨g, cap, cur, rfl, -, hg, hcap, -, hcs, htk⟩
  · have : l = [] := List.eq_nil_of_length_eq_zero h0
    subst this
    exact ⟨none, 0, us, rfl, hc.keep hkp, rfl, rfl⟩
  · refine ⟨some ⟨g, 0, none⟩, cap, us, rfl, hc.keep hkp, rfl, hcap, fun _ => ?_, fun j z hj => ?_⟩
    · rcases (hb g rfl).2 with h1 | h1
      · simp [blocks] at h1
      · exact hF g (.inr h1)
    · simp only [World.cell?, hg, Nat.zero_add]
      rw [← htk, List.getElem?_take] at hj
      split at hj
      · simpa using hj
      · cases hj

/-! nil slices -/
/-- A bool of which something is known. -/
def sb (p : Bool → Prop) : Spec := ⟨fun _ _ v => ∃ b, v = .bool b ∧ p b, fun h _ => h⟩
theorem y_nilS {α : Type} {K : α → List Spec} {l : List α} {e t2 : TypeId} (hx : opv L x = some (slc K l)) (hU : Γ.E.P.underlying t = some (.slice e)) :
    Yields n Γ M L ⟨dst, .binOp .eql t x (.const (.slice none 0 0)) t2, ty, pos, after, guard⟩ (sb fun b => b = true → l = []) := fun a w hs K Q hK => by
  obtain ⟨ao, c, us, hv, hc, hm⟩ := hs.opv hx
  have h : (execOp a.eval ⟨dst, .binOp .eql t x (.const (.slice none 0 0)) t2, ty, pos, after, guard⟩).run Γ.E.P w = .ok (.value (.bool ao.isNone)) w := by
    have e1 : execOp a.eval ⟨dst, .binOp .eql t x (.const (.slice none 0 0)) t2, ty, pos, after, guard⟩ = ((eqGuard .eql t x (.const (.slice none 0 0)) (a.eval x) (.slice none 0 0) >>= fun _ => binOp .eql t (a.eval x) (.slice none 0 0)) >>= fun v => pure (.value v)) := rfl
    rw [e1, Sem.run_bind, Sem.run_bind, hv]
    have hg : (eqGuard .eql t x (.const (.slice none 0 0)) (.slice ao l.length c) (.slice none 0 0)).run Γ.E.P w = .ok () w := rfl
    rw [hg, Result.andThen_ok, Lib.run_eql_slice_nil w t e ao l.length c 0 0 hU]
    rfl
  unfold Oper.wp
  rw [h]
  refine hK _ w (Below.refl _ _) ⟨ao.isNone, rfl, fun hn => ?_⟩
  cases ao with
  | none => exact hm.1
  | some p => cases hn
theorem Run.condP {P : Program} {c1 c2 : Code} {c : Operand} {p : Bool → Prop} (ht : opv L c = some (sb p)) (h1 : p true → Run n Γ M L (c1.wp P Q)) (h0 : p false → Run n Γ M L (c2.wp P Q)) : Run n Γ M L ((Code.cond c c1 c2).wp P Q) := fun a w hs => by
  obtain ⟨b, he, hp⟩ := hs.opv ht
  cases b with
  | true => exact wp_cond_true he (h1 hp a w hs)
  | false => exact wp_cond_false he (h0 hp a w hs)

theorem spl_one_ {l : List Spec} {j : Nat} {S : Spec} (h : j < l.length) : spl l j [S] = l.set j S := by
  unfold spl
  rw [List.set_eq_take_append_cons_drop, if_pos h]; simp
theorem set_self {α : Type} : ∀ {l : List α} {i : Nat} {u : α}, l[i]? = some u → l.set i u = l
  | [], _, _, h => by simp at h
  | x :: l, 0, u, h => by simp at h; simp [h]
  | x :: l, i + 1, u, h => by simp at h; simp [set_self (by simpa using h)]
/-- An inner row, of which an outer row of the call's own has the value in a cell, is given up. -/
theorem Run.freezeIn {α : Type} {K : α → List Spec} {l : List α} {sz szo No f0 : Nat} {e eo : TypeId} {v vo : Value} {m : List Spec} {X : Act → World → Prop} (key ko : Nat) (hm : lookM M key = some (.row v e sz l.length (l.flatMap K))) (hmo : lookM (delM M key) ko = some (.row vo eo szo No m)) (hs : m[f0]? = some (sval v))
    (h : Run n Γ (setM (delM M key) ko (.row vo eo szo No (m.set f0 (slc K l)))) L X) : Run n Γ M L X := fun a w hst => by
  obtain ⟨us, hown, hc⟩ := hst.own_ok hm
  obtain ⟨h1, h2, h3⟩ := hst.free hm
  obtain ⟨uo, howno, hco⟩ := h1.own_ok hmo
  refine h a w ?_
  have hslc : (slc K l).holds (FM Γ.F0 (delM M key)) w v := by
    rcases hown.2 with ⟨rfl, h0⟩ | ⟨g, cap, cur, rfl, -, hg, hcap, -, hcs, htk⟩
    · have : l = [] := List.eq_nil_of_length_eq_zero h0
      subst this
      exact ⟨none, 0, us, rfl, hc.keep h2, rfl, rfl⟩
    · refine ⟨some ⟨g, 0, none⟩, cap, us, rfl, hc.keep h2, rfl, hcap, fun _ => h3 g rfl, fun j z hj => ?_⟩
      simp only [World.cell?, hg, Nat.zero_add]
      rw [← htk, List.getElem?_take] at hj
      split at hj
      · simpa using hj
      · cases hj
  have hcells : Cells (FM Γ.F0 (delM M key)) w (m.set f0 (slc K l)) uo := by
    obtain ⟨u, hu, hvu, ho⟩ := hco.get hs
    have hvu : u = v := hvu
    subst hvu
    have := hco.set (i := f0) hslc ho
    rwa [set_self hu] at this
  obtain ⟨M1, M2, k0, hM, hset, -⟩ := lookM_split hmo
  rw [hset]
  rw [hM] at h1 hcells
  have hFM : FM Γ.F0 (M1 ++ (k0, Ent.row vo eo szo No (m.set f0 (slc K l))) :: M2) = FM Γ.F0 (M1 ++ (k0, Ent.row vo eo szo No m) :: M2) := by
    funext k
    simp only [FM, List.mem_append, List.mem_cons, eq_iff_iff]
    refine and_congr_right fun _ => ⟨fun hh x hx => ?_, fun hh x hx => ?_⟩
    · rcases hx with hx | rfl | hx
      · exact hh x (.inl hx)
      · exact hh (k0, Ent.row vo eo szo No (m.set f0 (slc K l))) (.inr (.inl rfl))
      · exact hh x (.inr (.inr hx))
    · rcases hx with hx | rfl | hx
      · exact hh x (.inl hx)
      · exact hh (k0, Ent.row vo eo szo No m) (.inr (.inl rfl))
      · exact hh x (.inr (.inr hx))
  have hd := h1.dis
  refine h1.turn (fun _ _ => rfl) h1.kept (fun k hk _ => ⟨by rw [hFM]; exact hk, rfl⟩) (fun x hx => ?_) ?_
  · rw [hFM]
    simp only [List.mem_append, List.mem_cons] at hx
    rcases hx with hx | rfl | hx
    · exact h1.own x (by simp [hx])
    · exact ⟨⟨uo, howno, hcells⟩, (h1.own (k0, Ent.row vo eo szo No m) (by simp)).2⟩
    · exact h1.own x (by simp [hx])
  · rw [List.pairwise_append, List.pairwise_cons] at hd ⊢
    refine ⟨hd.1, ⟨fun y hy => hd.2.1.1 y hy, hd.2.1.2⟩, fun x hx y hy => ?_⟩
    rcases List.mem_cons.1 hy with rfl | hy
    · exact hd.2.2 x hx (k0, Ent.row vo eo szo No m) (by simp)
    · exact hd.2.2 x hx y (by simp [hy])

/-- The same, where a block of the call's own has the value in a cell. -/
theorem Run.freezeInB {α : Type} {K : α → List Spec} {l : List α} {sz bo f0 : Nat} {e eo : TypeId} {v : Value} {m : List Spec} {X : Act → World → Prop} (key ko : Nat) (hm : lookM M key = some (.row v e sz l.length (l.flatMap K))) (hmo : lookM (delM M key) ko = some (Ent.blk bo eo m)) (hs : m[f0]? = some (sval v))
    (h : Run n Γ (setM (delM M key) ko (Ent.blk bo eo (m.set f0 (slc K l)))) L X) : Run n Γ M L X := fun a w hst => by
  obtain ⟨us, hown, hc⟩ := hst.own_ok hm
  obtain ⟨h1, h2, h3⟩ := hst.free hm
  obtain ⟨uo, howno, hco⟩ := h1.own_ok hmo
  refine h a w ?_
  have hslc : (slc K l).holds (FM Γ.F0 (delM M key)) w v := by
    rcases hown.2 with ⟨rfl, h0⟩ | ⟨g, cap, cur, rfl, -, hg, hcap, -, hcs, htk⟩
    · have : l = [] := List.eq_nil_of_length_eq_zero h0
      subst this
      exact ⟨none, 0, us, rfl, hc.keep h2, rfl, rfl⟩
    · refine ⟨some ⟨g, 0, none⟩, cap, us, rfl, hc.keep h2, rfl, hcap, fun _ => h3 g rfl, fun j z hj => ?_⟩
      simp only [World.cell?, hg, Nat.zero_add]
      rw [← htk, List.getElem?_take] at hj
      split at hj
      · simpa using hj
      · cases hj
  have hcells : Cells (FM Γ.F0 (delM M key)) w (m.set f0 (slc K l)) uo := by
    obtain ⟨u, hu, hvu, ho⟩ := hco.get hs
    have hvu : u = v := hvu
    subst hvu
    have := hco.set (i := f0) hslc ho
    rwa [set_self hu] at this
  obtain ⟨M1, M2, k0, hM, hset, -⟩ := lookM_split hmo
  rw [hset]
  rw [hM] at h1 hcells
  have hFM : FM Γ.F0 (M1 ++ (k0, Ent.blk bo eo (m.set f0 (slc K l))) :: M2) = FM Γ.F0 (M1 ++ (k0, Ent.blk bo eo m) :: M2) := by
    funext k
    simp only [FM, List.mem_append, List.mem_cons, eq_iff_iff]
    refine and_congr_right fun _ => ⟨fun hh x hx => ?_, fun hh x hx => ?_⟩
    · rcases hx with hx | rfl | hx
      · exact hh x (.inl hx)
      · exact hh (k0, Ent.blk bo eo (m.set f0 (slc K l))) (.inr (.inl rfl))
      · exact hh x (.inr (.inr hx))
    · rcases hx with hx | rfl | hx
      · exact hh x (.inl hx)
      · exact hh (k0, Ent.blk bo eo m) (.inr (.inl rfl))
      · exact hh x (.inr (.inr hx))
  have hd := h1.dis
  refine h1.turn (fun _ _ => rfl) h1.kept (fun k hk _ => ⟨by rw [hFM]; exact hk, rfl⟩) (fun x hx => ?_) ?_
  · rw [hFM]
    simp only [List.mem_append, List.mem_cons] at hx
    rcases hx with hx | rfl | hx
    · exact h1.own x (by simp [hx])
    · exact ⟨⟨uo, howno, hcells⟩, (h1.own (k0, Ent.blk bo eo m) (by simp)).2⟩
    · exact h1.own x (by simp [hx])
  · rw [List.pairwise_append, List.pairwise_cons] at hd ⊢
    refine ⟨hd.1, ⟨fun y hy => hd.2.1.1 y hy, hd.2.1.2⟩, fun x hx y hy => ?_⟩
    rcases List.mem_cons.1 hy with rfl | hy
    · exact hd.2.2 x hx (k0, Ent.blk bo eo m) (by simp)
    · exact hd.2.2 x hx y (by simp [hy])

theorem St.row_one {a : Act} {w : World} {kr : Nat} {v : Value} {e : TypeId} {sz N : Nat} {l : List Spec} (hs : St n Γ M L a w) (hm : lookM M kr = some (.row v e sz N l)) : v.oneCell' = true := by
  obtain ⟨us, hown, -⟩ := hs.own_ok hm
  rcases hown.2 with ⟨rfl, -⟩ | ⟨g, cap, cur, rfl, -⟩ <;> rfl
/-- A row's value is stored. -/
theorem q_store1V {b f0 : Nat} {e er : TypeId} {l lr : List Spec} {v z : Value} {by' szr N : Nat} (kr key : Nat) (hx : opv L x = some (sval (.pointer (some ⟨b, f0, none⟩)))) (hm : lookM M key = some (.blk b e l))
    (hy : opv L y = some (sval v)) (hr : lookM M kr = some (.row v er szr N lr)) (hT : TI Γ.E.P t z 1 by') (hfit : f0 < l.length)
    (h : Run n Γ (setM M key (.blk b e (l.set f0 (sval v)))) L (wpList Γ.E.P ops Q rest)) : Run n Γ M L (wpList Γ.E.P ops Q (⟨none, .store t x y, ty, pos, after, none⟩ :: rest)) := by
  refine Run.storeG (m := [sval v]) key rfl rfl rfl hx hm (fun a w hs => ?_) hT.siz hfit (by rw [spl_one_ hfit]; exact h)
  have hv : a.eval y = v := hs.opv hy
  have ho := hs.row_one hr
  exact ⟨[v], by rw [hv]; exact oneCell_cells ho, ⟨rfl, ho⟩, trivial⟩
theorem q_storeR1V {u v : Value} {e er : TypeId} {sz N f0 szr Nr : Nat} {l lr : List Spec} {z : Value} {by' : Nat} (kr key : Nat) (hx : opv L x = some (srow u f0)) (hm : lookM M key = some (.row u e sz N l))
    (hy : opv L y = some (sval v)) (hr : lookM M kr = some (.row v er szr Nr lr)) (hT : TI Γ.E.P t z 1 by') (hfit : f0 < l.length)
    (h : Run n Γ (setM M key (.row u e sz N (spl l f0 [sval v]))) L (wpList Γ.E.P ops Q rest)) : Run n Γ M L (wpList Γ.E.P ops Q (⟨none, .store t x y, ty, pos, after, none⟩ :: rest)) := by
  refine Run.storeRG (m := [sval v]) key rfl rfl rfl hx hm (fun a w hs => ?_) hT.siz hfit h
  have hv : a.eval y = v := hs.opv hy
  have ho := hs.row_one hr
  exact ⟨[v], by rw [hv]; exact oneCell_cells ho, ⟨rfl, ho⟩, trivial⟩

/-! guards of what has been passed over -/
theorem Run.opSU {d j t : Nat} {want b : Bool} (hg : o.guard = some (j, want)) (hj : (ops[j]?).bind (·.dst) = some t) (ht : look L t = some (sval (.bool b))) (hb : (b == want) = false)
    (hd : o.dst = some d) (hn : Nat.ble (d + 1) n = true)
    (h : Run n Γ M ((d, sval undef) :: L) (wpList Γ.E.P ops Q rest)) : Run n Γ M L (wpList Γ.E.P ops Q (o :: rest)) := fun a w hs =>
  wpList_of_skip (by rw [wanted_of hg hj ht hs, hb]) (by
    rw [hd]
    exact h _ _ (hs.put (S := sval undef) (Nat.le_of_ble_eq_true hn) rfl))
theorem Run.opUU {d j t : Nat} {want : Bool} (hg : o.guard = some (j, want)) (hj : (ops[j]?).bind (·.dst) = some t) (ht : look L t = some (sval undef))
    (hd : o.dst = some d) (hn : Nat.ble (d + 1) n = true)
    (h : Run n Γ M ((d, sval undef) :: L) (wpList Γ.E.P ops Q rest)) : Run n Γ M L (wpList Γ.E.P ops Q (o :: rest)) := fun a w hs =>
  wpList_of_skip (by
    obtain ⟨v, h1, h2⟩ := hs.slots t _ ht
    have h2' : v = undef := h2
    subst h2'
    simp [Region.wanted, hg, yielded, hj, h1, undef]) (by
    rw [hd]
    exact h _ _ (hs.put (S := sval undef) (Nat.le_of_ble_eq_true hn) rfl))

/-! a region whose orders are walked one by one -/
theorem Run.opAt {i : Nat} {l : List Oper} {K : Act → World → Prop} (ho : l[i]? = some o) (h : Run n Γ M L (wpList Γ.E.P l.toArray (Exit.then K Q) [o])) : Run n Γ M L (wpOp Γ.E.P l.toArray Q i K) := fun a w hs => by
  have h0 := h a w hs
  unfold wpOp
  simp only [show l.toArray[i]? = some o by simpa using ho]
  unfold wpList at h0
  split
  · rename_i hw
    rw [if_pos hw] at h0
    rcases h0 with h0 | h0
    · refine .inl ?_
      unfold Oper.wp at h0 ⊢
      revert h0
      generalize (execOp a.eval o).run Γ.E.P w = r
      intro h0
      unfold Oper.upon at h0 ⊢
      split at h0 <;> first | exact h0 | (refine Calls.mono h0 fun e w' he => ?_; cases e <;> exact he) | skip
    · exact .inr h0
  · rename_i hw
    rw [if_neg hw] at h0
    exact h0
end
end Go.Vx
