/- The rules of memory for the assertions of Va: reads of what stays, blocks and rows of the call's own, calls. Conditions: each rule states what it asks. -/
import Derived.Test.YtofnjbcbkfbomaaDoorVb
import Derived.Laws.CopyRow
namespace Go.Vx
open Go Go.RowKit

theorem Cells.take {F : Foot} {w : World} : ∀ {l : List Spec} {us : List Value}, Cells F w l us → ∀ k, Cells F w (l.take k) (us.take k)
  | [], [], _, k => by simp [Cells]
  | _ :: _, _ :: _, ⟨h, r⟩, k => by
    cases k with
    | zero => simp [Cells]
    | succ k => exact ⟨h, Cells.take r k⟩
  | [], _ :: _, h, _ => h.elim
  | _ :: _, [], h, _ => h.elim
theorem Cells.drop {F : Foot} {w : World} : ∀ {l : List Spec} {us : List Value}, Cells F w l us → ∀ k, Cells F w (l.drop k) (us.drop k)
  | [], [], _, k => by simp [Cells]
  | _ :: _, _ :: _, ⟨h, r⟩, k => by
    cases k with
    | zero => exact ⟨h, r⟩
    | succ k => exact Cells.drop r k
  | [], _ :: _, h, _ => h.elim
  | _ :: _, [], h, _ => h.elim

/-- A list with a part of it replaced. -/
def spl {α : Type} (l : List α) (o : Nat) (m : List α) : List α := l.take o ++ m ++ l.drop (o + m.length)
theorem Cells.spl {F : Foot} {w : World} {l m : List Spec} {us vs : List Value} (h : Cells F w l us) (k : Cells F w m vs) (o : Nat) : Cells F w (Go.Vx.spl l o m) (Go.Vx.spl us o vs) := by
  unfold Go.Vx.spl
  rw [k.length]
  exact ((h.take o).append k).append (h.drop _)
theorem spl_length {α : Type} {l m : List α} {o : Nat} (h : o + m.length ≤ l.length) : (spl l o m).length = l.length := by
  unfold spl; simp; omega
theorem spl_all {α : Type} {l m : List α} (h : m.length = l.length) : spl l 0 m = m := by
  unfold spl; simp [h]

def lookM : Owns → Nat → Option Ent
  | [], _ => none
  | (k, e) :: M, t => match Nat.beq k t with
    | true => some e
    | false => lookM M t
def setM : Owns → Nat → Ent → Owns
  | [], _, _ => []
  | (k, e) :: M, t, e' => match Nat.beq k t with
    | true => (k, e') :: M
    | false => (k, e) :: setM M t e'
def delM : Owns → Nat → Owns
  | [], _ => []
  | (k, e) :: M, t => match Nat.beq k t with
    | true => M
    | false => (k, e) :: delM M t

theorem lookM_split : ∀ {M : Owns} {t : Nat} {e : Ent}, lookM M t = some e → ∃ M1 M2 k, M = M1 ++ (k, e) :: M2 ∧ (∀ e', setM M t e' = M1 ++ (k, e') :: M2) ∧ delM M t = M1 ++ M2
  | [], _, _, h => by cases h
  | (k, f) :: M, t, e, h => by
    unfold lookM at h
    cases hb : Nat.beq k t with
    | true =>
      rw [hb] at h
      simp only [Option.some.injEq] at h
      subst h
      exact ⟨[], M, k, rfl, fun e' => by simp [setM, hb], by simp [delM, hb]⟩
    | false =>
      rw [hb] at h
      obtain ⟨M1, M2, k', rfl, h2, h3⟩ := lookM_split (M := M) (t := t) h
      exact ⟨(k, f) :: M1, M2, k', rfl, fun e' => by simp [setM, hb, h2], by simp [delM, hb, h3]⟩

section
variable {n : Nat} {Γ : Ctx} {M : Owns} {L : List (Nat × Spec)} {a : Act} {w w' : World}

theorem St.turn {M' : Owns} (h : St n Γ M L a w) (hG : ∀ k, k < Γ.E.gn → w'.heap[k]? = w.heap[k]?) (hk : Kept Γ.C Γ.w0 w') (hkp : Kp (FM Γ.F0 M) w (FM Γ.F0 M') w')
    (ho : ∀ e ∈ M', e.2.ok (FM Γ.F0 M') w' ∧ ∀ k, e.2.block = some k → k < w'.heap.size ∧ (Γ.w0.heap.size ≤ k ∨ k ∈ Γ.C))
    (hd : M'.Pairwise fun x y => ∀ k, x.2.block = some k → y.2.block ≠ some k) : St n Γ M' L a w' where
  good := h.good
  size := h.size
  defs := h.defs
  glob := Γ.E.stab h.glob hG
  kept := hk
  own := ho
  dis := hd
  slots := fun t S hS => by
    obtain ⟨v, h1, h2⟩ := h.slots t S hS
    exact ⟨v, h1, S.keep h2 hkp⟩

theorem St.gle (h : St n Γ M L a w) {e : Nat × Ent} (he : e ∈ M) {b : Nat} (hb : e.2.block = some b) : Γ.E.gn ≤ b := by
  rcases ((h.own e he).2 b hb).2 with h1 | h1
  · exact Nat.le_trans h.good.gn h1
  · exact h.good.gC b h1

/-- What is owned at key t is replaced by something of the same block; all other blocks are as they were. -/
theorem St.set {t : Nat} {e e' : Ent} {b : Nat} (h : St n Γ M L a w) (hm : lookM M t = some e) (hb : e.block = some b) (hb' : e'.block = some b)
    (hos : w'.os = w.os) (htp : w'.tape = w.tape) (hout : w'.output = w.output) (hsz : w'.heap.size = w.heap.size) (hoth : ∀ k, k ≠ b → w'.heap[k]? = w.heap[k]?)
    (hok : e'.ok (FM Γ.F0 M) w') : St n Γ (setM M t e') L a w' := by
  obtain ⟨M1, M2, k0, rfl, hset, -⟩ := lookM_split hm
  rw [hset]
  have hmem : (k0, e) ∈ M1 ++ (k0, e) :: M2 := by simp
  have hgb := h.gle hmem hb
  have hFM : FM Γ.F0 (M1 ++ (k0, e') :: M2) = FM Γ.F0 (M1 ++ (k0, e) :: M2) := by
    funext k
    simp only [FM, List.mem_append, List.mem_cons, eq_iff_iff]
    refine and_congr_right fun _ => ⟨fun hh x hx => ?_, fun hh x hx => ?_⟩
    · rcases hx with hx | rfl | hx
      · exact hh x (.inl hx)
      · have := hh (k0, e') (.inr (.inl rfl)); simp only [hb'] at this; simp only [hb]; exact this
      · exact hh x (.inr (.inr hx))
    · rcases hx with hx | rfl | hx
      · exact hh x (.inl hx)
      · have := hh (k0, e) (.inr (.inl rfl)); simp only [hb] at this; simp only [hb']; exact this
      · exact hh x (.inr (.inr hx))
  have hkp : Kp (FM Γ.F0 (M1 ++ (k0, e) :: M2)) w (FM Γ.F0 (M1 ++ (k0, e) :: M2)) w' := fun k hk _ =>
    ⟨hk, hoth k fun e' => by subst e'; exact hk.2 _ hmem hb⟩
  have hd := h.dis
  refine h.turn (fun k hk => hoth k (by omega)) ⟨hos.trans h.kept.os, htp.trans h.kept.tape, hout.trans h.kept.output, by rw [hsz]; exact h.kept.size, fun k hk hC => ?_⟩ (by rw [hFM]; exact hkp) ?_ ?_
  · rw [hoth k ?_]
    · exact h.kept.block k hk hC
    · rintro rfl
      rcases ((h.own _ hmem).2 k hb).2 with h1 | h1
      · omega
      · exact hC h1
  · intro x hx
    rw [hFM]
    simp only [List.mem_append, List.mem_cons] at hx
    have other : x ∈ M1 ∨ x ∈ M2 → x.2.ok (FM Γ.F0 (M1 ++ (k0, e) :: M2)) w' ∧ ∀ k, x.2.block = some k → k < w'.heap.size ∧ (Γ.w0.heap.size ≤ k ∨ k ∈ Γ.C) := fun hx => by
      have hxm : x ∈ M1 ++ (k0, e) :: M2 := by simp; rcases hx with h | h <;> simp [h]
      obtain ⟨o1, o2⟩ := h.own x hxm
      have hne : x.2.block ≠ some b := by
        rw [List.pairwise_append] at hd
        rcases hx with hx | hx
        · exact fun hxb => hd.2.2 x hx (k0, e) (by simp) b hxb hb
        · exact (List.pairwise_cons.1 hd.2.1).1 x hx b hb
      exact ⟨Ent.keep o1 hkp fun k hk => hoth k fun hh => hne (by rw [hk, hh]), fun k hk => by rw [hsz]; exact o2 k hk⟩
    rcases hx with hx | rfl | hx
    · exact other (.inl hx)
    · refine ⟨hok, fun k hk => ?_⟩
      obtain rfl : b = k := by simpa [hb'] using hk
      rw [hsz]
      exact (h.own _ hmem).2 b hb
    · exact other (.inr hx)
  · rw [List.pairwise_append, List.pairwise_cons] at hd ⊢
    refine ⟨hd.1, ⟨fun y hy k hk => hd.2.1.1 y hy k (by simp only [hb'] at hk; simp only [hb]; exact hk), hd.2.1.2⟩, fun x hx y hy k hk => ?_⟩
    rcases List.mem_cons.1 hy with rfl | hy
    · have := hd.2.2 x hx (k0, e) (by simp) k hk
      simp only [hb] at this
      simp only [hb']
      exact this
    · exact hd.2.2 x hx y (by simp [hy]) k hk

/-- The row that is owned at key t grows: its block is the same, or a new one. -/
theorem St.grown {t : Nat} {v v' : Value} {ty : TypeId} {sz m m' : Nat} {l l' : List Spec} (h : St n Γ M L a w) (hm : lookM M t = some (.row v ty sz m l)) (hg : w.grownBy w' v.ownBlock)
    (hnew : ∀ k, v'.ownBlock = some k → v.ownBlock = some k ∨ w.heap.size ≤ k)
    (hok : ∀ F, Kp (FM Γ.F0 M) w F w' → (Ent.row v' ty sz m' l').ok F w') : St n Γ (setM M t (.row v' ty sz m' l')) L a w' := by
  obtain ⟨M1, M2, k0, rfl, hset, -⟩ := lookM_split hm
  rw [hset]
  have hmem : (k0, Ent.row v ty sz m l) ∈ M1 ++ (k0, Ent.row v ty sz m l) :: M2 := by simp
  have hkp : Kp (FM Γ.F0 (M1 ++ (k0, Ent.row v ty sz m l) :: M2)) w (FM Γ.F0 (M1 ++ (k0, Ent.row v' ty sz m' l') :: M2)) w' := fun k hk hlt => by
    refine ⟨⟨hk.1, fun x hx => ?_⟩, hg.block k hlt fun e => hk.2 _ hmem e.symm⟩
    simp only [List.mem_append, List.mem_cons] at hx
    rcases hx with hx | rfl | hx
    · exact hk.2 x (by simp [hx])
    · intro hb
      rcases hnew k hb with h1 | h1
      · exact hk.2 _ hmem h1
      · omega
    · exact hk.2 x (by simp [hx])
  have hd := h.dis
  have hok' := hok _ hkp
  have hblk : ∀ k, v.ownBlock = some k → k < w.heap.size ∧ (Γ.w0.heap.size ≤ k ∨ k ∈ Γ.C) := (h.own _ hmem).2
  refine h.turn (fun k hk => hg.block k (Nat.lt_of_lt_of_le hk h.gnle) fun e => ?_) ⟨hg.os.trans h.kept.os, hg.tape.trans h.kept.tape, hg.output.trans h.kept.output, Nat.le_trans h.kept.size hg.size, fun k hk hC => ?_⟩ hkp ?_ ?_
  · have := h.gle hmem e.symm; omega
  · rw [hg.block k (Nat.lt_of_lt_of_le hk h.kept.size) ?_]
    · exact h.kept.block k hk hC
    · intro e
      rcases (hblk k e.symm).2 with h1 | h1
      · omega
      · exact hC h1
  · intro x hx
    simp only [List.mem_append, List.mem_cons] at hx
    have other : x ∈ M1 ∨ x ∈ M2 → x.2.ok (FM Γ.F0 (M1 ++ (k0, Ent.row v' ty sz m' l') :: M2)) w' ∧ ∀ k, x.2.block = some k → k < w'.heap.size ∧ (Γ.w0.heap.size ≤ k ∨ k ∈ Γ.C) := fun hx => by
      have hxm : x ∈ M1 ++ (k0, Ent.row v ty sz m l) :: M2 := by simp; rcases hx with h | h <;> simp [h]
      obtain ⟨o1, o2⟩ := h.own x hxm
      have hne : ∀ b, v.ownBlock = some b → x.2.block ≠ some b := fun b hb => by
        rw [List.pairwise_append] at hd
        rcases hx with hx | hx
        · exact fun hxb => hd.2.2 x hx (k0, Ent.row v ty sz m l) (by simp) b hxb hb
        · exact (List.pairwise_cons.1 hd.2.1).1 x hx b hb
      exact ⟨Ent.keep o1 hkp fun k hk => hg.block k (o2 k hk).1 fun hh => hne k hh.symm hk, fun k hk => ⟨Nat.lt_of_lt_of_le (o2 k hk).1 hg.size, (o2 k hk).2⟩⟩
    rcases hx with hx | rfl | hx
    · exact other (.inl hx)
    · refine ⟨hok', fun k hk => ?_⟩
      obtain ⟨us, hr, _⟩ := hok'
      refine ⟨ownBlock_block hr hk, ?_⟩
      rcases hnew k hk with h1 | h1
      · exact (hblk k h1).2
      · exact .inl (Nat.le_trans h.kept.size h1)
    · exact other (.inr hx)
  · have hlt : ∀ x, x ∈ M1 ∨ x ∈ M2 → ∀ k, x.2.block = some k → k < w.heap.size := fun x hx k hk =>
      ((h.own x (by simp; rcases hx with h | h <;> simp [h])).2 k hk).1
    rw [List.pairwise_append, List.pairwise_cons] at hd ⊢
    refine ⟨hd.1, ⟨fun y hy k hk hyk => ?_, hd.2.1.2⟩, fun x hx y hy k hk => ?_⟩
    · rcases hnew k hk with h1 | h1
      · exact hd.2.1.1 y hy k h1 hyk
      · have := hlt y (.inr hy) k hyk; omega
    · rcases List.mem_cons.1 hy with rfl | hy
      · intro hyk
        rcases hnew k hyk with h1 | h1
        · exact hd.2.2 x hx _ List.mem_cons_self k hk h1
        · have := hlt x (.inl hx) k hk; omega
      · exact hd.2.2 x hx y (by simp [hy]) k hk

/-- Something new is owned: a block that was not there, or a row without a block. -/
theorem St.fresh_own {t : Nat} {e : Ent} (h : St n Γ M L a w) (g : Grow w w') (hnew : ∀ k, e.block = some k → w.heap.size ≤ k ∧ k < w'.heap.size)
    (hok : ∀ F, Kp (FM Γ.F0 M) w F w' → e.ok F w') : St n Γ ((t, e) :: M) L a w' := by
  have hkp : Kp (FM Γ.F0 M) w (FM Γ.F0 ((t, e) :: M)) w' := fun k hk hlt => by
    refine ⟨⟨hk.1, fun x hx => ?_⟩, g.block k hlt⟩
    rcases List.mem_cons.1 hx with rfl | hx
    · intro hb; have := (hnew k hb).1; omega
    · exact hk.2 x hx
  refine h.turn (fun k hk => g.block k (Nat.lt_of_lt_of_le hk h.gnle)) (h.kept.grow g) hkp ?_ ?_
  · intro x hx
    rcases List.mem_cons.1 hx with rfl | hx
    · exact ⟨hok _ hkp, fun k hk => ⟨(hnew k hk).2, .inl (Nat.le_trans h.kept.size (hnew k hk).1)⟩⟩
    · obtain ⟨o1, o2⟩ := h.own x hx
      exact ⟨Ent.keep o1 hkp fun k hk => g.block k (o2 k hk).1, fun k hk => ⟨Nat.lt_of_lt_of_le (o2 k hk).1 g.size, (o2 k hk).2⟩⟩
  · refine List.pairwise_cons.2 ⟨fun y hy k hk hyk => ?_, h.dis⟩
    have := ((h.own y hy).2 k hyk).1
    have := (hnew k hk).1
    omega

/-- What is owned is given up: it stays as it is from now on. -/
theorem St.free {t : Nat} {e : Ent} (h : St n Γ M L a w) (hm : lookM M t = some e) : St n Γ (delM M t) L a w ∧ Kp (FM Γ.F0 M) w (FM Γ.F0 (delM M t)) w ∧ (∀ b, e.block = some b → FM Γ.F0 (delM M t) b) := by
  obtain ⟨M1, M2, k0, rfl, -, hdel⟩ := lookM_split hm
  rw [hdel]
  have hmem : (k0, e) ∈ M1 ++ (k0, e) :: M2 := by simp
  have hkp : Kp (FM Γ.F0 (M1 ++ (k0, e) :: M2)) w (FM Γ.F0 (M1 ++ M2)) w := fun k hk hlt =>
    ⟨⟨hk.1, fun x hx => hk.2 x (by simp at hx ⊢; rcases hx with h | h <;> simp [h])⟩, rfl⟩
  have hd := h.dis
  refine ⟨h.turn (fun k hk => rfl) h.kept hkp (fun x hx => ?_) ?_, hkp, fun b hb => ?_⟩
  · obtain ⟨o1, o2⟩ := h.own x (by simp at hx ⊢; rcases hx with h | h <;> simp [h])
    exact ⟨Ent.keep o1 hkp fun k hk => rfl, o2⟩
  · rw [List.pairwise_append, List.pairwise_cons] at hd
    exact List.pairwise_append.2 ⟨hd.1, hd.2.1.2, fun x hx y hy => hd.2.2 x hx y (by simp [hy])⟩
  · refine ⟨?_, fun x hx hxb => ?_⟩
    · rcases ((h.own _ hmem).2 b hb).2 with h1 | h1
      · exact h.good.fresh b (.inr h1)
      · exact h.good.cF b h1
    · rw [List.pairwise_append, List.pairwise_cons] at hd
      rcases List.mem_append.1 hx with hx | hx
      · exact hd.2.2 x hx (k0, e) (by simp) b hxb hb
      · exact hd.2.1.1 x hx b hb hxb
end

/-! reads -/
def aggD : TypeDesc → Bool
  | .struct _ | .array _ _ => true
  | _ => false

section
variable {P : Program}

theorem run_isAggD {t : TypeId} {d : TypeDesc} (hU : P.underlying t = some d) (w : World) : (isAgg t).run P w = .ok (aggD d) w := by
  unfold isAgg
  rw [Sem.run_bind, run_underlying hU w]
  cases d <;> rfl

theorem run_sizeOf {t : TypeId} {m : Nat} (hZ : (P.info? t).map (·.size) = some m) (w : World) : (sizeOf t).run P w = .ok m w := by
  cases hq : P.info? t with
  | none => simp [hq] at hZ
  | some i =>
    have hs : i.size = m := by simpa [hq] using hZ
    simp [sizeOf, typeInfo, hq, hs]

theorem run_loadVar1 {t : TypeId} {d : TypeDesc} (hU : P.underlying t = some d) (hd : aggD d = false) {w : World} {p : Addr} {v : Value} (hc : w.cell? p = some v) : (loadVar t p).run P w = .ok v w := by
  simp [loadVar, run_isAggD hU, hd, hc]

theorem run_loadVarA {t : TypeId} {d : TypeDesc} {m : Nat} (hU : P.underlying t = some d) (hd : aggD d = true) (hZ : (P.info? t).map (·.size) = some m) {w : World} {b o : Nat} {us : List Value} (hl : us.length = m)
    (hc : ∀ j u, us[j]? = some u → w.cell? ⟨b, o + j, none⟩ = some u) : (loadVar t ⟨b, o, none⟩).run P w = .ok (.agg us.toArray) w := by
  subst hl
  have := run_loadCells_list (P := P) w ⟨b, o, none⟩ us (fun j v hv => by rw [Addr.add_lit]; exact hc j v hv)
  simp [loadVar, run_isAggD hU, hd, run_sizeOf hZ, this]
end

section
variable {n : Nat} {Γ : Ctx} {M : Owns} {L : List (Nat × Spec)} {dst : Option Nat} {ty : TypeId} {pos : String} {after : Array Edge} {guard : Option (Nat × Bool)}
variable {t : TypeId} {d : TypeDesc} {x y : Operand}

/-- A read of one cell that stays. -/
theorem y_load {S : Spec} {l : List Spec} (hx : opv L x = some (spts (S :: l))) (hU : Γ.E.P.underlying t = some d) (hd : aggD d = false) : Yields n Γ M L ⟨dst, .load t x, ty, pos, after, guard⟩ S := fun a w hs K Q hK => by
  obtain ⟨b, o, us, hv, hc, ha⟩ := hs.opv hx
  obtain ⟨u, us, rfl⟩ : ∃ u r, us = u :: r := by
    cases us with
    | nil => exact hc.elim
    | cons u r => exact ⟨u, r, rfl⟩
  have h0 : w.cell? ⟨b, o, none⟩ = some u := ha.2 0 u rfl
  have : (execOp a.eval ⟨dst, .load t x, ty, pos, after, guard⟩).run Γ.E.P w = .ok (.value u) w := by
    simp only [execOp, hv, Instr.loadAt, Instr.sureAddr, Sem.run_bind, Sem.run_pure, Result.andThen_ok, run_loadVar1 hU hd h0]
  unfold Oper.wp
  rw [this]
  exact hK _ w (Below.refl _ _) hc.1.1

/-- A read of a struct or an array that stays. -/
theorem y_loadA {l : List Spec} {m : Nat} (hx : opv L x = some (spts l)) (hU : Γ.E.P.underlying t = some d) (hd : aggD d = true) (hZ : (Γ.E.P.info? t).map (·.size) = some m) (hm : m ≤ l.length) :
    Yields n Γ M L ⟨dst, .load t x, ty, pos, after, guard⟩ (sagg (l.take m)) := fun a w hs K Q hK => by
  obtain ⟨b, o, us, hv, hc, ha⟩ := hs.opv hx
  have hlen := hc.length
  have h0 := run_loadVarA hU hd hZ (w := w) (b := b) (o := o) (us := us.take m) (by simp; omega) (fun j u hj => ha.2 j u (by
    rw [List.getElem?_take] at hj; split at hj
    · exact hj
    · cases hj))
  have : (execOp a.eval ⟨dst, .load t x, ty, pos, after, guard⟩).run Γ.E.P w = .ok (.value (.agg (us.take m).toArray)) w := by
    simp only [execOp, hv, Instr.loadAt, Instr.sureAddr, Sem.run_bind, Sem.run_pure, Result.andThen_ok, h0]
  unfold Oper.wp
  rw [this]
  exact hK _ w (Below.refl _ _) ⟨_, rfl, hc.take m⟩
theorem y_loadW {l : List Spec} (hx : opv L x = some (spts l)) (hU : Γ.E.P.underlying t = some d) (hd : aggD d = true) (hZ : (Γ.E.P.info? t).map (·.size) = some l.length) :
    Yields n Γ M L ⟨dst, .load t x, ty, pos, after, guard⟩ (sagg l) := by
  have := y_loadA (n := n) (M := M) (dst := dst) (ty := ty) (pos := pos) (after := after) (guard := guard) hx hU hd hZ (Nat.le_refl _)
  rwa [List.take_of_length_le (Nat.le_refl _)] at this

/-- An element's address, in a slice whose elements stay. -/
theorem y_index {α : Type} {K : α → List Spec} {l : List α} {e : TypeId} {sz : Nat} {k : IntKind} {i : Int} (j : Nat) (z : α)
    (hx : opv L x = some (slc K l)) (hi : opv L y = some (sval (.int k i))) (hU : Γ.E.P.underlying t = some (.slice e)) (hZ : (Γ.E.P.info? e).map (·.size) = some sz) (hK : ∀ x, (K x).length = sz)
    (hij : i = (j : Int)) (hz : l[j]? = some z) : Yields n Γ M L ⟨dst, .indexAddr t x y, ty, pos, after, guard⟩ (spts (K z)) := fun a w hs Kc Q hKc => by
  obtain ⟨ao, c, us, hv, hc, hm⟩ := hs.opv hx
  have hy : a.eval y = .int k i := hs.opv hi
  have hj := (List.getElem?_eq_some_iff.1 hz).1
  cases ao with
  | none => obtain ⟨rfl, _⟩ := hm; simp at hj
  | some p =>
    obtain ⟨hsp, hlc, hat⟩ := hm
    obtain ⟨b, o, sp⟩ := p
    simp only at hsp
    subst hsp
    have hsplit : l = l.take j ++ z :: l.drop (j + 1) := by
      rw [List.getElem?_eq_getElem hj] at hz
      cases hz
      rw [List.getElem_cons_drop, List.take_append_drop]
    rw [hsplit, List.flatMap_append, List.flatMap_cons] at hc
    obtain ⟨u1, u2, rfl, hc1, hc2⟩ := hc.split
    obtain ⟨u3, u4, rfl, hc3, hc4⟩ := hc2.split
    have hl1 : u1.length = j * sz := by
      rw [hc1.length, List.length_flatMap, List.map_congr_left (g := fun _ => sz) (fun x _ => hK x), List.map_const', List.sum_replicate_nat]
      simp only [List.length_take, Nat.min_eq_left (Nat.le_of_lt hj)]
    have : (execOp a.eval ⟨dst, .indexAddr t x y, ty, pos, after, guard⟩).run Γ.E.P w = .ok (.value (.pointer (some ⟨b, o + j * sz, none⟩))) w := by
      subst hij
      simp [execOp, hv, hy, Instr.indexAt, asIntOf, run_underlying hU, run_sizeOf hZ, Addr.add_lit]; intro h; omega
    unfold Oper.wp
    rw [this]
    refine hKc _ w (Below.refl _ _) ⟨b, o + j * sz, u3, rfl, hc3, ?_⟩
    rw [← hl1]
    exact hat.right.left

/-- A field's address, in a struct that stays. -/
theorem y_field {l : List Spec} {fs : Array Field} {i sz : Nat} {f : Field} (hx : opv L x = some (spts l)) (hU : Γ.E.P.underlying t = some (.struct fs)) (hf : fs[i]? = some f) (hZ : (Γ.E.P.info? f.type).map (·.size) = some (sz + 1))
    (hl : Nat.ble f.offset l.length = true) : Yields n Γ M L ⟨dst, .fieldAddr t x i, ty, pos, after, guard⟩ (spts (l.drop f.offset)) := fun a w hs Kc Q hKc => by
  obtain ⟨b, o, us, hv, hc, ha⟩ := hs.opv hx
  have hl := Nat.le_of_ble_eq_true hl
  have : (execOp a.eval ⟨dst, .fieldAddr t x i, ty, pos, after, guard⟩).run Γ.E.P w = .ok (.value (.pointer (some ⟨b, o + f.offset, none⟩))) w := by
    simp [execOp, hv, Instr.fieldAt, run_underlying hU, hf, Instr.sureAddr, fieldPlace, run_sizeOf hZ, Addr.add_lit]
  unfold Oper.wp
  rw [this]
  refine hKc _ w (Below.refl _ _) ⟨b, o + f.offset, us.drop f.offset, rfl, hc.drop _, ?_⟩
  have e : us = us.take f.offset ++ us.drop f.offset := (List.take_append_drop _ _).symm
  rw [e] at ha
  have := ha.right
  rwa [show (us.take f.offset).length = f.offset by have := hc.length; simp; omega] at this

/-- An element's address, in an array that stays: a literal index. -/
theorem y_indexL {l : List Spec} {e : TypeId} {N sz j : Nat} {k : IntKind} (hx : opv L x = some (spts l)) (hi : opv L y = some (sval (.int k (j : Int)))) (hU : Γ.E.P.underlying t = some (.array N e)) (hZ : (Γ.E.P.info? e).map (·.size) = some sz)
    (hj : Nat.ble (j + 1) N = true) (hl : Nat.ble (j * sz) l.length = true) : Yields n Γ M L ⟨dst, .indexAddr t x y, ty, pos, after, guard⟩ (spts (l.drop (j * sz))) := fun a w hs Kc Q hKc => by
  obtain ⟨b, o, us, hv, hc, ha⟩ := hs.opv hx
  have hl := Nat.le_of_ble_eq_true hl
  have hj := Nat.le_of_ble_eq_true hj
  have hy : a.eval y = .int k j := hs.opv hi
  have : (execOp a.eval ⟨dst, .indexAddr t x y, ty, pos, after, guard⟩).run Γ.E.P w = .ok (.value (.pointer (some ⟨b, o + j * sz, none⟩))) w := by
    simp [execOp, hv, hy, Instr.indexAt, Instr.sureAddr, asIntOf, run_underlying hU, run_sizeOf hZ, Addr.add_lit]; intro h; omega
  unfold Oper.wp
  rw [this]
  refine hKc _ w (Below.refl _ _) ⟨b, o + j * sz, us.drop (j * sz), rfl, hc.drop _, ?_⟩
  have e : us = us.take (j * sz) ++ us.drop (j * sz) := (List.take_append_drop _ _).symm
  rw [e] at ha
  have := ha.right
  rwa [show (us.take (j * sz)).length = j * sz by have := hc.length; simp; omega] at this

/-- The same of rows: an array of arrays, structs or numbers that are told by a list. -/
theorem y_indexA {α : Type} {K : α → List Spec} {l : List α} {e : TypeId} {N sz : Nat} {k : IntKind} {i : Int} (j : Nat) (z : α) (hx : opv L x = some (spts (l.flatMap K))) (hi : opv L y = some (sval (.int k i)))
    (hU : Γ.E.P.underlying t = some (.array N e)) (hZ : (Γ.E.P.info? e).map (·.size) = some sz) (hK : ∀ x, (K x).length = sz) (hN : l.length = N) (hij : i = (j : Int)) (hz : l[j]? = some z) :
    Yields n Γ M L ⟨dst, .indexAddr t x y, ty, pos, after, guard⟩ (spts (K z)) := fun a w hs Kc Q hKc => by
  obtain ⟨b, o, us, hv, hc, hat⟩ := hs.opv hx
  have hy : a.eval y = .int k i := hs.opv hi
  have hj := (List.getElem?_eq_some_iff.1 hz).1
  have hsplit : l = l.take j ++ z :: l.drop (j + 1) := by
    rw [List.getElem?_eq_getElem hj] at hz
    cases hz
    rw [List.getElem_cons_drop, List.take_append_drop]
  rw [hsplit, List.flatMap_append, List.flatMap_cons] at hc
  obtain ⟨u1, u2, rfl, hc1, hc2⟩ := hc.split
  obtain ⟨u3, u4, rfl, hc3, hc4⟩ := hc2.split
  have hl1 : u1.length = j * sz := by
    rw [hc1.length, List.length_flatMap, List.map_congr_left (g := fun _ => sz) (fun x _ => hK x), List.map_const', List.sum_replicate_nat]
    simp only [List.length_take, Nat.min_eq_left (Nat.le_of_lt hj)]
  have : (execOp a.eval ⟨dst, .indexAddr t x y, ty, pos, after, guard⟩).run Γ.E.P w = .ok (.value (.pointer (some ⟨b, o + j * sz, none⟩))) w := by
    subst hij
    simp [execOp, hv, hy, Instr.indexAt, Instr.sureAddr, asIntOf, run_underlying hU, run_sizeOf hZ, Addr.add_lit]; intro h; omega
  unfold Oper.wp
  rw [this]
  refine hKc _ w (Below.refl _ _) ⟨b, o + j * sz, u3, rfl, hc3, ?_⟩
  rw [← hl1]
  exact hat.right.left

theorem y_lenS {α : Type} {K : α → List Spec} {l : List α} {e : TypeId} (hx : opv L x = some (slc K l)) (hU : Γ.E.P.underlying t = some (.slice e)) :
    Yields n Γ M L ⟨dst, .call { callee := .builtin .len, args := #[x], argTypes := #[t] }, ty, pos, after, guard⟩ (i64 l.length) := by
  refine y_val fun a w hs => ?_
  obtain ⟨ao, c, us, hv, hc, hm⟩ := hs.opv hx
  simp [execOp, resolve, invoke, builtin, Builtin.len_, hv, run_underlying hU, goInt]
end
end Go.Vx
