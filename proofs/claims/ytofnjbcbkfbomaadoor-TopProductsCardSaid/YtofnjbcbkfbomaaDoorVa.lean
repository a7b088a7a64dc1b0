/- A small logic of assertions over a walk's slots and memory, over any program: states, assertions on values that abide growth of memory, and the rules for code. Conditions: none of its own; each rule states what it asks. -/
import Derived.WalkKit
import Derived.Below
import Derived.OwnWalk
import Derived.Orders
namespace Go.Vx
open Go Go.RowKit

/-- A set of blocks. -/
abbrev Foot := Nat → Prop

/-- Every block of F that is there is in F' and holds what it held. -/
def Kp (F : Foot) (w : World) (F' : Foot) (w' : World) : Prop := ∀ k, F k → k < w.heap.size → F' k ∧ w'.heap[k]? = w.heap[k]?

theorem Kp.refl (F : Foot) (w : World) : Kp F w F w := fun _ h _ => ⟨h, rfl⟩

/-- What is said of a value in a world: it reads blocks of F alone. -/
structure Spec where
  holds : Foot → World → Value → Prop
  keep : ∀ {F w F' w' v}, holds F w v → Kp F w F' w' → holds F' w' v

/-- The value itself. -/
@[reducible] def sval (x : Value) : Spec := ⟨fun _ _ v => v = x, fun h _ => h⟩
/-- Whatever value. -/
@[reducible] def sany : Spec := ⟨fun _ _ _ => True, fun h _ => h⟩
abbrev u64 (n : Int) : Spec := sval (.int .u64 n)
abbrev u32 (n : Int) : Spec := sval (.int .u32 n)
abbrev u8 (n : Int) : Spec := sval (.int .u8 n)
abbrev i64 (n : Int) : Spec := sval (.int .i64 n)
abbrev sbool (b : Bool) : Spec := sval (.bool b)

/-- The cells hold what is said of each. -/
def Cells (F : Foot) (w : World) : List Spec → List Value → Prop
  | [], [] => True
  | S :: l, u :: us => (S.holds F w u ∧ u.oneCell' = true) ∧ Cells F w l us
  | _, _ => False

theorem Cells.keep {F w F' w'} : ∀ {l us}, Cells F w l us → Kp F w F' w' → Cells F' w' l us
  | [], [], _, _ => trivial
  | _ :: _, _ :: _, ⟨⟨h, ho⟩, r⟩, k => ⟨⟨Spec.keep _ h k, ho⟩, Cells.keep r k⟩
  | [], _ :: _, h, _ => h.elim
  | _ :: _, [], h, _ => h.elim

theorem Cells.length {F w} : ∀ {l us}, Cells F w l us → us.length = l.length
  | [], [], _ => rfl
  | _ :: _, _ :: _, ⟨_, r⟩ => congrArg (· + 1) (Cells.length r)
  | [], _ :: _, h => h.elim
  | _ :: _, [], h => h.elim

theorem Cells.one {F w} : ∀ {l us}, Cells F w l us → ∀ u ∈ us, u.oneCell' = true
  | [], [], _, _, hu => by simp at hu
  | _ :: _, _ :: _, ⟨⟨_, ho⟩, r⟩, _, hu => by
    rcases List.mem_cons.1 hu with rfl | h
    · exact ho
    · exact Cells.one r _ h
  | [], _ :: _, h, _, _ => h.elim
  | _ :: _, [], h, _, _ => h.elim

theorem Cells.append {F w} : ∀ {l us m vs}, Cells F w l us → Cells F w m vs → Cells F w (l ++ m) (us ++ vs)
  | [], [], _, _, _, k => k
  | _ :: _, _ :: _, _, _, ⟨h, r⟩, k => ⟨h, Cells.append r k⟩
  | [], _ :: _, _, _, h, _ => h.elim
  | _ :: _, [], _, _, h, _ => h.elim

theorem Cells.split {F w} : ∀ {l m ts}, Cells F w (l ++ m) ts → ∃ us vs, ts = us ++ vs ∧ Cells F w l us ∧ Cells F w m vs
  | [], _, ts, h => ⟨[], ts, rfl, trivial, h⟩
  | _ :: _, _, t :: _, ⟨h, r⟩ => by
    obtain ⟨us, vs, rfl, h1, h2⟩ := Cells.split r
    exact ⟨t :: us, vs, rfl, ⟨h, h1⟩, h2⟩
  | _ :: _, _, [], h => h.elim

theorem Cells.get {F : Foot} {w : World} : ∀ {l : List Spec} {us : List Value}, Cells F w l us → ∀ {i : Nat} {S : Spec}, l[i]? = some S → ∃ u : Value, us[i]? = some u ∧ S.holds F w u ∧ u.oneCell' = true
  | [], [], _, i, _, hi => by simp at hi
  | S :: _, u :: _, ⟨⟨h, ho⟩, r⟩, i, T, hi => by
    cases i with
    | zero => simp at hi; subst hi; exact ⟨u, rfl, h, ho⟩
    | succ i => exact Cells.get r (by simpa using hi)
  | [], _ :: _, h, _, _, _ => h.elim
  | _ :: _, [], h, _, _, _ => h.elim

theorem Cells.set {F w} : ∀ {l us}, Cells F w l us → ∀ {i S u}, S.holds F w u → u.oneCell' = true → Cells F w (l.set i S) (us.set i u)
  | [], [], _, _, _, _, _, _ => trivial
  | _ :: _, _ :: _, ⟨h, r⟩, i, _, _, hs, ho => by
    cases i with
    | zero => exact ⟨⟨hs, ho⟩, r⟩
    | succ i => exact ⟨h, Cells.set r hs ho⟩
  | [], _ :: _, h, _, _, _, _, _ => h.elim
  | _ :: _, [], h, _, _, _, _, _ => h.elim

/-- The cells from a place on. -/
def At (F : Foot) (w : World) (b o : Nat) (us : List Value) : Prop := (us ≠ [] → F b) ∧ ∀ j u, us[j]? = some u → w.cell? ⟨b, o + j, none⟩ = some u

theorem lt_of_cell {w : World} {a : Addr} {v : Value} (h : w.cell? a = some v) : a.block < w.heap.size := by
  unfold World.cell? at h
  split at h
  · rename_i heq
    exact (Array.getElem?_eq_some_iff.1 heq).1
  · cases h

theorem At.keep {F w F' w' b o us} (h : At F w b o us) (k : Kp F w F' w') : At F' w' b o us := by
  by_cases hn : us = []
  · subst hn; exact ⟨fun h => (h rfl).elim, fun j u hj => by simp at hj⟩
  · have hF := h.1 hn
    have hb : b < w.heap.size := by
      obtain ⟨u, us, rfl⟩ : ∃ u r, us = u :: r := by
        cases us with
        | nil => exact (hn rfl).elim
        | cons u r => exact ⟨u, r, rfl⟩
      exact lt_of_cell (h.2 0 u rfl)
    exact ⟨fun _ => (k b hF hb).1, fun j u hj => by rw [World.cell?_of_block (w := w) (k b hF hb).2]; exact h.2 j u hj⟩

theorem At.left {F w b o us vs} (h : At F w b o (us ++ vs)) : At F w b o us :=
  ⟨fun hn => h.1 (by simp [hn]), fun j u hj => h.2 j u (by rw [List.getElem?_append_left (List.getElem?_eq_some_iff.1 hj).1]; exact hj)⟩

theorem At.right {F w b o us vs} (h : At F w b o (us ++ vs)) : At F w b (o + us.length) vs :=
  ⟨fun hn => h.1 (by simp [hn]), fun j u hj => by
    have := h.2 (us.length + j) u (by rw [List.getElem?_append_right (by omega)]; simpa using hj)
    rwa [Nat.add_assoc]⟩

/-- A struct or an array by value. -/
def sagg (l : List Spec) : Spec where
  holds F w v := ∃ us, v = .agg us.toArray ∧ Cells F w l us
  keep := by rintro F w F' w' v ⟨us, h, c⟩ k; exact ⟨us, h, c.keep k⟩

/-- A pointer to cells that stay as they are. -/
def spts (l : List Spec) : Spec where
  holds F w v := ∃ b o us, v = .pointer (some ⟨b, o, none⟩) ∧ Cells F w l us ∧ At F w b o us
  keep := by rintro F w F' w' v ⟨b, o, us, h, c, a⟩ k; exact ⟨b, o, us, h, c.keep k, a.keep k⟩

/-- A slice whose elements stay as they are; K says the cells of an element. -/
def slc {α : Type} (K : α → List Spec) (l : List α) : Spec where
  holds F w v := ∃ ao c us, v = .slice ao l.length c ∧ Cells F w (l.flatMap K) us ∧
    (match ao with
     | none => l = [] ∧ c = 0
     | some p => p.spot = none ∧ l.length ≤ c ∧ At F w p.block p.off us)
  keep := by
    rintro F w F' w' v ⟨ao, c, us, h, hc, hm⟩ k
    refine ⟨ao, c, us, h, hc.keep k, ?_⟩
    cases ao with
    | none => exact hm
    | some p => exact ⟨hm.1, hm.2.1, hm.2.2.keep k⟩

/-- The spec of a slot: the first one that is listed. -/
def look : List (Nat × Spec) → Nat → Option Spec
  | [], _ => none
  | (d, S) :: L, t => match Nat.beq d t with
    | true => some S
    | false => look L t

theorem look_cons (d : Nat) (S : Spec) (L : List (Nat × Spec)) (t : Nat) : look ((d, S) :: L) t = if d = t then some S else look L t := by
  unfold look
  cases h : Nat.beq d t with
  | true => rw [if_pos (Nat.eq_of_beq_eq_true h)]
  | false => rw [if_neg (Nat.ne_of_beq_eq_false h)]; cases L <;> rfl

/-- What the call owns: a block of cells, or a slice that it appends to. -/
inductive Ent where
  | blk (b : Nat) (e : TypeId) (l : List Spec)
  | row (v : Value) (e : TypeId) (sz n : Nat) (l : List Spec)
  | obj (b : Nat) (o : Obj)

def Ent.block : Ent → Option Nat
  | .blk b _ _ => some b
  | .row v _ _ _ _ => v.ownBlock
  | .obj b _ => some b

def Ent.ok (F : Foot) (w : World) : Ent → Prop
  | .blk b e l => ∃ us : List Value, w.heap[b]? = some (.cells us.toArray e (0, 0)) ∧ Cells F w l us
  | .row v e sz n l => ∃ us, w.ownsRow 0 e sz v n us ∧ Cells F w l us
  | .obj b o => w.heap[b]? = some o

abbrev Owns := List (Nat × Ent)

/-- The blocks that are not the call's own. -/
def FM (F0 : Foot) (M : Owns) : Foot := fun k => F0 k ∧ ∀ e ∈ M, e.2.block ≠ some k

/-- What is said holds whatever the blocks are. -/
def Free (S : Spec) : Prop := ∀ F w v F' w', S.holds F w v → S.holds F' w' v

/-- What is fixed of a program: its variables as they are laid (the number of each, and its cells). -/
structure Env where
  P : Program
  GT : List (Nat × List Spec)
  gn : Nat
  lt : ∀ p ∈ GT, p.1 < gn
  free : ∀ p ∈ GT, ∀ S ∈ p.2, Free S
  mixed : P.follows .mixedOrders = true

/-- The variables hold what is laid. -/
def Env.G (E : Env) (w : World) : Prop := ∀ p ∈ E.GT, ∃ us, Cells (fun _ => True) w p.2 us ∧ ∀ j u, us[j]? = some u → w.cell? ⟨p.1, j, none⟩ = some u

theorem cells_free {F : Foot} {w : World} {F' : Foot} {w' : World} : ∀ {l : List Spec} {us : List Value}, (∀ S ∈ l, Free S) → Cells F w l us → Cells F' w' l us
  | [], [], _, _ => trivial
  | S :: _, _ :: _, hf, ⟨⟨h, ho⟩, r⟩ => ⟨⟨hf S (by simp) _ _ _ _ _ h, ho⟩, cells_free (fun T hT => hf T (by simp [hT])) r⟩
  | [], _ :: _, _, h => h.elim
  | _ :: _, [], _, h => h.elim

theorem Env.stab (E : Env) {w w' : World} (h : E.G w) (hb : ∀ k, k < E.gn → w'.heap[k]? = w.heap[k]?) : E.G w' := fun p hp => by
  obtain ⟨us, h1, h2⟩ := h p hp
  exact ⟨us, cells_free (E.free p hp) h1, fun j u hj => by rw [World.cell?_of_block (w := w) (hb p.1 (E.lt p hp))]; exact h2 j u hj⟩

/-- What is fixed of a call: the world at its begin, the blocks that it may turn, the blocks that its arguments may read. -/
structure Ctx where
  E : Env
  w0 : World
  C : List Nat
  F0 : Foot
  ds : List Deferred

structure Kept (C : List Nat) (w w' : World) : Prop where
  os : w'.os = w.os
  tape : w'.tape = w.tape
  output : w'.output = w.output
  size : w.heap.size ≤ w'.heap.size
  block : ∀ k, k < w.heap.size → k ∉ C → w'.heap[k]? = w.heap[k]?

/-- Memory has grown; nothing that was there has turned. -/
abbrev Grow (w w' : World) : Prop := Below w.heap.size w w'

theorem Kept.refl (C : List Nat) (w : World) : Kept C w w := ⟨rfl, rfl, rfl, Nat.le_refl _, fun _ _ _ => rfl⟩
theorem Kept.grow {C : List Nat} {w0 w w' : World} (h : Kept C w0 w) (g : Grow w w') : Kept C w0 w' :=
  ⟨g.os.trans h.os, g.tape.trans h.tape, g.output.trans h.output, Nat.le_trans h.size g.size, fun k hk hc => (g.block k (Nat.lt_of_lt_of_le hk h.size)).trans (h.block k hk hc)⟩
theorem Grow.kp {w w' : World} (g : Grow w w') (F : Foot) : Kp F w F w' := fun k h hk => ⟨h, g.block k hk⟩
theorem Grow.trans {a b c : World} (h : Grow a b) (k : Grow b c) : Grow a c := Below.trans h (k.mono h.size)

structure Ctx.Good (Γ : Ctx) : Prop where
  gn : Γ.E.gn ≤ Γ.w0.heap.size
  gC : ∀ k ∈ Γ.C, Γ.E.gn ≤ k
  fresh : ∀ k, k < Γ.E.gn ∨ Γ.w0.heap.size ≤ k → Γ.F0 k
  cF : ∀ k ∈ Γ.C, Γ.F0 k

/-- A state of a walk: n slots, what is owned, what is said of each slot. -/
structure St (n : Nat) (Γ : Ctx) (M : Owns) (L : List (Nat × Spec)) (a : Act) (w : World) : Prop where
  good : Γ.Good
  size : a.tmps.size = n
  defs : a.defers = Γ.ds
  glob : Γ.E.G w
  kept : Kept Γ.C Γ.w0 w
  own : ∀ e ∈ M, e.2.ok (FM Γ.F0 M) w ∧ ∀ k, e.2.block = some k → k < w.heap.size ∧ (Γ.w0.heap.size ≤ k ∨ k ∈ Γ.C)
  dis : M.Pairwise fun x y => ∀ k, x.2.block = some k → y.2.block ≠ some k
  slots : ∀ t S, look L t = some S → ∃ v, a.tmps[t]? = some v ∧ S.holds (FM Γ.F0 M) w v

theorem ownBlock_block {w : World} {e : TypeId} {sz n : Nat} {v : Value} {us : List Value} {k : Nat} (h : w.ownsRow 0 e sz v n us) (hk : v.ownBlock = some k) : k < w.heap.size := (h.lt k hk).2

theorem ownsRow_of_block {w w' : World} {e : TypeId} {sz n : Nat} {v : Value} {us : List Value} (h : w.ownsRow 0 e sz v n us)
    (hb : ∀ k, v.ownBlock = some k → w'.heap[k]? = w.heap[k]?) : w'.ownsRow 0 e sz v n us := by
  obtain ⟨h1, h2⟩ := h
  refine ⟨h1, ?_⟩
  rcases h2 with h2 | ⟨g, cap, cur, hv, hg, hh, r⟩
  · exact Or.inl h2
  · exact Or.inr ⟨g, cap, cur, hv, hg, by rw [hb g (by rw [hv]; rfl)]; exact hh, r⟩

theorem Ent.keep {F w F' w'} {e : Ent} (h : e.ok F w) (k : Kp F w F' w') (hb : ∀ k, e.block = some k → w'.heap[k]? = w.heap[k]?) : e.ok F' w' := by
  cases e with
  | blk b e l =>
    obtain ⟨us, hh, hc⟩ := h
    exact ⟨us, by rw [hb b rfl]; exact hh, hc.keep k⟩
  | row v e sz n l =>
    obtain ⟨us, hr, hc⟩ := h
    exact ⟨us, ownsRow_of_block hr hb, hc.keep k⟩
  | obj b o => exact (hb b rfl).trans h

section
variable {n : Nat} {Γ : Ctx} {M : Owns} {L : List (Nat × Spec)} {a : Act} {w w' : World}

theorem St.gnle (h : St n Γ M L a w) : Γ.E.gn ≤ w.heap.size := Nat.le_trans h.good.gn h.kept.size

theorem St.fresh' (h : St n Γ M L a w) (k : Nat) (hk : k < Γ.E.gn ∨ w.heap.size ≤ k) : FM Γ.F0 M k := by
  refine ⟨h.good.fresh k (hk.imp id (Nat.le_trans h.kept.size)), fun e he hb => ?_⟩
  rcases hk with hk | hk
  · rcases ((h.own e he).2 k hb).2 with h1 | h1
    · have := h.good.gn; omega
    · have := h.good.gC k h1; omega
  · have := ((h.own e he).2 k hb).1; omega
theorem St.fresh (h : St n Γ M L a w) (k : Nat) (hk : w.heap.size ≤ k) : FM Γ.F0 M k := h.fresh' k (.inr hk)

theorem St.grow (h : St n Γ M L a w) (g : Grow w w') : St n Γ M L a w' where
  good := h.good
  size := h.size
  defs := h.defs
  glob := Γ.E.stab h.glob fun k hk => g.block k (Nat.lt_of_lt_of_le hk h.gnle)
  kept := h.kept.grow g
  own := fun e he => by
    obtain ⟨h1, h2⟩ := h.own e he
    exact ⟨Ent.keep h1 (g.kp _) (fun k hk => g.block k (h2 k hk).1), fun k hk => ⟨Nat.lt_of_lt_of_le (h2 k hk).1 g.size, (h2 k hk).2⟩⟩
  dis := h.dis
  slots := fun t S hS => by
    obtain ⟨v, h1, h2⟩ := h.slots t S hS
    exact ⟨v, h1, S.keep h2 (g.kp _)⟩

theorem St.put {d : Nat} {S : Spec} {v : Value} (h : St n Γ M L a w) (hd : d < n) (hv : S.holds (FM Γ.F0 M) w v) : St n Γ M ((d, S) :: L) (a.put (some d) v) w where
  good := h.good
  size := by simp [Act.put, h.size]
  defs := h.defs
  glob := h.glob
  kept := h.kept
  own := h.own
  dis := h.dis
  slots := fun t T hT => by
    rw [look_cons] at hT
    by_cases hdt : d = t
    · subst hdt
      simp only [if_true, Option.some.injEq] at hT
      subst hT
      exact ⟨v, by simp [Act.put, h.size, hd], hv⟩
    · rw [if_neg hdt] at hT
      obtain ⟨u, h1, h2⟩ := h.slots t T hT
      exact ⟨u, by simp [Act.put, Array.getElem?_setIfInBounds_ne hdt, h1], h2⟩

theorem St.put_any {d : Option Nat} {v : Value} (h : St n Γ M L a w) (hd : ∀ t, d = some t → look L t = none) : St n Γ M L (a.put d v) w := by
  cases d with
  | none => exact h
  | some d => exact { good := h.good, size := by simp [Act.put, h.size], defs := h.defs, glob := h.glob, kept := h.kept, own := h.own, dis := h.dis, slots := fun t S hS => by
                        have hdt : d ≠ t := fun e => by subst e; rw [hd d rfl] at hS; cases hS
                        obtain ⟨u, h1, h2⟩ := h.slots t S hS
                        exact ⟨u, by simp [Act.put, Array.getElem?_setIfInBounds_ne hdt, h1], h2⟩ }
end

/-- What is said of an operand. -/
def opv (L : List (Nat × Spec)) : Operand → Option Spec
  | .tmp t => look L t
  | .const v => some (sval v)
  | .global g => some (sval (.pointer (some ⟨g, 0, none⟩)))
  | .func f => some (sval (.func (.func f) #[] #[]))

theorem St.opv {n : Nat} {Γ : Ctx} {M : Owns} {L : List (Nat × Spec)} {a : Act} {w : World} {x : Operand} {S : Spec} (h : St n Γ M L a w) (hx : Go.Vx.opv L x = some S) : S.holds (FM Γ.F0 M) w (a.eval x) := by
  cases x with
  | tmp t =>
    obtain ⟨v, h1, h2⟩ := h.slots t S hx
    show S.holds _ _ (a.tmps.getD t undef)
    rw [Array.getD_eq_getD_getElem?, h1]; exact h2
  | const v => simp [Go.Vx.opv] at hx; subst hx; rfl
  | global g => simp [Go.Vx.opv] at hx; subst hx; rfl
  | func f => simp [Go.Vx.opv] at hx; subst hx; rfl

/-- The walk from every state of this kind on. -/
def Run (n : Nat) (Γ : Ctx) (M : Owns) (L : List (Nat × Spec)) (X : Act → World → Prop) : Prop := ∀ a w, St n Γ M L a w → X a w

/-- An operation gives a value of which S holds; memory grows at most. -/
def Yields (n : Nat) (Γ : Ctx) (M : Owns) (L : List (Nat × Spec)) (o : Oper) (S : Spec) : Prop :=
  ∀ a w, St n Γ M L a w → ∀ (K : Act → World → Prop) (Q : Exit → Act → World → Prop),
    (∀ v w', Grow w w' → S.holds (FM Γ.F0 M) w' v → K (a.put o.dst v) w') → o.wp Γ.E.P a w K Q

section
variable {n : Nat} {Γ : Ctx} {M : Owns} {L : List (Nat × Spec)} {ops : Array Oper} {Q : Exit → Act → World → Prop} {rest : List Oper} {o : Oper}

theorem wpList_of_wp {P : Program} {a : Act} {w : World} (hw : Region.wanted o (yielded ops a.tmps) = true) (h : o.wp P a w (wpList P ops Q rest) Q) : wpList P ops Q (o :: rest) a w := by
  unfold wpList
  rw [if_pos hw]
  exact .inl h

theorem wpList_of_skip {P : Program} {a : Act} {w : World} (hw : Region.wanted o (yielded ops a.tmps) = false) (h : wpList P ops Q rest (a.put o.dst undef) w) : wpList P ops Q (o :: rest) a w := by
  unfold wpList
  rw [if_neg (by simp [hw])]
  exact h

theorem Run.op {d : Nat} {S : Spec} (hg : o.guard = none) (hd : o.dst = some d) (hn : Nat.ble (d + 1) n = true) (hy : Yields n Γ M L o S)
    (h : Run n Γ M ((d, S) :: L) (wpList Γ.E.P ops Q rest)) : Run n Γ M L (wpList Γ.E.P ops Q (o :: rest)) := fun a w hs =>
  wpList_of_wp (by simp [Region.wanted, hg]) (hy a w hs _ _ fun v w' g hv => by
    rw [hd]
    exact h _ _ ((hs.grow g).put (Nat.le_of_ble_eq_true hn) hv))

theorem wanted_of {a : Act} {w : World} {j t : Nat} {want b : Bool} (hg : o.guard = some (j, want)) (hj : (ops[j]?).bind (·.dst) = some t) (ht : look L t = some (sval (.bool b))) (hs : St n Γ M L a w) :
    Region.wanted o (yielded ops a.tmps) = (b == want) := by
  obtain ⟨v, h1, h2⟩ := hs.slots t _ ht
  have h2' : v = .bool b := h2
  subst h2'
  simp [Region.wanted, hg, yielded, hj, h1]

/-- A guarded operation that is carried out. -/
theorem Run.opG {d j t : Nat} {want : Bool} {S : Spec} (hg : o.guard = some (j, want)) (hj : (ops[j]?).bind (·.dst) = some t) (ht : look L t = some (sval (.bool want)))
    (hd : o.dst = some d) (hn : Nat.ble (d + 1) n = true) (hy : Yields n Γ M L o S)
    (h : Run n Γ M ((d, S) :: L) (wpList Γ.E.P ops Q rest)) : Run n Γ M L (wpList Γ.E.P ops Q (o :: rest)) := fun a w hs =>
  wpList_of_wp (by rw [wanted_of hg hj ht hs]; simp) (hy a w hs _ _ fun v w' g hv => by
    rw [hd]
    exact h _ _ ((hs.grow g).put (Nat.le_of_ble_eq_true hn) hv))

/-- A guarded operation that is passed over. -/
theorem Run.opS {d j t : Nat} {want b : Bool} (hg : o.guard = some (j, want)) (hj : (ops[j]?).bind (·.dst) = some t) (ht : look L t = some (sval (.bool b))) (hb : (b == want) = false)
    (hd : o.dst = some d) (hn : Nat.ble (d + 1) n = true)
    (h : Run n Γ M ((d, sany) :: L) (wpList Γ.E.P ops Q rest)) : Run n Γ M L (wpList Γ.E.P ops Q (o :: rest)) := fun a w hs =>
  wpList_of_skip (by rw [wanted_of hg hj ht hs, hb]) (by
    rw [hd]
    exact h _ _ (hs.put (S := sany) (Nat.le_of_ble_eq_true hn) trivial))

theorem Run.nil (h : Run n Γ M L (Q .normal)) : Run n Γ M L (wpList Γ.E.P ops Q []) := h

/-! Code -/
variable {P : Program} {x y c : Code}

theorem Run.seq (h : Run n Γ M L (x.wp P (Exit.then (y.wp P Q) Q))) : Run n Γ M L ((Code.seq x y).wp P Q) := fun a w hs => wp_seq (h a w hs)
theorem Run.region {id : Nat} {l : List Oper} (h : Run n Γ M L (wpList P l.toArray Q l)) : Run n Γ M L ((Code.region id l.toArray false).wp P Q) := fun a w hs => wp_region_lit (h a w hs)
theorem Run.skip (h : Run n Γ M L (Q .normal)) : Run n Γ M L (Code.skip.wp P Q) := fun a w hs => wp_skip (h a w hs)
theorem Run.exit {id : Nat} (h : Run n Γ M L (Q (.exit id))) : Run n Γ M L ((Code.exit id).wp P Q) := fun a w hs => wp_exit (h a w hs)
theorem Run.ret (h : Run n Γ M L (Q .ret)) : Run n Γ M L (Code.ret.wp P Q) := fun a w hs => wp_ret (h a w hs)
theorem Run.block {id : Nat} (h : Run n Γ M L (c.wp P (Exit.inBlock id Q))) : Run n Γ M L ((Code.block id c).wp P Q) := fun a w hs => wp_block (h a w hs)

theorem Run.cond {t : Operand} {b : Bool} (ht : opv L t = some (sval (.bool b))) (h1 : b = true → Run n Γ M L (x.wp P Q)) (h0 : b = false → Run n Γ M L (y.wp P Q)) :
    Run n Γ M L ((Code.cond t x y).wp P Q) := fun a w hs => by
  have he : a.eval t = .bool b := hs.opv ht
  exact wp_cond_split he (fun h => h1 h a w hs) (fun h => h0 h a w hs)
theorem Run.cond1 {t : Operand} (ht : opv L t = some (sval (.bool true))) (h1 : Run n Γ M L (x.wp P Q)) : Run n Γ M L ((Code.cond t x y).wp P Q) :=
  Run.cond ht (fun _ => h1) (fun h => by cases h)
theorem Run.cond0 {t : Operand} (ht : opv L t = some (sval (.bool false))) (h1 : Run n Γ M L (y.wp P Q)) : Run n Γ M L ((Code.cond t x y).wp P Q) :=
  Run.cond ht (fun h => by cases h) (fun _ => h1)

/-- What is said of the slots may be forgotten, or said otherwise. -/
def Incl (Γ : Ctx) (M : Owns) (L L' : List (Nat × Spec)) : Prop :=
  ∀ t S', look L' t = some S' → ∃ S, look L t = some S ∧ ∀ w v, S.holds (FM Γ.F0 M) w v → S'.holds (FM Γ.F0 M) w v

theorem Incl.nil : Incl Γ M L [] := fun _ _ h => by cases h
theorem Incl.cons {L' : List (Nat × Spec)} {t : Nat} {S S' : Spec} (h : look L t = some S) (hc : ∀ w v, S.holds (FM Γ.F0 M) w v → S'.holds (FM Γ.F0 M) w v) (r : Incl Γ M L L') : Incl Γ M L ((t, S') :: L') := by
  intro u T hT
  rw [look_cons] at hT
  by_cases e : t = u
  · subst e; simp only [if_true, Option.some.injEq] at hT; subst hT; exact ⟨S, h, hc⟩
  · rw [if_neg e] at hT; exact r u T hT
/-- the same said of a slot -/
theorem Incl.same {L' : List (Nat × Spec)} {t : Nat} {S : Spec} (h : look L t = some S) (r : Incl Γ M L L') : Incl Γ M L ((t, S) :: L') := Incl.cons h (fun _ _ h => h) r
/-- a number that is equal -/
theorem Incl.int {L' : List (Nat × Spec)} {t : Nat} {k : IntKind} {p q : Int} (h : look L t = some (sval (.int k p))) (e : p = q) (r : Incl Γ M L L') : Incl Γ M L ((t, sval (.int k q)) :: L') := Incl.cons h (fun _ _ h => by subst e; exact h) r
theorem Incl.eq {L' : List (Nat × Spec)} {t : Nat} {S S' : Spec} (h : look L t = some S) (e : S = S') (r : Incl Γ M L L') : Incl Γ M L ((t, S') :: L') := Incl.cons h (fun _ _ h => by subst e; exact h) r
theorem Incl.any {L' : List (Nat × Spec)} {t : Nat} {S : Spec} (h : look L t = some S) (r : Incl Γ M L L') : Incl Γ M L ((t, sany) :: L') := Incl.cons h (fun _ _ _ => trivial) r

theorem St.incl {L' : List (Nat × Spec)} {a : Act} {w : World} (h : St n Γ M L a w) (hi : Incl Γ M L L') : St n Γ M L' a w :=
  { good := h.good, size := h.size, defs := h.defs, glob := h.glob, kept := h.kept, own := h.own, dis := h.dis, slots := fun t S hS => by
      obtain ⟨T, h1, h2⟩ := hi t S hS
      obtain ⟨v, h3, h4⟩ := h.slots t T h1
      exact ⟨v, h3, h2 _ _ h4⟩ }

theorem Run.weaken {L' : List (Nat × Spec)} {X : Act → World → Prop} (hi : Incl Γ M L L') (h : Run n Γ M L' X) : Run n Γ M L X := fun a w hs => h a w (hs.incl hi)

/-- What a round that goes on leaves. -/
def LoopEnd {ι : Type} (n : Nat) (Γ : Ctx) (I : ι → Prop) (μ : ι → Nat) (Mi : ι → Owns) (Li : ι → List (Nat × Spec)) (i : ι) : Act → World → Prop := fun a w => ∃ j, I j ∧ μ j < μ i ∧ St n Γ (Mi j) (Li j) a w
/-- What a way to a cut leaves. -/
def CutEnd {ι : Type} (n : Nat) (Γ : Ctx) (I : ι → Prop) (Mi : ι → Owns) (Li : ι → List (Nat × Spec)) : Act → World → Prop := fun a w => ∃ j, I j ∧ St n Γ (Mi j) (Li j) a w

/-- A loop by an invariant over ghosts. -/
theorem Run.loop {ι : Type} (I : ι → Prop) (μ : ι → Nat) (Mi : ι → Owns) (Li : ι → List (Nat × Spec)) (i₀ : ι) (h₀ : I i₀) (hM : Mi i₀ = M) (hL : Incl Γ M L (Li i₀))
    (round : ∀ i, I i → Run n Γ (Mi i) (Li i) (c.wp P (Exit.then (LoopEnd n Γ I μ Mi Li i) Q))) :
    Run n Γ M L ((Code.loop c).wp P Q) := fun a w hs => by
  subst hM
  classical
  refine wp_loop (fun a w => ∃ i, I i ∧ St n Γ (Mi i) (Li i) a w)
    (fun a w => if h : ∃ m i, I i ∧ μ i = m ∧ St n Γ (Mi i) (Li i) a w then Classical.choose (p := fun m => ∃ i, I i ∧ μ i = m ∧ St n Γ (Mi i) (Li i) a w ∧ ∀ j, I j → St n Γ (Mi j) (Li j) a w → m ≤ μ j) (by
      obtain ⟨m, hm⟩ := h
      induction m using Nat.strongRecOn with
      | _ m ih =>
        obtain ⟨i, h1, h2, h3⟩ := hm
        by_cases hl : ∃ j, I j ∧ St n Γ (Mi j) (Li j) a w ∧ μ j < m
        · obtain ⟨j, h4, h5, h6⟩ := hl
          exact ih (μ j) h6 ⟨j, h4, rfl, h5⟩
        · exact ⟨m, i, h1, h2, h3, fun j h4 h5 => Nat.le_of_not_lt fun hlt => hl ⟨j, h4, h5, hlt⟩⟩) else 0)
    ⟨i₀, h₀, hs.incl hL⟩ ?_
  rintro a w ⟨i, hi, hst⟩
  have hex : ∃ m i, I i ∧ μ i = m ∧ St n Γ (Mi i) (Li i) a w := ⟨μ i, i, hi, rfl, hst⟩
  simp only [dif_pos hex]
  generalize hm : Classical.choose _ = m
  obtain ⟨i', h1, h2, h3, h4⟩ : ∃ i, I i ∧ μ i = m ∧ St n Γ (Mi i) (Li i) a w ∧ ∀ j, I j → St n Γ (Mi j) (Li j) a w → m ≤ μ j := by
    rw [← hm]; exact Classical.choose_spec (p := fun m => ∃ i, I i ∧ μ i = m ∧ St n Γ (Mi i) (Li i) a w ∧ ∀ j, I j → St n Γ (Mi j) (Li j) a w → m ≤ μ j) _
  refine wp_mono (round i' h1 a w h3) ?_
  intro e a' w' hq
  cases e with
  | normal =>
    obtain ⟨j, hj, hlt, hstj⟩ := hq
    refine ⟨⟨j, hj, hstj⟩, ?_⟩
    have hex' : ∃ m i, I i ∧ μ i = m ∧ St n Γ (Mi i) (Li i) a' w' := ⟨μ j, j, hj, rfl, hstj⟩
    rw [dif_pos hex']
    have hsp := Classical.choose_spec (p := fun m => ∃ i, I i ∧ μ i = m ∧ St n Γ (Mi i) (Li i) a' w' ∧ ∀ j, I j → St n Γ (Mi j) (Li j) a' w' → m ≤ μ j) (by
      obtain ⟨m, hm⟩ := hex'
      induction m using Nat.strongRecOn with
      | _ m ih =>
        obtain ⟨i, h1, h2, h3⟩ := hm
        by_cases hl : ∃ j, I j ∧ St n Γ (Mi j) (Li j) a' w' ∧ μ j < m
        · obtain ⟨j, h4, h5, h6⟩ := hl
          exact ih (μ j) h6 ⟨j, h4, rfl, h5⟩
        · exact ⟨m, i, h1, h2, h3, fun j h4 h5 => Nat.le_of_not_lt fun hlt => hl ⟨j, h4, h5, hlt⟩⟩)
    obtain ⟨_, _, _, _, h5⟩ := hsp
    have := h5 j hj hstj
    omega
  | exit id => exact hq
  | goto l => exact hq
  | ret => exact hq
  | panic ch => exact hq
  | outgrown => exact hq

/-- A round's end. -/
theorem Run.round {ι : Type} {I : ι → Prop} {μ : ι → Nat} {Mi : ι → Owns} {Li : ι → List (Nat × Spec)} {i : ι} (j : ι) (hI : I j) (hμ : μ j < μ i) (hM : Mi j = M) (hL : Incl Γ M L (Li j)) :
    Run n Γ M L (LoopEnd n Γ I μ Mi Li i) := fun a w hs => ⟨j, hI, hμ, by rw [hM]; exact hs.incl hL⟩

/-- The ways through an 'if' meet again: a state for what lies behind. -/
theorem Run.cut {X : Act → World → Prop} {ι : Type} (I : ι → Prop) (Mi : ι → Owns) (Li : ι → List (Nat × Spec)) (h : Run n Γ M L (c.wp P (Exit.then (CutEnd n Γ I Mi Li) Q)))
    (k : ∀ i, I i → Run n Γ (Mi i) (Li i) X) : Run n Γ M L (c.wp P (Exit.then X Q)) := fun a w hs =>
  wp_mono (h a w hs) (by
    intro e a' w' hq
    cases e with
    | normal => obtain ⟨j, hj, hst⟩ := hq; exact k j hj a' w' hst
    | exit id => exact hq
    | goto l => exact hq
    | ret => exact hq
    | panic ch => exact hq
    | outgrown => exact hq)
theorem Run.meet {ι : Type} {I : ι → Prop} {Mi : ι → Owns} {Li : ι → List (Nat × Spec)} (j : ι) (hI : I j) (hM : Mi j = M) (hL : Incl Γ M L (Li j)) :
    Run n Γ M L (CutEnd n Γ I Mi Li) := fun a w hs => ⟨j, hI, by rw [hM]; exact hs.incl hL⟩
end

/-- The arguments of a call. -/
def Holds (F : Foot) (w : World) : List Spec → List Value → Prop
  | [], [] => True
  | S :: l, u :: us => S.holds F w u ∧ Holds F w l us
  | _, _ => False

theorem Holds.length {F w} : ∀ {l us}, Holds F w l us → us.length = l.length
  | [], [], _ => rfl
  | _ :: _, _ :: _, ⟨_, r⟩ => congrArg (· + 1) (Holds.length r)
  | [], _ :: _, h => h.elim
  | _ :: _, [], h => h.elim

theorem Holds.get {F : Foot} {w : World} : ∀ {l : List Spec} {us : List Value}, Holds F w l us → ∀ {i : Nat} {S : Spec}, l[i]? = some S → ∃ u : Value, us[i]? = some u ∧ S.holds F w u
  | [], [], _, i, _, hi => by simp at hi
  | S :: _, u :: _, ⟨h, r⟩, i, T, hi => by
    cases i with
    | zero => simp at hi; subst hi; exact ⟨u, rfl, h⟩
    | succ i => exact Holds.get r (by simpa using hi)
  | [], _ :: _, h, _, _, _ => h.elim
  | _ :: _, [], h, _, _, _ => h.elim

/-- A function that makes memory at most: called with arguments of these kinds it returns a value of that kind. -/
def Fn (E : Env) (f : FuncId) (As : List Spec) (S : Spec) : Prop :=
  ∀ (F : Foot) (w : World) (args : List Value), E.G w → E.gn ≤ w.heap.size → (∀ k, k < E.gn ∨ w.heap.size ≤ k → F k) → Holds F w As args →
    Calls E.P f args.toArray w fun e w' => ∃ v, e = .returned v ∧ Grow w w' ∧ S.holds F w' v

/-- How a call ends. -/
def Ctx.post (Γ : Ctx) (S : Spec) (e : Ending) (w' : World) : Prop := ∃ v, e = .returned v ∧ Grow Γ.w0 w' ∧ S.holds Γ.F0 w' v

/-- The slots at a call's begin. -/
def slots0 : Nat → List Spec → List (Nat × Spec)
  | _, [] => []
  | i, S :: l => (i, S) :: slots0 (i + 1) l

theorem look_slots0 : ∀ (l : List Spec) (i t : Nat) (S : Spec), look (slots0 i l) t = some S → i ≤ t ∧ l[t - i]? = some S
  | [], _, _, _, h => by cases h
  | T :: l, i, t, S, h => by
    rw [slots0, look_cons] at h
    by_cases e : i = t
    · subst e; rw [if_pos rfl] at h; cases h; exact ⟨Nat.le_refl _, by simp⟩
    · rw [if_neg e] at h
      obtain ⟨h1, h2⟩ := look_slots0 l (i + 1) t S h
      refine ⟨by omega, ?_⟩
      rw [show t - i = (t - (i + 1)) + 1 by omega]; simpa using h2

theorem Fn.of_run {E : Env} {f : FuncId} {fn : Func} {c : Code} {As : List Spec} {S : Spec} {n : Nat} (hf : E.P.funcs[f]? = some fn) (hb : fn.body = some c) (hn : fn.ntmps = n) (hA : Nat.ble As.length n = true)
    (h : ∀ Γ : Ctx, Γ.E = E → Γ.C = [] → Γ.ds = [] → Run n Γ [] (slots0 0 As) (c.wp E.P (bodyPost E.P fn (Γ.post S)))) : Fn E f As S := by
  intro F w args hG hgn hF hargs
  have hlen := hargs.length
  have hA := Nat.le_of_ble_eq_true hA
  refine calls_of_wp hf hb (h ⟨E, w, [], F, []⟩ rfl rfl rfl _ _ ?_)
  refine { good := ⟨hgn, fun k hk => by simp at hk, hF, fun k hk => by simp at hk⟩, size := ?_, defs := rfl, glob := hG, kept := Kept.refl _ _, own := fun e he => by simp at he, dis := List.Pairwise.nil, slots := ?_ }
  · simp [hn, hlen]; omega
  · intro t T hT
    obtain ⟨_, h2⟩ := look_slots0 As 0 t T hT
    obtain ⟨u, hu, hh⟩ := hargs.get h2
    simp only [Nat.sub_zero] at hu
    refine ⟨u, ?_, T.keep hh fun k hk _ => ⟨⟨hk, fun e he => by simp at he⟩, rfl⟩⟩
    rw [Array.getElem?_append_left (by simpa using (List.getElem?_eq_some_iff.1 hu).1)]
    simpa using hu

section
variable {n : Nat} {Γ : Ctx} {M : Owns} {L : List (Nat × Spec)}

theorem FM_le {F0 : Foot} {w w' : World} (g : w' = w) : Kp (FM F0 M) w F0 w' := fun k h _ => ⟨h.1, by rw [g]⟩

/-- One result, in a slot. -/
theorem Run.fin {P : Program} {fn : Func} {t : Nat} {S S' : Spec} (hr : fn.results = #[.tmp t]) (hC : Γ.C = []) (hD : Γ.ds = []) (ht : look L t = some S') (hc : ∀ w v, S'.holds Γ.F0 w v → S.holds Γ.F0 w v) :
    Run n Γ M L (bodyPost P fn (Γ.post S) .ret) := fun a w hs => by
  obtain ⟨v, h1, h2⟩ := hs.slots t S' ht
  have e : a.tmps.getD t undef = v := by rw [Array.getD_eq_getD_getElem?, h1]; rfl
  refine bodyPost_ret (results_tmp hr a.tmps P w) (hs.defs.trans hD) ⟨_, rfl, ?_, ?_⟩
  · exact ⟨hs.kept.os, hs.kept.tape, hs.kept.output, hs.kept.size, fun k hk => hs.kept.block k hk (by simp [hC])⟩
  · rw [e]; exact hc _ _ (S'.keep h2 (FM_le rfl))
end

end Go.Vx
