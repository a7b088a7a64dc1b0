/- A region that draws its order and holds a chain of operations that turn what is owned, among others that do not. Conditions: the chain's order is forced; each other operation serves in every phase in which it can stand. -/
import Derived.Test.YtofnjbcbkfbomaaDoorV3
namespace Go.Vx
open Go Go.RowKit
section
variable {n : Nat} {Γ : Ctx} {L : List (Nat × Spec)} {ops : Array Oper} {Q : Exit → Act → World → Prop} {o : Oper} {β : Type}

/-- An operation of the chain: its number, its slot, what is said of the slot. -/
structure ChOp (β : Type) where
  i : Nat
  d : Option Nat
  S : β → Spec
def ChOp.slot (c : ChOp β) (b : β) : List (Nat × Spec) := match c.d with
  | some d => [(d, c.S b)]
  | none => []
/-- The slots that the chain has filled so far. -/
def Lc : List (ChOp β) → List β → List (Nat × Spec)
  | c :: cs, b :: bs => Lc cs bs ++ c.slot b
  | _, _ => []

/-- What is said in the second list is said in the first. -/
def SubL (L L' : List (Nat × Spec)) : Prop := ∀ t S, look L' t = some S → look L t = some S
theorem SubL.incl {L L' : List (Nat × Spec)} {M : Owns} (h : SubL L L') : Incl Γ M L L' := fun t S hS => ⟨S, h t S hS, fun _ _ h => h⟩
theorem SubL.opv {L L' : List (Nat × Spec)} (h : SubL L L') {x : Operand} {S : Spec} (hx : Go.Vx.opv L' x = some S) : Go.Vx.opv L x = some S := by
  cases x <;> first | exact h _ _ hx | exact hx
theorem SubL.opvs {L L' : List (Nat × Spec)} (h : SubL L L') : ∀ {xs : List Operand} {l : List Spec}, Go.Vx.opvs L' xs = some l → Go.Vx.opvs L xs = some l
  | [], l, hl => hl
  | x :: xs, l, hl => by
    unfold Go.Vx.opvs at hl ⊢
    cases hx : Go.Vx.opv L' x with
    | none => rw [hx] at hl; cases hl
    | some S =>
      rw [hx] at hl
      rw [h.opv hx]
      simp only at hl ⊢
      cases hr : Go.Vx.opvs L' xs with
      | none => rw [hr] at hl; cases hl
      | some r => rw [hr] at hl; rw [h.opvs hr]; exact hl

/-- For all ghosts of a number. -/
def PhAll (P : List β → Prop) : Nat → Prop
  | 0 => P []
  | k + 1 => ∀ b, PhAll (fun gs => P (b :: gs)) k
theorem PhAll.at {P : List β → Prop} : ∀ {k : Nat}, PhAll P k → ∀ gs, gs.length = k → P gs
  | 0, h, gs, hg => by cases gs with
    | nil => exact h
    | cons _ _ => cases hg
  | k + 1, h, gs, hg => by cases gs with
    | nil => cases hg
    | cons b gs => exact (h b).at gs (by simpa using hg)
def PhR (P : List β → Prop) : Nat → Nat → Prop
  | _, 0 => True
  | lo, c + 1 => PhAll P lo ∧ PhR P (lo + 1) c
theorem PhR.at {P : List β → Prop} : ∀ {c lo : Nat}, PhR P lo c → ∀ gs, lo ≤ gs.length → gs.length < lo + c → P gs
  | 0, lo, _, gs, h1, h2 => by omega
  | c + 1, lo, h, gs, h1, h2 => by
    by_cases e : gs.length = lo
    · exact h.1.at gs e
    · exact h.2.at gs (by omega) (by omega)

/-- The first phase in which an operation can stand, and the last one. -/
def loP (l : List Oper) (chs : List (ChOp β)) (i : Nat) : Nat := (chs.filter fun c => ((masks [] l).getD i 0).testBit c.i).length
def hiP (l : List Oper) (chs : List (ChOp β)) (i : Nat) : Nat := (chs.takeWhile fun c => !((masks [] l).getD c.i 0).testBit i).length

/-- The closed facts on the chain. -/
def chainOk (l : List Oper) (m : Nat) : List (ChOp β) → Bool
  | [] => true
  | c :: cs => Nat.blt c.i m && (cs.all fun c' => Nat.blt c.i c'.i && ((masks [] l).getD c'.i 0).testBit c.i) && (match l[c.i]? with
    | some o => (match o.dst, c.d with
      | some d, some d' => Nat.beq d d'
      | none, none => true
      | _, _ => false)
    | none => false) && chainOk l m cs

/-- The slots of the first m operations are apart, and nothing is said of them yet. -/
def slotsOkP (l : List Oper) (m : Nat) (L : List (Nat × Spec)) : Bool :=
  let ds := (l.take m).filterMap (·.dst)
  (ds.all fun d => (look L d).isNone) && ds.Nodup

abbrev inCh (chs : List (ChOp β)) (i : Nat) : Bool := chs.any fun c => Nat.beq c.i i

/-- A step of the chain. -/
def ChStep (n : Nat) (Γ : Ctx) (M : List β → Owns) (c : ChOp β) (L : List (Nat × Spec)) (ops : Array Oper) (Q : Exit → Act → World → Prop) (gs : List β) : Prop :=
  ∀ L', SubL L' L → ∀ K : Act → World → Prop, (∀ b, Run n Γ (M (gs ++ [b])) (c.slot b ++ L') K) → Run n Γ (M gs) L' (wpOp Γ.E.P ops Q c.i K)

def ChsOk (n : Nat) (Γ : Ctx) (M : List β → Owns) (chs : List (ChOp β)) (L : List (Nat × Spec)) (l : List Oper) (Q : Exit → Act → World → Prop) (B : Said) : Nat → List (ChOp β) → Prop
  | _, [] => True
  | j, c :: cs => (∃ o, l[c.i]? = some o ∧ PhAll (fun gs => ChStep n Γ M c (Lc chs gs ++ (avail B o ++ L)) l.toArray Q gs) j) ∧ ChsOk n Γ M chs L l Q B (j + 1) cs

theorem ChsOk.at {M : List β → Owns} {chs : List (ChOp β)} {l : List Oper} {B : Said} : ∀ {cs : List (ChOp β)} {j : Nat}, ChsOk n Γ M chs L l Q B j cs → ∀ {k : Nat} {c : ChOp β}, cs[k]? = some c → ∀ {o : Oper}, l[c.i]? = some o → ∀ gs, gs.length = j + k → ChStep n Γ M c (Lc chs gs ++ (avail B o ++ L)) l.toArray Q gs
  | [], _, _, k, c, hk, _, _, _, _ => by simp at hk
  | c0 :: cs, j, h, k, c, hk, o, ho, gs, hg => by
    cases k with
    | zero =>
      simp at hk
      subst hk
      obtain ⟨⟨o', ho', h1⟩, _⟩ := h
      rw [ho] at ho'
      cases ho'
      exact h1.at gs (by simpa using hg)
    | succ k => exact ChsOk.at h.2 (by simpa using hk) ho gs (by omega)

/-- The region's operations in whatever order. -/
def dwp (P : Program) (l : List Oper) (Q : Exit → Act → World → Prop) (a : Act) (w : World) : Prop :=
  wpAny P .any l.toArray Q l.toArray.size (Array.replicate l.toArray.size false) a { w with drawn := w.drawn + 1 }

/-- What has been said so far, in the walk through such a region: i operations. -/
def DrawP (n : Nat) (Γ : Ctx) (M : List β → Owns) (chs : List (ChOp β)) (L : List (Nat × Spec)) (l : List Oper) (Q : Exit → Act → World → Prop) (_id : Nat) (i : Nat) (B : Said) : Prop :=
  (∀ p ∈ B, ∃ o, l[p.1]? = some o ∧ o.dst = some p.2.1 ∧ ∀ gs, loP l chs p.1 ≤ gs.length → gs.length ≤ hiP l chs p.1 → StepOk n Γ (M gs) (Lc chs gs ++ (avail B o ++ L)) l.toArray Q p.1 p.2.1 p.2.2) →
    (B.map (·.1) = ((List.range i).filter (fun i => !inCh chs i)).reverse) → Run n Γ (M []) L (dwp Γ.E.P l Q)

theorem Run.drawP {M : Owns} {l : List Oper} {id : Nat} {P : Program} (fM : Owns → List β → Owns) (chs : List (ChOp β)) (h0 : fM M [] = M) (hP : P = Γ.E.P) (h : DrawP n Γ (fM M) chs L l Q id 0 []) : Run n Γ M L ((Code.region id l.toArray true).wp P Q) := by
  subst hP
  have := h (fun p hp => by cases hp) rfl
  rw [h0] at this
  exact fun a w hs => wp_region_any Γ.E.mixed (this a w hs)

/-- The next operation of the text. -/
theorem DrawP.step {M : List β → Owns} {chs : List (ChOp β)} {l : List Oper} {id i d : Nat} {B : Said} {S : Spec} (lo c : Nat) (ho : l[i]? = some o) (hd : o.dst = some d) (hdep : (deps o).all (fun j => Nat.blt j i) = true)
    (hlo : Nat.ble lo (loP l chs i) = true) (hhi : Nat.blt (hiP l chs i) (lo + c) = true) (hs : PhR (fun gs => StepOk n Γ (M gs) (Lc chs gs ++ (avail B o ++ L)) l.toArray Q i d S) lo c)
    (hall : (l.take i).all (fun o => (deps o).all (fun j => Nat.blt j i)) = true) (hia : inCh chs i = false) (h : DrawP n Γ M chs L l Q id (i + 1) ((i, d, S) :: B)) : DrawP n Γ M chs L l Q id i B := fun hB hk => by
  refine h (fun p hp => ?_) (by
    rw [List.map_cons, hk, List.range_succ, List.filter_append, List.reverse_append, List.filter_cons_of_pos (by simpa using hia)]; rfl)
  rcases List.mem_cons.1 hp with rfl | hp
  · refine ⟨o, ho, hd, fun gs h1 h2 => ?_⟩
    rw [avail_cons (fun j hj => by have := List.all_eq_true.1 hdep j hj; exact Nat.le_of_ble_eq_true this)]
    have := Nat.le_of_ble_eq_true hlo
    have hhi' : hiP l chs i < lo + c := Nat.le_of_ble_eq_true hhi
    exact hs.at gs (by simp only at h1; omega) (by simp only at h2; omega)
  · obtain ⟨o', h1, h2, h3⟩ := hB p hp
    refine ⟨o', h1, h2, ?_⟩
    rw [avail_cons fun j hj => ?_]
    · exact h3
    · have hpi : p.1 < i := by
        have : p.1 ∈ B.map (·.1) := List.mem_map_of_mem hp
        rw [hk, List.mem_reverse, List.mem_filter] at this
        simpa using this.1
      have hm : o' ∈ l.take i := by
        refine List.mem_of_getElem? (i := p.1) ?_
        rw [List.getElem?_take_of_lt hpi]; exact h1
      have := List.all_eq_true.1 (List.all_eq_true.1 hall o' hm) j hj
      exact Nat.le_of_ble_eq_true this

/-- An operation of the chain stands here in the text. -/
theorem DrawP.skip {M : List β → Owns} {chs : List (ChOp β)} {l : List Oper} {id i : Nat} {B : Said} (hia : inCh chs i = true) (h : DrawP n Γ M chs L l Q id (i + 1) B) : DrawP n Γ M chs L l Q id i B := fun hB hk =>
  h hB (by rw [hk, List.range_succ, List.filter_append, List.filter_cons_of_neg (by simpa using hia)]; simp)

theorem nodup_filterMap_inj {α : Type} {f : α → Option Nat} : ∀ {l : List α}, (l.filterMap f).Nodup → ∀ {i j : Nat} {x y : α} {d : Nat}, l[i]? = some x → l[j]? = some y → f x = some d → f y = some d → i = j
  | [], _, i, _, _, _, _, hi, _, _, _ => by simp at hi
  | a :: l, h, i, j, x, y, d, hi, hj, hx, hy => by
    have hl : (l.filterMap f).Nodup := by
      cases hf : f a with
      | none => rw [List.filterMap_cons_none hf] at h; exact h
      | some b => rw [List.filterMap_cons_some hf] at h; exact (List.nodup_cons.1 h).2
    have hne : ∀ {k : Nat} {z : α}, l[k]? = some z → f a = some d → f z = some d → False := fun {k z} hk ha hz => by
      rw [List.filterMap_cons_some ha] at h
      exact (List.nodup_cons.1 h).1 (List.mem_filterMap.2 ⟨z, List.mem_of_getElem? hk, hz⟩)
    cases i with
    | zero => cases j with
      | zero => rfl
      | succ j => simp at hi hj; subst hi; exact (hne hj hx hy).elim
    | succ i => cases j with
      | zero => simp at hi hj; subst hj; exact (hne hi hy hx).elim
      | succ j => simp at hi hj; exact congrArg (· + 1) (nodup_filterMap_inj hl hi hj hx hy)

theorem look_append (A B : List (Nat × Spec)) (t : Nat) : look (A ++ B) t = match look A t with
    | some S => some S
    | none => look B t := by
  induction A with
  | nil => rfl
  | cons x A ih =>
    obtain ⟨d, S⟩ := x
    rw [List.cons_append, look_cons, look_cons]
    split
    · rfl
    · exact ih
theorem look_mem {A : List (Nat × Spec)} {t : Nat} {S : Spec} (h : look A t = some S) : (t, S) ∈ A := by
  induction A with
  | nil => cases h
  | cons x A ih =>
    obtain ⟨d, T⟩ := x
    rw [look_cons] at h
    split at h
    · rename_i e
      cases h; subst e; simp
    · exact List.mem_cons_of_mem _ (ih h)
theorem Lc_mem {p : Nat × Spec} : ∀ {chs : List (ChOp β)} {gs : List β}, p ∈ Lc chs gs → ∃ (k : Nat) (c : ChOp β) (b : β), chs[k]? = some c ∧ gs[k]? = some b ∧ c.d = some p.1 ∧ p.2 = c.S b
  | [], gs, h => by simp [Lc] at h
  | c :: cs, [], h => by simp [Lc] at h
  | c :: cs, b :: bs, h => by
    unfold Lc at h
    rcases List.mem_append.1 h with h | h
    · obtain ⟨k, c', b', h1, h2, h3, h4⟩ := Lc_mem h
      exact ⟨k + 1, c', b', by simpa using h1, by simpa using h2, h3, h4⟩
    · unfold ChOp.slot at h
      split at h
      · rename_i d hd
        simp at h
        subst h
        exact ⟨0, c, b, rfl, rfl, hd, rfl⟩
      · simp at h
theorem Lc_snoc : ∀ {chs : List (ChOp β)} {gs : List β} {c : ChOp β} {b : β}, chs[gs.length]? = some c → Lc chs (gs ++ [b]) = c.slot b ++ Lc chs gs
  | [], gs, c, b, h => by simp at h
  | c0 :: cs, [], c, b, h => by
    simp at h
    subst h
    simp [Lc]
  | c0 :: cs, b0 :: bs, c, b, h => by
    have : cs[bs.length]? = some c := by simpa using h
    rw [List.cons_append]
    unfold Lc
    rw [Lc_snoc this, List.append_assoc]

/-- The last operations, in the order of the text. -/
theorem DrawP.tail {M : List β → Owns} {chs : List (ChOp β)} {l : List Oper} {id m : Nat} {B : Said} (hch : chainOk l m chs = true) (hok : orderOk l m = true) (hsl : slotsOkP l m L = true) (hn : (B.all fun p => Nat.ble (p.2.1 + 1) n) = true)
    (hchs : ChsOk n Γ M chs L l Q B 0 chs) (h : PhAll (fun gs => Run n Γ (M gs) (Lc chs gs ++ (B.map (·.2) ++ L)) (wpList Γ.E.P l.toArray Q (l.drop m))) chs.length) : DrawP n Γ M chs L l Q id m B := fun hB hkeys => by
  intro a w hs
  have hm : m ≤ l.length := by
    unfold orderOk at hok
    simp only [Bool.and_eq_true] at hok
    exact Nat.le_of_ble_eq_true hok.2
  have hlow' : ∀ i o, l[i]? = some o → ∀ j ∈ deps o, j < i := fun i o ho j hj => by
    have hok' := hok
    unfold orderOk at hok'
    simp only [Bool.and_eq_true] at hok'
    have := List.all_eq_true.1 hok'.1.1 (o, i) (List.mem_zipIdx_iff_getElem?.2 ho)
    exact Nat.le_of_ble_eq_true (List.all_eq_true.1 this j hj)
  have hmask : ∀ x b, (masks [] l)[x]? = some b → m ≤ x → ∀ i, i < x → b.testBit i = true := fun x b hb hmx i hi => by
    have hok' := hok
    unfold orderOk at hok'
    simp only [Bool.and_eq_true] at hok'
    have hbit := List.all_eq_true.1 hok'.1.2 (b, x) (List.mem_zipIdx_iff_getElem?.2 hb)
    simp only [Bool.or_eq_true] at hbit
    rcases hbit with hbit | hbit
    · have : x < m := Nat.le_of_ble_eq_true hbit
      omega
    · exact List.all_eq_true.1 hbit i (by simpa using hi)
  -- the chain
  have hchAt : ∀ (cs : List (ChOp β)), chainOk l m cs = true → ∀ (k : Nat) (c : ChOp β), cs[k]? = some c → c.i < m ∧ (∃ o : Oper, l[c.i]? = some o ∧ o.dst = c.d) ∧ ∀ (k' : Nat) (c' : ChOp β), cs[k']? = some c' → k < k' → c.i < c'.i ∧ ((masks [] l).getD c'.i 0).testBit c.i = true := by
    intro cs
    induction cs with
    | nil => intro _ k c hk; simp at hk
    | cons c0 cs ih =>
      intro hc k c hk
      unfold chainOk at hc
      simp only [Bool.and_eq_true] at hc
      obtain ⟨⟨⟨hc1, hc2⟩, hc3⟩, hc4⟩ := hc
      cases k with
      | zero =>
        simp at hk
        subst hk
        refine ⟨Nat.le_of_ble_eq_true hc1, ?_, fun k' c' hk' hlt => ?_⟩
        · split at hc3
          · rename_i o ho
            refine ⟨o, ho, ?_⟩
            split at hc3
            · rename_i d d' h1 h2
              rw [h1, h2, Nat.eq_of_beq_eq_true hc3]
            · rename_i h1 h2
              rw [h1, h2]
            · cases hc3
          · cases hc3
        · cases k' with
          | zero => omega
          | succ k' =>
            have := List.all_eq_true.1 hc2 c' (List.mem_of_getElem? (by simpa using hk'))
            simp only [Bool.and_eq_true] at this
            exact ⟨Nat.le_of_ble_eq_true this.1, this.2⟩
      | succ k =>
        obtain ⟨h1, h2, h3⟩ := ih hc4 k c (by simpa using hk)
        refine ⟨h1, h2, fun k' c' hk' hlt => ?_⟩
        cases k' with
        | zero => omega
        | succ k' => exact h3 k' c' (by simpa using hk') (by omega)
  have hC := hchAt chs hch
  have inCh_iff : ∀ i, inCh chs i = true ↔ ∃ (k : Nat) (c : ChOp β), chs[k]? = some c ∧ c.i = i := fun i => by
    unfold inCh
    rw [List.any_eq_true]
    constructor
    · rintro ⟨c, hc, he⟩
      obtain ⟨k, hk⟩ := List.getElem?_of_mem hc
      exact ⟨k, c, hk, Nat.eq_of_beq_eq_true he⟩
    · rintro ⟨k, c, hk, rfl⟩
      exact ⟨c, List.mem_of_getElem? hk, by simp⟩
  -- what is said is told by its number, and by its slot
  have hmem : ∀ i, i < m → inCh chs i = false → ∃ p, (i, p) ∈ B := fun i hi hne => by
    have : i ∈ B.map (·.1) := by rw [hkeys, List.mem_reverse, List.mem_filter]; exact ⟨by simpa using hi, by simpa using hne⟩
    obtain ⟨⟨j, p⟩, hp, rfl⟩ := List.mem_map.1 this
    exact ⟨p, hp⟩
  have hkey : ∀ p ∈ B, p.1 < m ∧ inCh chs p.1 = false := fun p hp => by
    have : p.1 ∈ B.map (·.1) := List.mem_map_of_mem hp
    rw [hkeys, List.mem_reverse, List.mem_filter] at this
    exact ⟨by simpa using this.1, by simpa using this.2⟩
  have hlt : ∀ p ∈ B, p.1 < m := fun p hp => (hkey p hp).1
  have hnd : (B.map (·.1)).Nodup := by rw [hkeys, List.Nodup, List.pairwise_reverse]; exact (List.nodup_range.filter _).imp fun h => Ne.symm h
  have hfun : ∀ q ∈ B, ∀ q' ∈ B, q.1 = q'.1 → q = q' := by
    clear hB hkeys hmem hlt h hn hkey hchs
    intro q hq q' hq' e
    induction B with
    | nil => cases hq
    | cons x B ih =>
      rw [List.map_cons, List.nodup_cons] at hnd
      rcases List.mem_cons.1 hq with h1 | h1 <;> rcases List.mem_cons.1 hq' with h2 | h2
      · rw [h1, h2]
      · exact (hnd.1 (by rw [← h1, e]; exact List.mem_map_of_mem h2)).elim
      · exact (hnd.1 (by rw [← h2, ← e]; exact List.mem_map_of_mem h1)).elim
      · exact ih hnd.2 h1 h2
  have hsl1 : ((l.take m).filterMap (·.dst)).all (fun d => (look L d).isNone) = true := by
    unfold slotsOkP at hsl; simp only [Bool.and_eq_true] at hsl; exact hsl.1
  have hsl2 : ((l.take m).filterMap (·.dst)).Nodup := by
    unfold slotsOkP at hsl; simp only [Bool.and_eq_true, decide_eq_true_eq] at hsl; exact hsl.2
  have slotOne : ∀ {i j : Nat} {o o' : Oper} {d : Nat}, i < m → j < m → l[i]? = some o → l[j]? = some o' → o.dst = some d → o'.dst = some d → i = j := fun {i j o o' d} hi hj ho ho' hd hd' =>
    nodup_filterMap_inj hsl2 (by rw [List.getElem?_take_of_lt hi]; exact ho) (by rw [List.getElem?_take_of_lt hj]; exact ho') hd hd'
  have slotNew : ∀ {i : Nat} {o : Oper} {d : Nat}, i < m → l[i]? = some o → o.dst = some d → look L d = none := fun {i o d} hi ho hd => by
    have := List.all_eq_true.1 hsl1 d (List.mem_filterMap.2 ⟨o, List.mem_of_getElem? (i := i) (by rw [List.getElem?_take_of_lt hi]; exact ho), hd⟩)
    simpa using this
  have hslot : ∀ q ∈ B, ∀ q' ∈ B, q.2.1 = q'.2.1 → q = q' := fun q hq q' hq' e => by
    obtain ⟨o, h1, h2, _⟩ := hB q hq
    obtain ⟨o', h1', h2', _⟩ := hB q' hq'
    exact hfun q hq q' hq' (slotOne (hlt q hq) (hlt q' hq') h1 h1' h2 (by rw [h2', e]))
  have hnone : ∀ q ∈ B, look L q.2.1 = none := fun q hq => by
    obtain ⟨o, h1, h2, _⟩ := hB q hq
    exact slotNew (hlt q hq) h1 h2
  have hcNone : ∀ (k : Nat) (c : ChOp β) (d : Nat), chs[k]? = some c → c.d = some d → look L d = none := fun k c d hk hd => by
    obtain ⟨h1, ⟨o, ho, hod⟩, _⟩ := hC k c hk
    exact slotNew h1 ho (hod.trans hd)
  have hcB : ∀ (k : Nat) (c : ChOp β) (d : Nat), chs[k]? = some c → c.d = some d → ∀ q ∈ B, q.2.1 ≠ d := fun k c d hk hd q hq e => by
    obtain ⟨h1, ⟨o, ho, hod⟩, _⟩ := hC k c hk
    obtain ⟨o', h1', h2', _⟩ := hB q hq
    have := slotOne (hlt q hq) h1 h1' ho (by rw [h2', e]) (hod.trans hd)
    have hx := (hkey q hq).2
    rw [this] at hx
    have := (inCh_iff c.i).2 ⟨k, c, hk, rfl⟩
    rw [hx] at this; cases this
  -- a list of some of what is said
  have lookOf : ∀ (D : Said), (∀ q ∈ D, q ∈ B) → ∀ t, (∀ q ∈ D, q.2.1 ≠ t) → look (D.map (·.2) ++ L) t = look L t := fun D hD t ht => by
    induction D with
    | nil => rfl
    | cons x D ih =>
      rw [List.map_cons, List.cons_append, look_cons, if_neg (ht x (by simp))]
      exact ih (fun q hq => hD q (by simp [hq])) fun q hq => ht q (by simp [hq])
  have lookIn : ∀ (D : Said), (∀ q ∈ D, q ∈ B) → ∀ q ∈ D, look (D.map (·.2) ++ L) q.2.1 = some q.2.2 := fun D hD q hq => by
    induction D with
    | nil => cases hq
    | cons x D ih =>
      rw [List.map_cons, List.cons_append, look_cons]
      by_cases e : x.2.1 = q.2.1
      · rw [if_pos e, hslot x (hD x (by simp)) q (hD q hq) e]
      · rw [if_neg e]
        rcases List.mem_cons.1 hq with rfl | hq
        · exact (e rfl).elim
        · exact ih (fun q hq => hD q (by simp [hq])) hq
  have sub0 : ∀ (D D' : Said), (∀ q ∈ D, q ∈ B) → (∀ q ∈ D', q ∈ D) → SubL (D.map (·.2) ++ L) (D'.map (·.2) ++ L) := fun D D' hD hD' t S hS => by
    by_cases hex : ∃ q ∈ D', q.2.1 = t
    · obtain ⟨q, hq, rfl⟩ := hex
      rw [lookIn D' (fun q hq => hD q (hD' q hq)) q hq] at hS
      cases hS
      exact lookIn D hD q (hD' q hq)
    · rw [lookOf D' (fun q hq => hD q (hD' q hq)) t (fun q hq e => hex ⟨q, hq, e⟩)] at hS
      by_cases hex2 : ∃ q ∈ D, q.2.1 = t
      · obtain ⟨q, hq, rfl⟩ := hex2
        rw [hnone q (hD q hq)] at hS; cases hS
      · rw [lookOf D hD t fun q hq e => hex2 ⟨q, hq, e⟩]; exact hS
  have sub : ∀ (gs : List β) (D D' : Said), (∀ q ∈ D, q ∈ B) → (∀ q ∈ D', q ∈ D) → SubL (Lc chs gs ++ (D.map (·.2) ++ L)) (Lc chs gs ++ (D'.map (·.2) ++ L)) := fun gs D D' hD hD' t S hS => by
    rw [look_append] at hS ⊢
    cases hT : look (Lc chs gs) t with
    | some T => rw [hT] at hS; exact hS
    | none => rw [hT] at hS; exact sub0 D D' hD hD' t S hS
  let StA : Array Bool → Said → List β → Act → World → Prop := fun listed D gs a w =>
    gs.length ≤ chs.length ∧ (∀ (k : Nat) (c : ChOp β), chs[k]? = some c → (listed.getD c.i false = true ↔ k < gs.length)) ∧ St n Γ (M gs) (Lc chs gs ++ (D.map (·.2) ++ L)) a w
  have main : ∀ (fuel : Nat) (listed : Array Bool) (D : Said) (gs : List β) (a : Act) (w : World), listed.size = l.length → open_ listed l.length = fuel → (∀ i o, l[i]? = some o → listed.getD i false = true → ∀ j ∈ deps o, listed.getD j false = true) →
      (∀ i, m ≤ i → i < l.length → listed.getD i false = false) → (∀ q ∈ D, q ∈ B) → (∀ q ∈ B, listed.getD q.1 false = true → q ∈ D) → StA listed D gs a w → wpAny Γ.E.P .any l.toArray Q fuel listed a w := by
    intro fuel
    induction fuel with
    | zero =>
      intro listed D gs a w hsz hop hcl htail hD hDB hst
      have hall : ∀ j, j < l.length → listed.getD j false = true := fun j hj => by
        unfold open_ at hop
        have := List.countP_eq_zero.1 hop j (by simpa using hj)
        rw [Array.getD_eq_getD_getElem?] at this ⊢
        cases hx : listed[j]? with
        | none => rw [Array.getElem?_eq_none_iff] at hx; omega
        | some b => rw [hx] at this; simpa using this
      have hml : m = l.length := by
        refine Nat.le_antisymm hm (Nat.le_of_not_lt fun hh => ?_)
        have := htail m (Nat.le_refl _) hh
        rw [hall m hh] at this; cases this
      refine wpAny_list hok 0 l.length 0 listed a w (by omega) hm rfl hsz (fun j hj => ⟨fun _ => hj, fun _ => hall j hj⟩) ?_
      rw [hml] at h
      obtain ⟨h1, h2, h3⟩ := hst
      have hgl : gs.length = chs.length := by
        refine Nat.le_antisymm h1 (Nat.le_of_not_lt fun hh => ?_)
        have := (h2 gs.length _ (List.getElem?_eq_getElem hh)).1 (hall _ (by have := (hC _ _ (List.getElem?_eq_getElem hh)).1; omega))
        omega
      exact h.at gs hgl a w (h3.incl (SubL.incl (sub gs D B hD fun q hq => hDB q hq (hall _ (by have := hlt q hq; omega)))))
    | succ fuel ih =>
      intro listed D gs a w hsz hop hcl htail hD hDB hst
      by_cases hall : ∀ j, j < m → listed.getD j false = true
      · -- the first operations are done
        have hcnt : fuel + 1 = l.length - m := by
          rw [← hop]
          unfold open_
          have : ∀ k, k ≤ l.length → (List.range k).countP (fun j => !listed.getD j true) = k - m := by
            intro k
            induction k with
            | zero => intro _; simp
            | succ k ihk =>
              intro hk
              rw [List.range_succ, List.countP_append, ihk (by omega)]
              have hgd : listed.getD k true = listed.getD k false := by
                rw [Array.getD_eq_getD_getElem?, Array.getD_eq_getD_getElem?]
                cases hx : listed[k]? with
                | none => rw [Array.getElem?_eq_none_iff] at hx; omega
                | some b => rfl
              by_cases hkm : k < m
              · have hgk : listed.getD k true = true := by rw [hgd]; exact hall k hkm
                simp only [List.countP_cons, List.countP_nil, hgk, Bool.not_true, Bool.false_eq_true, if_false]
                omega
              · have hgk : listed.getD k true = false := by rw [hgd]; exact htail k (by omega) (by omega)
                simp only [List.countP_cons, List.countP_nil, hgk, Bool.not_false, if_true]
                omega
          exact this l.length (Nat.le_refl _)
        refine wpAny_list hok (l.length - m) m (fuel + 1) listed a w (by omega) (Nat.le_refl _) hcnt hsz (fun j hj => ⟨fun hj' => ?_, fun hj' => hall j hj'⟩) ?_
        · refine Nat.lt_of_not_le fun hh => ?_
          rw [htail j hh hj] at hj'; cases hj'
        · obtain ⟨h1, h2, h3⟩ := hst
          have hgl : gs.length = chs.length := by
            refine Nat.le_antisymm h1 (Nat.le_of_not_lt fun hh => ?_)
            have := (h2 gs.length _ (List.getElem?_eq_getElem hh)).1 (hall _ (hC _ _ (List.getElem?_eq_getElem hh)).1)
            omega
          exact h.at gs hgl a w (h3.incl (SubL.incl (sub gs D B hD fun q hq => hDB q hq (hall _ (hlt q hq)))))
      · obtain ⟨j0, hj0, hj0f⟩ : ∃ j, j < m ∧ listed.getD j false = false := by
          by_cases hex : ∃ j, j < m ∧ listed.getD j false = false
          · exact hex
          · exact (hall fun j hj => by
              cases hb : listed.getD j false with
              | true => rfl
              | false => exact (hex ⟨j, hj, hb⟩).elim).elim
        refine ⟨fun hr => ?_, fun x hx => ?_⟩
        · -- the least one that is not listed is ready
          exfalso
          have : ∃ i, i < l.length ∧ listed.getD i false = false ∧ ∀ j, j < i → listed.getD j false = true := by
            clear hr
            induction j0 using Nat.strongRecOn with
            | _ j0 ihj =>
              by_cases hex : ∃ j, j < j0 ∧ listed.getD j false = false
              · obtain ⟨j, hj, hjf⟩ := hex
                exact ihj j hj (by omega) hjf
              · exact ⟨j0, by omega, hj0f, fun j hj => by
                  cases hb : listed.getD j false with
                  | true => rfl
                  | false => exact (hex ⟨j, hj, hb⟩).elim⟩
          obtain ⟨i, hi, hif, hil⟩ := this
          have hgd : listed.getD i true = false := by
            rw [Array.getD_eq_getD_getElem?] at hif ⊢
            cases hx : listed[i]? with
            | none => rw [Array.getElem?_eq_none_iff] at hx; omega
            | some b => rw [hx] at hif; simpa using hif
          have := ready_mem (l := l) (List.getElem?_eq_getElem hi) hgd fun j hj => hil j (hlow' i _ (List.getElem?_eq_getElem hi) j hj)
          rw [hr] at this
          simp at this
        · obtain ⟨h1, h2, h3⟩ := mem_ready hx
          have h3' := h3 _ (List.getElem?_eq_getElem h1)
          have h2f : listed.getD x false = false := by
            rw [Array.getD_eq_getD_getElem?] at h2 ⊢
            cases hx' : listed[x]? with
            | none => rw [Array.getElem?_eq_none_iff] at hx'; omega
            | some b => rw [hx'] at h2; simpa using h2
          -- what a ready or a listed operation waits for is listed
          have closed : ∀ i, i < l.length → (∀ j ∈ deps (l[i]?.getD default), listed.getD j false = true) → ∀ j, ((masks [] l).getD i 0).testBit j = true → listed.getD j false = true := fun i hi hdeps j hj => by
            have hb : (masks [] l)[i]? = some ((masks [] l)[i]'(by rw [masks_length]; simpa using hi)) := List.getElem?_eq_getElem _
            rw [List.getD_eq_getElem?_getD, hb] at hj
            have ho : l[i]? = some l[i] := List.getElem?_eq_getElem hi
            rw [ho] at hdeps
            exact masks_spec (D := fun j => listed.getD j false = true) (all := l) (fun i' o ho hD j hj => hcl i' o ho hD j hj) l [] [] rfl rfl (fun k o b hk hb => by simp at hb) i _ _ ho hb hdeps j (by simpa using hj)
          have hxm : x < m := by
            refine Nat.lt_of_not_le fun hh => ?_
            have hb : (masks [] l)[x]? = some ((masks [] l)[x]'(by rw [masks_length]; simpa using h1)) := List.getElem?_eq_getElem _
            have := closed x h1 (by rw [List.getElem?_eq_getElem h1]; exact h3') j0 (by rw [List.getD_eq_getElem?_getD, hb]; exact hmask x _ hb hh j0 (by omega))
            rw [hj0f] at this; cases this
          have next : ∀ i o', l[i]? = some o' → (listed.setIfInBounds x true).getD i false = true → ∀ j ∈ deps o', (listed.setIfInBounds x true).getD j false = true := by
            intro i o' hio hi j hj
            rw [getD_set (by omega)] at hi ⊢
            rcases hi with hi | hi
            · rw [hi] at hio; exact .inr (h3 o' hio j hj)
            · exact .inr (hcl i o' hio hi j hj)
          have nextT : ∀ i, m ≤ i → i < l.length → (listed.setIfInBounds x true).getD i false = false := by
            intro i hmi hi
            have hne : i ≠ x := by omega
            have := htail i hmi hi
            rw [Array.getD_eq_getD_getElem?, Array.getElem?_setIfInBounds_ne (fun e => hne e.symm), ← Array.getD_eq_getD_getElem?]
            exact this
          have nextO : open_ (listed.setIfInBounds x true) l.length = fuel := by
            have := open_set hsz (by simpa using h1) h2
            omega
          obtain ⟨hg1, hg2, hst⟩ := hst
          have dsub : ∀ (o : Oper), l[x]? = some o → SubL (Lc chs gs ++ (D.map (·.2) ++ L)) (Lc chs gs ++ (avail B o ++ L)) := fun o ho => by
            let D' : Said := (deps o).filterMap fun j => (lookB B j).map fun p => (j, p)
            have hD' : D'.map (·.2) = avail B o := by
              simp only [D', avail, List.map_filterMap]
              congr 1
              funext j
              cases lookB B j <;> rfl
            rw [← hD']
            refine sub gs D D' hD fun q hq => ?_
            simp only [D', List.mem_filterMap, Option.map_eq_some_iff] at hq
            obtain ⟨j, hj, p, hp, rfl⟩ := hq
            exact hDB _ (lookB_mem hp) (h3 o ho j hj)
          by_cases hxA : inCh chs x = true
          · -- a step of the chain
            obtain ⟨k, c, hk, rfl⟩ := (inCh_iff x).1 hxA
            have hkl : gs.length = k := by
              have hge : ¬ k < gs.length := fun hh => by
                have := (hg2 k c hk).2 hh
                rw [h2f] at this; cases this
              refine Nat.le_antisymm (Nat.le_of_not_lt hge) (Nat.le_of_not_lt fun hh => ?_)
              have hcl' : gs.length < chs.length := by have := (List.getElem?_eq_some_iff.1 hk).1; omega
              obtain ⟨_, hm'⟩ := (hC _ _ (List.getElem?_eq_getElem hcl')).2.2 k c hk hh
              have := (hg2 _ _ (List.getElem?_eq_getElem hcl')).1 (closed c.i h1 (by rw [List.getElem?_eq_getElem h1]; exact h3') _ hm')
              omega
            have ho := List.getElem?_eq_getElem h1
            have step := hchs.at hk ho gs (by omega) _ (dsub _ ho) (wpAny Γ.E.P .any l.toArray Q fuel (listed.setIfInBounds c.i true)) (fun b a' w' hs' => ?_)
            · exact step a w hst
            refine ih _ D (gs ++ [b]) a' w' (by simp [hsz]) nextO next nextT hD (fun q hq hl => ?_) ⟨?_, fun k' c' hk' => ?_, ?_⟩
            · rw [getD_set (by omega)] at hl
              rcases hl with hl | hl
              · have := (hkey q hq).2
                rw [hl, hxA] at this; cases this
              · exact hDB q hq hl
            · have := (List.getElem?_eq_some_iff.1 hk).1
              simp; omega
            · rw [getD_set (by omega), hg2 k' c' hk', List.length_append, List.length_singleton]
              constructor
              · rintro (e | hh)
                · rcases Nat.lt_trichotomy k k' with hl | hl | hl
                  · have := ((hC k c hk).2.2 k' c' hk' hl).1; omega
                  · omega
                  · have := ((hC k' c' hk').2.2 k c hk hl).1; omega
                · omega
              · intro hh
                by_cases e : k' = k
                · subst e
                  rw [hk] at hk'
                  cases hk'
                  exact .inl rfl
                · exact .inr (by omega)
            · rw [Lc_snoc (by rw [hkl]; exact hk), List.append_assoc]
              exact hs'
          · have hxA : inCh chs x = false := by simpa using hxA
            obtain ⟨⟨d, S⟩, hp⟩ := hmem x hxm hxA
            obtain ⟨o, ho, hd, hstep⟩ := hB _ hp
            have nextD : ∀ q ∈ (x, d, S) :: D, q ∈ B := by
              intro q hq
              rcases List.mem_cons.1 hq with rfl | hq
              · exact hp
              · exact hD q hq
            have nextB : ∀ q ∈ B, (listed.setIfInBounds x true).getD q.1 false = true → q ∈ (x, d, S) :: D := by
              intro q hq hl
              rw [getD_set (by omega)] at hl
              rcases hl with hl | hl
              · have := hfun q hq (x, d, S) hp hl
                rw [this]; simp
              · exact List.mem_cons_of_mem _ (hDB q hq hl)
            have hdn : d < n := Nat.le_of_ble_eq_true (List.all_eq_true.1 hn _ hp)
            have hlo : loP l chs x ≤ gs.length := by
              unfold loP
              have hall' : ∀ c ∈ chs.filter (fun c => ((masks [] l).getD x 0).testBit c.i), c ∈ chs.take gs.length := fun c hc => by
                obtain ⟨hc1, hc2⟩ := List.mem_filter.1 hc
                obtain ⟨k, hk⟩ := List.getElem?_of_mem hc1
                have := (hg2 k c hk).1 (closed x h1 (by rw [List.getElem?_eq_getElem h1]; exact h3') _ hc2)
                exact List.mem_of_getElem? (i := k) (by rw [List.getElem?_take_of_lt this]; exact hk)
              have hsub : (chs.filter (fun c => ((masks [] l).getD x 0).testBit c.i)) = ((chs.take gs.length).filter (fun c => ((masks [] l).getD x 0).testBit c.i)) := by
                conv => lhs; rw [← List.take_append_drop gs.length chs]
                rw [List.filter_append]
                have : (chs.drop gs.length).filter (fun c => ((masks [] l).getD x 0).testBit c.i) = [] := by
                  rw [List.filter_eq_nil_iff]
                  intro c hc hb
                  obtain ⟨k, hk⟩ := List.getElem?_of_mem hc
                  rw [List.getElem?_drop] at hk
                  have := (hg2 _ c hk).1 (closed x h1 (by rw [List.getElem?_eq_getElem h1]; exact h3') _ hb)
                  omega
                rw [this, List.append_nil]
              rw [hsub]
              refine Nat.le_trans (List.length_filter_le _ _) ?_
              rw [List.length_take]; omega
            have hhi : gs.length ≤ hiP l chs x := by
              refine Nat.le_of_not_lt fun hh => ?_
              unfold hiP at hh
              have hk : (chs.takeWhile fun c => !((masks [] l).getD c.i 0).testBit x).length < chs.length := by omega
              have hkc : chs[(chs.takeWhile fun c => !((masks [] l).getD c.i 0).testBit x).length]? = some (chs[(chs.takeWhile fun c => !((masks [] l).getD c.i 0).testBit x).length]) := List.getElem?_eq_getElem hk
              generalize hck : chs[(chs.takeWhile fun c => !((masks [] l).getD c.i 0).testBit x).length] = c at hkc
              have hbit : ((masks [] l).getD c.i 0).testBit x = true := by
                have : ∀ (cs : List (ChOp β)) (c : ChOp β) (p : ChOp β → Bool), cs[(cs.takeWhile p).length]? = some c → p c = false := by
                  intro cs
                  induction cs with
                  | nil => intro c p hc; simp at hc
                  | cons c0 cs ihc =>
                    intro c p hc
                    by_cases hp : p c0 = true
                    · rw [List.takeWhile_cons_of_pos hp] at hc
                      exact ihc c p (by simpa using hc)
                    · rw [List.takeWhile_cons_of_neg hp] at hc
                      simp at hc
                      subst hc
                      simpa using hp
                have := this chs c _ hkc
                simpa using this
              have hci := (hC _ c hkc).1
              have hl := (hg2 _ c hkc).2 hh
              have := closed c.i (by omega) (fun j hj => by
                rw [List.getElem?_eq_getElem (by omega)] at hj
                exact hcl c.i _ (List.getElem?_eq_getElem (by omega)) hl j hj) x hbit
              rw [h2f] at this; cases this
            refine hstep gs hlo hhi a w (hst.incl (SubL.incl (dsub o ho))) _ fun v w' g hv => ?_
            have hput := (hst.grow g).put hdn hv
            refine ih (listed.setIfInBounds x true) ((x, d, S) :: D) gs _ _ (by simp [hsz]) nextO next nextT nextD nextB ⟨hg1, fun k c hk => ?_, ?_⟩
            · rw [← hg2 k c hk, getD_set (by omega)]
              constructor
              · rintro (e | e)
                · rw [← e] at hxA
                  have := (inCh_iff c.i).2 ⟨k, c, hk, rfl⟩
                  rw [hxA] at this; cases this
                · exact e
              · exact .inr
            · refine hput.incl fun t T hT => ⟨T, ?_, fun _ _ h => h⟩
              rw [look_append] at hT
              rw [look_cons]
              cases hLc : look (Lc chs gs) t with
              | some T' =>
                rw [hLc] at hT
                obtain ⟨k, c, b, hk, hb, hcd, hbS⟩ := Lc_mem (look_mem hLc)
                have hne := hcB k c t hk hcd (x, d, S) hp
                rw [if_neg hne, look_append, hLc]
                exact hT
              | none =>
                rw [hLc] at hT
                simp only [List.map_cons, List.cons_append] at hT
                rw [look_cons] at hT
                by_cases e : d = t
                · rw [if_pos e] at hT ⊢; exact hT
                · rw [if_neg e] at hT ⊢
                  rw [look_append, hLc]
                  exact hT
  unfold dwp
  have hLc0 : Lc chs ([] : List β) = [] := by cases chs <;> rfl
  have hst0 : St n Γ (M []) (Lc chs [] ++ (([] : Said).map (·.2) ++ L)) a { w with drawn := w.drawn + 1 } := by
    rw [hLc0]
    exact hs.grow ⟨rfl, rfl, rfl, Nat.le_refl _, fun _ _ => rfl⟩
  refine main _ _ [] [] a _ (by simp) ?_ (fun i o _ hi => ?_) (fun i _ hi => ?_) (fun q hq => by cases hq) (fun q hq hl => ?_) ⟨by simp, fun k c hk => ?_, hst0⟩
  · unfold open_
    have : ∀ k, k ≤ l.length → (List.range k).countP (fun j => !(Array.replicate l.toArray.size false).getD j true) = k := by
      intro k
      induction k with
      | zero => intro _; rfl
      | succ k ih =>
        intro hk
        rw [List.range_succ, List.countP_append, ih (by omega)]
        simp [Array.getD_eq_getD_getElem?, Array.getElem?_replicate, show k < l.length by omega]
    simpa using this l.length (Nat.le_refl _)
  · rw [Array.getD_eq_getD_getElem?, Array.getElem?_replicate] at hi
    split at hi <;> simp at hi
  · rw [Array.getD_eq_getD_getElem?, Array.getElem?_replicate]
    split <;> simp
  · rw [Array.getD_eq_getD_getElem?, Array.getElem?_replicate] at hl
    split at hl <;> simp at hl
  · rw [Array.getD_eq_getD_getElem?, Array.getElem?_replicate]
    split <;> simp
end
end Go.Vx
