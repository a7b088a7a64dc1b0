/- A region that draws its order: one walk in the order of the text serves, where all operations but the last ones let memory grow at most. Conditions: the order of the last ones is forced. -/
import Derived.Test.YtofnjbcbkfbomaaDoorVf
namespace Go.Vx
open Go Go.RowKit

/-- The operations that an operation waits for. -/
def deps (o : Oper) : List Nat := (o.after.toList.filter fun e => Region.binds .any e).map (·.on)

/-- What has been said of the operations so far, by their numbers: the slot and its spec. -/
abbrev Said := List (Nat × Nat × Spec)
def lookB : Said → Nat → Option (Nat × Spec)
  | [], _ => none
  | (j, p) :: B, i => match Nat.beq j i with
    | true => some p
    | false => lookB B i
/-- What an operation may lean on. -/
def avail (B : Said) (o : Oper) : List (Nat × Spec) := (deps o).filterMap (lookB B)

/-- Which operations each one waits for in the end, as bits. -/
def maskOf (acc : List Nat) (o : Oper) : Nat := (deps o).foldl (fun s j => s ||| 2 ^ j ||| acc.getD j 0) 0
def masks : List Nat → List Oper → List Nat
  | acc, [] => acc
  | acc, o :: l => masks (acc ++ [maskOf acc o]) l

/-- The closed facts on a region: each waits for earlier ones alone; from m on each waits for all earlier ones. -/
def orderOk (l : List Oper) (m : Nat) : Bool :=
  (l.zipIdx.all fun (o, i) => (deps o).all fun j => Nat.blt j i) &&
  ((masks [] l).zipIdx.all fun (k, i) => Nat.blt i m || (List.range i).all fun j => k.testBit j) && Nat.ble m l.length

/-- The slots of the first m operations are apart, and nothing is said of them yet. -/
def slotsOk (l : List Oper) (m : Nat) (L : List (Nat × Spec)) : Bool :=
  let ds := (l.take m).map (·.dst)
  (ds.all fun d => match d with
    | some d => (look L d).isNone
    | none => false) && ds.Nodup

section
variable {n : Nat} {Γ : Ctx} {M : Owns} {L : List (Nat × Spec)} {ops : Array Oper} {Q : Exit → Act → World → Prop} {o : Oper}

/-- One operation of such a region. -/
def StepOk (n : Nat) (Γ : Ctx) (M : Owns) (L : List (Nat × Spec)) (ops : Array Oper) (Q : Exit → Act → World → Prop) (i d : Nat) (S : Spec) : Prop :=
  ∀ a w, St n Γ M L a w → ∀ K : Act → World → Prop, (∀ v w', Grow w w' → S.holds (FM Γ.F0 M) w' v → K (a.put (some d) v) w') → wpOp Γ.E.P ops Q i K a w

theorem StepOk.op {i d : Nat} {S : Spec} (ho : ops[i]? = some o) (hg : o.guard = none) (hd : o.dst = some d) (hy : Yields n Γ M L o S) : StepOk n Γ M L ops Q i d S := fun a w hs K hK => by
  unfold wpOp
  simp only [ho]
  rw [if_pos (by simp [Region.wanted, hg])]
  exact .inl (hy a w hs _ _ fun v w' g hv => by rw [hd]; exact hK v w' g hv)
theorem StepOk.opG {i d j t : Nat} {want : Bool} {S : Spec} (ho : ops[i]? = some o) (hg : o.guard = some (j, want)) (hj : (ops[j]?).bind (·.dst) = some t) (ht : look L t = some (sval (.bool want))) (hd : o.dst = some d) (hy : Yields n Γ M L o S) :
    StepOk n Γ M L ops Q i d S := fun a w hs K hK => by
  unfold wpOp
  simp only [ho]
  rw [if_pos (by rw [wanted_of hg hj ht hs]; simp)]
  exact .inl (hy a w hs _ _ fun v w' g hv => by rw [hd]; exact hK v w' g hv)
theorem StepOk.opS {i d j t : Nat} {want b : Bool} (ho : ops[i]? = some o) (hg : o.guard = some (j, want)) (hj : (ops[j]?).bind (·.dst) = some t) (ht : look L t = some (sval (.bool b))) (hb : (b == want) = false) (hd : o.dst = some d) :
    StepOk n Γ M L ops Q i d sany := fun a w hs K hK => by
  unfold wpOp
  simp only [ho]
  rw [if_neg (by rw [wanted_of hg hj ht hs, hb]; simp), hd]
  exact hK undef w (Below.refl _ _) trivial

/-- All that is said so far. -/
def AllOk (n : Nat) (Γ : Ctx) (M : Owns) (L : List (Nat × Spec)) (l : List Oper) (Q : Exit → Act → World → Prop) (B : Said) : Prop :=
  ∀ p ∈ B, ∃ o, l[p.1]? = some o ∧ o.dst = some p.2.1 ∧ ∀ B', (∀ q ∈ B, q ∈ B') → (∀ q ∈ B', ∀ q' ∈ B', q.1 = q'.1 → q = q') → StepOk n Γ M (avail B' o ++ L) l.toArray Q p.1 p.2.1 p.2.2

theorem lookB_mem {B : Said} {i : Nat} {p : Nat × Spec} (h : lookB B i = some p) : (i, p) ∈ B := by
  induction B with
  | nil => cases h
  | cons x B ih =>
    obtain ⟨j, q⟩ := x
    unfold lookB at h
    cases hb : Nat.beq j i with
    | true => rw [hb] at h; simp only [Option.some.injEq] at h; subst h; rw [Nat.eq_of_beq_eq_true hb]; exact List.mem_cons_self
    | false => rw [hb] at h; exact List.mem_cons_of_mem _ (ih h)
theorem lookB_of {B : Said} {i : Nat} {p : Nat × Spec} (hf : ∀ q ∈ B, ∀ q' ∈ B, q.1 = q'.1 → q = q') (h : (i, p) ∈ B) : lookB B i = some p := by
  induction B with
  | nil => cases h
  | cons x B ih =>
    obtain ⟨j, q⟩ := x
    unfold lookB
    cases hb : Nat.beq j i with
    | true =>
      have hji := Nat.eq_of_beq_eq_true hb
      subst hji
      have := hf _ h _ List.mem_cons_self rfl
      simp only [Prod.mk.injEq, true_and] at this
      rw [this]
    | false =>
      rcases List.mem_cons.1 h with h | h
      · cases h; exact absurd rfl (Nat.ne_of_beq_eq_false hb)
      · exact ih (fun q hq q' hq' => hf q (List.mem_cons_of_mem _ hq) q' (List.mem_cons_of_mem _ hq')) h

/-- What has been said so far, in the walk through such a region: i operations. -/
def Draw (n : Nat) (Γ : Ctx) (M : Owns) (L : List (Nat × Spec)) (l : List Oper) (Q : Exit → Act → World → Prop) (id : Nat) (i : Nat) (B : Said) : Prop :=
  (∀ p ∈ B, ∃ o, l[p.1]? = some o ∧ o.dst = some p.2.1 ∧ StepOk n Γ M (avail B o ++ L) l.toArray Q p.1 p.2.1 p.2.2) → (B.map (·.1) = (List.range i).reverse) → Run n Γ M L ((Code.region id l.toArray true).wp Γ.E.P Q)

theorem Run.draw {l : List Oper} {id : Nat} (h : Draw n Γ M L l Q id 0 []) : Run n Γ M L ((Code.region id l.toArray true).wp Γ.E.P Q) := h (fun p hp => by cases hp) rfl

theorem avail_cons {B : Said} {i : Nat} {p : Nat × Spec} {o : Oper} (h : ∀ j ∈ deps o, j < i) : avail ((i, p) :: B) o = avail B o := by
  unfold avail
  have : ∀ (D : List Nat), (∀ j ∈ D, j < i) → D.filterMap (lookB ((i, p) :: B)) = D.filterMap (lookB B) := by
    intro D hD
    induction D with
    | nil => rfl
    | cons j D ih =>
      have hj := hD j (by simp)
      have e : lookB ((i, p) :: B) j = lookB B j := by
        conv => lhs; unfold lookB
        have : Nat.beq i j = false := by
          cases hb : Nat.beq i j with
          | true => have := Nat.eq_of_beq_eq_true hb; omega
          | false => rfl
        rw [this]
      rw [List.filterMap_cons, List.filterMap_cons, e, ih fun k hk => hD k (by simp [hk])]
  exact this _ h

/-- The next operation of the text. -/
theorem Draw.step {l : List Oper} {id i d : Nat} {B : Said} {S : Spec} (ho : l[i]? = some o) (hd : o.dst = some d) (hdep : (deps o).all (fun j => Nat.blt j i) = true) (hs : StepOk n Γ M (avail B o ++ L) l.toArray Q i d S)
    (hall : (l.take i).all (fun o => (deps o).all (fun j => Nat.blt j i)) = true) (h : Draw n Γ M L l Q id (i + 1) ((i, d, S) :: B)) : Draw n Γ M L l Q id i B := fun hB hk => by
  refine h (fun p hp => ?_) (by rw [List.map_cons, hk, List.range_succ, List.reverse_append]; rfl)
  rcases List.mem_cons.1 hp with rfl | hp
  · refine ⟨o, ho, hd, ?_⟩
    rw [avail_cons (fun j hj => by have := List.all_eq_true.1 hdep j hj; exact Nat.le_of_ble_eq_true this)]
    exact hs
  · obtain ⟨o', h1, h2, h3⟩ := hB p hp
    refine ⟨o', h1, h2, ?_⟩
    rw [avail_cons fun j hj => ?_]
    · exact h3
    · have hpi : p.1 < i := by
        have : p.1 ∈ B.map (·.1) := List.mem_map_of_mem hp
        rw [hk] at this
        simpa using this
      have hm : o' ∈ l.take i := by
        refine List.mem_of_getElem? (i := p.1) ?_
        rw [List.getElem?_take_of_lt hpi]; exact h1
      have := List.all_eq_true.1 (List.all_eq_true.1 hall o' hm) j hj
      exact Nat.le_of_ble_eq_true this

theorem testBit_foldl {acc : List Nat} : ∀ (D : List Nat) (s j : Nat), (D.foldl (fun s j => s ||| 2 ^ j ||| acc.getD j 0) s).testBit j = true → s.testBit j = true ∨ ∃ k ∈ D, k = j ∨ (acc.getD k 0).testBit j = true
  | [], s, j, h => .inl h
  | k :: D, s, j, h => by
    rcases testBit_foldl D _ j h with h | ⟨k', hk, h⟩
    · simp only [Nat.testBit_or, Bool.or_eq_true, Nat.testBit_two_pow, decide_eq_true_eq] at h
      rcases h with (h | h) | h
      · exact .inl h
      · exact .inr ⟨k, by simp, .inl h⟩
      · exact .inr ⟨k, by simp, .inr h⟩
    · exact .inr ⟨k', by simp [hk], h⟩

/-- What waits for j in the end, where what is listed is closed: j is listed. -/
theorem masks_spec {D : Nat → Prop} {all : List Oper} (hcl : ∀ i o, all[i]? = some o → D i → ∀ j ∈ deps o, D j) : ∀ (l : List Oper) (acc : List Nat) (done : List Oper), all = done ++ l → acc.length = done.length →
    (∀ (k : Nat) (o : Oper) (b : Nat), all[k]? = some o → acc[k]? = some b → (∀ j ∈ deps o, D j) → ∀ j, b.testBit j = true → D j) →
    ∀ (k : Nat) (o : Oper) (b : Nat), all[k]? = some o → (masks acc l)[k]? = some b → (∀ j ∈ deps o, D j) → ∀ j, b.testBit j = true → D j
  | [], acc, done, he, hl, hacc => by simpa [masks] using hacc
  | x :: l, acc, done, he, hl, hacc => by
    unfold masks
    refine masks_spec hcl l (acc ++ [maskOf acc x]) (done ++ [x]) (by rw [he]; simp) (by simp [hl]) ?_
    intro k o b hk hb hdep j hj
    by_cases hlt : k < acc.length
    · rw [List.getElem?_append_left hlt] at hb
      exact hacc k o b hk hb hdep j hj
    · have hkk : k = acc.length := by
        have := (List.getElem?_eq_some_iff.1 hb).1
        simp at this; omega
      subst hkk
      simp at hb
      subst hb
      have hox : o = x := by
        rw [he, hl, List.getElem?_append_right (Nat.le_refl _)] at hk
        simpa using hk.symm
      subst hox
      rcases testBit_foldl _ _ _ hj with h | ⟨k', hk', h⟩
      · simp at h
      · have hDk := hdep k' hk'
        rcases h with rfl | h
        · exact hDk
        · rw [List.getD_eq_getElem?_getD] at h
          cases hg : acc[k']? with
          | none => rw [hg] at h; simp at h
          | some b' =>
            rw [hg] at h
            have hlt' : k' < done.length := by rw [← hl]; exact (List.getElem?_eq_some_iff.1 hg).1
            have hk'' : k' < all.length := by rw [he]; simp; omega
            exact hacc k' _ b' (List.getElem?_eq_getElem hk'') hg (fun j hj => hcl k' _ (List.getElem?_eq_getElem hk'') hDk j hj) j (by simpa using h)

theorem masks_length : ∀ (l : List Oper) (acc : List Nat), (masks acc l).length = acc.length + l.length
  | [], acc => by simp [masks]
  | x :: l, acc => by unfold masks; rw [masks_length l]; simp; omega

theorem mem_ready {l : List Oper} {listed : Array Bool} {i : Nat} (h : i ∈ Region.ready .any l.toArray listed) : i < l.length ∧ listed.getD i true = false ∧ ∀ o, l[i]? = some o → ∀ j ∈ deps o, listed.getD j false = true := by
  unfold Region.ready at h
  rw [List.mem_filter] at h
  obtain ⟨h1, h2⟩ := h
  have hlt : i < l.length := by simpa using h1
  simp only [Bool.and_eq_true, Bool.not_eq_true'] at h2
  refine ⟨hlt, h2.1, fun o ho j hj => ?_⟩
  have h3 := h2.2
  rw [show (l.toArray)[i]? = some o by simpa using ho] at h3
  simp only [Option.map_some, Option.getD_some] at h3
  unfold deps at hj
  rw [List.mem_map] at hj
  obtain ⟨e, he, rfl⟩ := hj
  rw [List.mem_filter] at he
  have h4 := (Array.all_eq_true_iff_forall_mem.1 h3) e (by simpa using he.1)
  simpa [he.2] using h4

theorem ready_mem {l : List Oper} {listed : Array Bool} {i : Nat} {o : Oper} (ho : l[i]? = some o) (h1 : listed.getD i true = false) (h2 : ∀ j ∈ deps o, listed.getD j false = true) : i ∈ Region.ready .any l.toArray listed := by
  unfold Region.ready
  rw [List.mem_filter]
  refine ⟨by simpa using (List.getElem?_eq_some_iff.1 ho).1, ?_⟩
  simp only [Bool.and_eq_true, Bool.not_eq_true']
  refine ⟨h1, ?_⟩
  rw [show (l.toArray)[i]? = some o by simpa using ho]
  simp only [Option.map_some, Option.getD_some]
  refine Array.all_eq_true_iff_forall_mem.2 fun e he => ?_
  by_cases hb : Region.binds .any e = true
  · simp only [hb, Bool.not_true, Bool.false_or]
    exact h2 _ (by unfold deps; exact List.mem_map.2 ⟨e, List.mem_filter.2 ⟨by simpa using he, hb⟩, rfl⟩)
  · simp [hb]

/-- how many are not listed yet -/
def open_ (listed : Array Bool) (N : Nat) : Nat := (List.range N).countP fun j => !listed.getD j true

theorem open_set {listed : Array Bool} {N i : Nat} (hN : listed.size = N) (hi : i < N) (h : listed.getD i true = false) : open_ (listed.setIfInBounds i true) N + 1 = open_ listed N := by
  unfold open_
  subst hN
  have key : ∀ k, k ≤ listed.size → (List.range k).countP (fun j => !(listed.setIfInBounds i true).getD j true) + (if i < k then 1 else 0) = (List.range k).countP fun j => !listed.getD j true := by
    intro k
    induction k with
    | zero => intro _; simp
    | succ k ih =>
      intro hk
      have := ih (by omega)
      rw [List.range_succ, List.countP_append, List.countP_append]
      simp only [List.countP_cons, List.countP_nil, Nat.zero_add]
      by_cases hik : i = k
      · subst hik
        simp only [Nat.lt_irrefl, if_false, Nat.add_zero, Nat.lt_succ_self, if_true] at this ⊢
        have e1 : (listed.setIfInBounds i true).getD i true = true := by simp [Array.getD_eq_getD_getElem?, hi]
        rw [e1, h, this]; simp
      · have e1 : (listed.setIfInBounds i true).getD k true = listed.getD k true := by simp [Array.getD_eq_getD_getElem?, Array.getElem?_setIfInBounds_ne hik]
        rw [e1]
        generalize (if (!listed.getD k true) = true then 1 else 0) = z
        by_cases hlt : i < k
        · rw [if_pos hlt] at this; rw [if_pos (Nat.lt_succ_of_lt hlt), ← this]; omega
        · rw [if_neg hlt] at this; rw [if_neg (by omega), ← this]; omega
  have := key listed.size (Nat.le_refl _)
  rw [if_pos hi] at this
  exact this

theorem getD_set {listed : Array Bool} {i j : Nat} (hi : i < listed.size) : (listed.setIfInBounds i true).getD j false = true ↔ j = i ∨ listed.getD j false = true := by
  by_cases e : i = j
  · subst e; simp [Array.getD_eq_getD_getElem?, hi]
  · rw [Array.getD_eq_getD_getElem?, Array.getElem?_setIfInBounds_ne e, ← Array.getD_eq_getD_getElem?]
    constructor
    · exact .inr
    · rintro (rfl | h)
      · exact (e rfl).elim
      · exact h

theorem wpAny_list {l : List Oper} {m : Nat} (hok : orderOk l m = true) : ∀ (k i fuel : Nat) (listed : Array Bool) (a : Act) (w : World), i + k = l.length → m ≤ i → fuel = k → listed.size = l.length → (∀ j, j < l.length → (listed.getD j false = true ↔ j < i)) →
    wpList Γ.E.P l.toArray Q (l.drop i) a w → wpAny Γ.E.P .any l.toArray Q fuel listed a w := by
  intro k
  unfold orderOk at hok
  simp only [Bool.and_eq_true] at hok
  obtain ⟨⟨hlow, hmask⟩, hm⟩ := hok
  have hlow' : ∀ i o, l[i]? = some o → ∀ j ∈ deps o, j < i := fun i o ho j hj => by
    have := List.all_eq_true.1 hlow (o, i) (List.mem_zipIdx_iff_getElem?.2 ho)
    exact Nat.le_of_ble_eq_true (List.all_eq_true.1 this j hj)
  induction k with
  | zero =>
    intro i fuel listed a w hi hmi hf hsz hl h
    subst hf
    refine ⟨?_, ?_⟩
    · cases hr : Region.ready .any l.toArray listed with
      | nil => rfl
      | cons x xs =>
        obtain ⟨h1, h2, _⟩ := mem_ready (i := x) (by rw [hr]; simp)
        have := (hl x h1).2 (by omega)
        rw [Array.getD_eq_getD_getElem?] at this h2
        cases hx : listed[x]? with
        | none => rw [hx] at this; simp at this
        | some b => rw [hx] at this h2; simp at this h2; rw [this] at h2; cases h2
    · rw [List.drop_of_length_le (by omega)] at h; exact h
  | succ k ih =>
    intro i fuel listed a w hi hmi hf hsz hl h
    subst hf
    have hil : i < l.length := by omega
    have hoi : l[i]? = some l[i] := List.getElem?_eq_getElem hil
    have hfalse : listed.getD i true = false := by
      have := hl i hil
      rw [Array.getD_eq_getD_getElem?] at this ⊢
      cases hx : listed[i]? with
      | none => rw [Array.getElem?_eq_none_iff] at hx; omega
      | some b => rw [hx] at this; cases b <;> simp_all
    have hri : i ∈ Region.ready .any l.toArray listed := ready_mem hoi hfalse fun j hj => by
      have := hlow' i _ hoi j hj
      exact (hl j (by omega)).2 this
    refine ⟨fun hr => ?_, fun x hx => ?_⟩
    · rw [hr] at hri; simp at hri
    · obtain ⟨h1, h2, h3⟩ := mem_ready hx
      have hxi : x = i := by
        have hge : i ≤ x := by
          refine Nat.le_of_not_lt fun hlt => ?_
          have := (hl x h1).2 hlt
          rw [Array.getD_eq_getD_getElem?] at this h2
          cases hx : listed[x]? with
          | none => rw [hx] at this; simp at this
          | some b => rw [hx] at this h2; simp at this h2; rw [this] at h2; cases h2
        refine Nat.le_antisymm (Nat.le_of_not_lt fun hlt => ?_) hge
        have hb : (masks [] l)[x]? = some ((masks [] l)[x]'(by rw [masks_length]; simpa using h1)) := List.getElem?_eq_getElem _
        have hbit := List.all_eq_true.1 hmask (_, x) (List.mem_zipIdx_iff_getElem?.2 hb)
        simp only [Bool.or_eq_true] at hbit
        rcases hbit with hbit | hbit
        · have : x < m := Nat.le_of_ble_eq_true hbit
          omega
        · have hti := List.all_eq_true.1 hbit i (by simpa using hlt)
          have := masks_spec (D := fun j => listed.getD j false = true) (all := l) (fun i' o ho hD j hj => by
            have hj' := hlow' i' o ho j hj
            have hi'l := (List.getElem?_eq_some_iff.1 ho).1
            have := (hl i' hi'l).1 hD
            exact (hl j (by omega)).2 (by omega)) l [] [] rfl rfl (fun k o b hk hb => by simp at hb) x _ _ (List.getElem?_eq_getElem h1) hb (fun j hj => h3 _ (List.getElem?_eq_getElem h1) j hj) i hti
          have := (hl i hil).1 this
          omega
      subst hxi
      have hcons : l.drop x = l[x] :: l.drop (x + 1) := (List.getElem_cons_drop (h := hil)).symm
      rw [hcons] at h
      have hwp : wpOp Γ.E.P l.toArray Q x (wpList Γ.E.P l.toArray Q (l.drop (x + 1))) a w := by
        unfold wpOp
        rw [show (l.toArray)[x]? = some l[x] by simp]
        exact h
      refine wpOp_mono (fun a w h => ih (x + 1) k _ a w (by omega) (by omega) rfl (by simp [hsz]) (fun j hj => ?_) h) hwp
      rw [getD_set (by omega), hl j hj]
      omega

/-- The last operations, in the order of the text. -/
theorem Draw.tail {l : List Oper} {id m : Nat} {B : Said} (hok : orderOk l m = true) (hsl : slotsOk l m L = true) (hn : (B.all fun p => Nat.ble (p.2.1 + 1) n) = true)
    (h : Run n Γ M (B.map (·.2) ++ L) (wpList Γ.E.P l.toArray Q (l.drop m))) : Draw n Γ M L l Q id m B := fun hB hkeys => by
  intro a w hs
  have hm : m ≤ l.length := by
    unfold orderOk at hok
    simp only [Bool.and_eq_true] at hok
    exact Nat.le_of_ble_eq_true hok.2
  have hlow' : ∀ i o, l[i]? = some o → ∀ j ∈ deps o, j < i := fun i o ho j hj => by
    have hok' := hok
    unfold orderOk at hok'
    simp only [Bool.and_eq_true] at hok'
    have := List.all_eq_true.1 hok'.1.1 (o, i) (List.mem_zipIdx_iff_getElem?.2 ho)
    exact Nat.le_of_ble_eq_true (List.all_eq_true.1 this j hj)
  have hmask : ∀ x b, (masks [] l)[x]? = some b → m ≤ x → ∀ i, i < x → b.testBit i = true := fun x b hb hmx i hi => by
    have hok' := hok
    unfold orderOk at hok'
    simp only [Bool.and_eq_true] at hok'
    have hbit := List.all_eq_true.1 hok'.1.2 (b, x) (List.mem_zipIdx_iff_getElem?.2 hb)
    simp only [Bool.or_eq_true] at hbit
    rcases hbit with hbit | hbit
    · have : x < m := Nat.le_of_ble_eq_true hbit
      omega
    · exact List.all_eq_true.1 hbit i (by simpa using hi)
  -- what is said is told by its number, and by its slot
  have hmem : ∀ i, i < m → ∃ p, (i, p) ∈ B := fun i hi => by
    have : i ∈ B.map (·.1) := by rw [hkeys]; simpa using hi
    obtain ⟨⟨j, p⟩, hp, rfl⟩ := List.mem_map.1 this
    exact ⟨p, hp⟩
  have hlt : ∀ p ∈ B, p.1 < m := fun p hp => by
    have : p.1 ∈ B.map (·.1) := List.mem_map_of_mem hp
    rw [hkeys] at this
    simpa using this
  have hnd : (B.map (·.1)).Nodup := by rw [hkeys, List.Nodup, List.pairwise_reverse]; exact List.nodup_range.imp fun h => Ne.symm h
  have hfun : ∀ q ∈ B, ∀ q' ∈ B, q.1 = q'.1 → q = q' := by
    clear hB hkeys hmem hlt h hn
    intro q hq q' hq' e
    induction B with
    | nil => cases hq
    | cons x B ih =>
      rw [List.map_cons, List.nodup_cons] at hnd
      rcases List.mem_cons.1 hq with h1 | h1 <;> rcases List.mem_cons.1 hq' with h2 | h2
      · rw [h1, h2]
      · exact (hnd.1 (by rw [← h1, e]; exact List.mem_map_of_mem h2)).elim
      · exact (hnd.1 (by rw [← h2, ← e]; exact List.mem_map_of_mem h1)).elim
      · exact ih hnd.2 h1 h2
  have hslot : ∀ q ∈ B, ∀ q' ∈ B, q.2.1 = q'.2.1 → q = q' := fun q hq q' hq' e => by
    obtain ⟨o, h1, h2, _⟩ := hB q hq
    obtain ⟨o', h1', h2', _⟩ := hB q' hq'
    refine hfun q hq q' hq' ?_
    unfold slotsOk at hsl
    simp only [Bool.and_eq_true, decide_eq_true_eq] at hsl
    have hnd2 := hsl.2
    have g1 : ((l.take m).map (·.dst))[q.1]? = some (some q.2.1) := by rw [List.getElem?_map, List.getElem?_take_of_lt (hlt q hq), h1]; simp [h2]
    have g2 : ((l.take m).map (·.dst))[q'.1]? = some (some q.2.1) := by rw [List.getElem?_map, List.getElem?_take_of_lt (hlt q' hq'), h1']; simp [h2', e]
    have := List.pairwise_iff_getElem.1 hnd2
    obtain ⟨b1, b2⟩ := List.getElem?_eq_some_iff.1 g1
    obtain ⟨c1, c2⟩ := List.getElem?_eq_some_iff.1 g2
    rcases Nat.lt_trichotomy q.1 q'.1 with hh | hh | hh
    · exact (this q.1 q'.1 b1 c1 hh (by rw [b2, c2])).elim
    · exact hh
    · exact (this q'.1 q.1 c1 b1 hh (by rw [b2, c2])).elim
  have hnone : ∀ q ∈ B, look L q.2.1 = none := fun q hq => by
    obtain ⟨o, h1, h2, _⟩ := hB q hq
    unfold slotsOk at hsl
    simp only [Bool.and_eq_true] at hsl
    have := List.all_eq_true.1 hsl.1 (some q.2.1) (by
      refine List.mem_map.2 ⟨o, ?_, h2⟩
      refine List.mem_of_getElem? (i := q.1) ?_
      rw [List.getElem?_take_of_lt (hlt q hq)]; exact h1)
    simpa using this
  -- a list of some of what is said
  have lookOf : ∀ (D : Said), (∀ q ∈ D, q ∈ B) → ∀ t, (∀ q ∈ D, q.2.1 ≠ t) → look (D.map (·.2) ++ L) t = look L t := fun D hD t ht => by
    induction D with
    | nil => rfl
    | cons x D ih =>
      rw [List.map_cons, List.cons_append, look_cons, if_neg (ht x (by simp))]
      exact ih (fun q hq => hD q (by simp [hq])) fun q hq => ht q (by simp [hq])
  have lookIn : ∀ (D : Said), (∀ q ∈ D, q ∈ B) → ∀ q ∈ D, look (D.map (·.2) ++ L) q.2.1 = some q.2.2 := fun D hD q hq => by
    induction D with
    | nil => cases hq
    | cons x D ih =>
      rw [List.map_cons, List.cons_append, look_cons]
      by_cases e : x.2.1 = q.2.1
      · rw [if_pos e, hslot x (hD x (by simp)) q (hD q hq) e]
      · rw [if_neg e]
        rcases List.mem_cons.1 hq with rfl | hq
        · exact (e rfl).elim
        · exact ih (fun q hq => hD q (by simp [hq])) hq
  have sub : ∀ (D D' : Said), (∀ q ∈ D, q ∈ B) → (∀ q ∈ D', q ∈ D) → Incl Γ M (D.map (·.2) ++ L) (D'.map (·.2) ++ L) := fun D D' hD hD' t S hS => by
    by_cases hex : ∃ q ∈ D', q.2.1 = t
    · obtain ⟨q, hq, rfl⟩ := hex
      rw [lookIn D' (fun q hq => hD q (hD' q hq)) q hq] at hS
      cases hS
      exact ⟨_, lookIn D hD q (hD' q hq), fun _ _ h => h⟩
    · rw [lookOf D' (fun q hq => hD q (hD' q hq)) t (fun q hq e => hex ⟨q, hq, e⟩)] at hS
      by_cases hex2 : ∃ q ∈ D, q.2.1 = t
      · obtain ⟨q, hq, rfl⟩ := hex2
        rw [hnone q (hD q hq)] at hS; cases hS
      · exact ⟨S, by rw [lookOf D hD t fun q hq e => hex2 ⟨q, hq, e⟩]; exact hS, fun _ _ h => h⟩
  have main : ∀ (fuel : Nat) (listed : Array Bool) (D : Said) (a : Act) (w : World), listed.size = l.length → open_ listed l.length = fuel → (∀ i o, l[i]? = some o → listed.getD i false = true → ∀ j ∈ deps o, listed.getD j false = true) →
      (∀ i, m ≤ i → i < l.length → listed.getD i false = false) → (∀ q ∈ D, q ∈ B) → (∀ q ∈ B, listed.getD q.1 false = true → q ∈ D) → St n Γ M (D.map (·.2) ++ L) a w → wpAny Γ.E.P .any l.toArray Q fuel listed a w := by
    intro fuel
    induction fuel with
    | zero =>
      intro listed D a w hsz hop hcl htail hD hDB hst
      have hall : ∀ j, j < l.length → listed.getD j false = true := fun j hj => by
        unfold open_ at hop
        have := List.countP_eq_zero.1 hop j (by simpa using hj)
        rw [Array.getD_eq_getD_getElem?] at this ⊢
        cases hx : listed[j]? with
        | none => rw [Array.getElem?_eq_none_iff] at hx; omega
        | some b => rw [hx] at this; simpa using this
      have hml : m = l.length := by
        refine Nat.le_antisymm hm (Nat.le_of_not_lt fun hh => ?_)
        have := htail m (Nat.le_refl _) hh
        rw [hall m hh] at this; cases this
      refine wpAny_list hok 0 l.length 0 listed a w (by omega) hm rfl hsz (fun j hj => ⟨fun _ => hj, fun _ => hall j hj⟩) ?_
      rw [hml] at h
      exact h a w (hst.incl (sub D B hD fun q hq => hDB q hq (hall _ (by have := hlt q hq; omega))))
    | succ fuel ih =>
      intro listed D a w hsz hop hcl htail hD hDB hst
      by_cases hall : ∀ j, j < m → listed.getD j false = true
      · -- the first operations are done
        have hcnt : fuel + 1 = l.length - m := by
          rw [← hop]
          unfold open_
          have : ∀ k, k ≤ l.length → (List.range k).countP (fun j => !listed.getD j true) = k - m := by
            intro k
            induction k with
            | zero => intro _; simp
            | succ k ihk =>
              intro hk
              rw [List.range_succ, List.countP_append, ihk (by omega)]
              have hgd : listed.getD k true = listed.getD k false := by
                rw [Array.getD_eq_getD_getElem?, Array.getD_eq_getD_getElem?]
                cases hx : listed[k]? with
                | none => rw [Array.getElem?_eq_none_iff] at hx; omega
                | some b => rfl
              by_cases hkm : k < m
              · have hgk : listed.getD k true = true := by rw [hgd]; exact hall k hkm
                simp only [List.countP_cons, List.countP_nil, hgk, Bool.not_true, Bool.false_eq_true, if_false]
                omega
              · have hgk : listed.getD k true = false := by rw [hgd]; exact htail k (by omega) (by omega)
                simp only [List.countP_cons, List.countP_nil, hgk, Bool.not_false, if_true]
                omega
          exact this l.length (Nat.le_refl _)
        refine wpAny_list hok (l.length - m) m (fuel + 1) listed a w (by omega) (Nat.le_refl _) hcnt hsz (fun j hj => ⟨fun hj' => ?_, fun hj' => hall j hj'⟩) ?_
        · refine Nat.lt_of_not_le fun hh => ?_
          rw [htail j hh hj] at hj'; cases hj'
        · exact h a w (hst.incl (sub D B hD fun q hq => hDB q hq (hall _ (hlt q hq))))
      · obtain ⟨j0, hj0, hj0f⟩ : ∃ j, j < m ∧ listed.getD j false = false := by
          by_cases hex : ∃ j, j < m ∧ listed.getD j false = false
          · exact hex
          · exact (hall fun j hj => by
              cases hb : listed.getD j false with
              | true => rfl
              | false => exact (hex ⟨j, hj, hb⟩).elim).elim
        refine ⟨fun hr => ?_, fun x hx => ?_⟩
        · -- the least one that is not listed is ready
          exfalso
          have : ∃ i, i < l.length ∧ listed.getD i false = false ∧ ∀ j, j < i → listed.getD j false = true := by
            clear hr
            induction j0 using Nat.strongRecOn with
            | _ j0 ihj =>
              by_cases hex : ∃ j, j < j0 ∧ listed.getD j false = false
              · obtain ⟨j, hj, hjf⟩ := hex
                exact ihj j hj (by omega) hjf
              · exact ⟨j0, by omega, hj0f, fun j hj => by
                  cases hb : listed.getD j false with
                  | true => rfl
                  | false => exact (hex ⟨j, hj, hb⟩).elim⟩
          obtain ⟨i, hi, hif, hil⟩ := this
          have hgd : listed.getD i true = false := by
            rw [Array.getD_eq_getD_getElem?] at hif ⊢
            cases hx : listed[i]? with
            | none => rw [Array.getElem?_eq_none_iff] at hx; omega
            | some b => rw [hx] at hif; simpa using hif
          have := ready_mem (l := l) (List.getElem?_eq_getElem hi) hgd fun j hj => hil j (hlow' i _ (List.getElem?_eq_getElem hi) j hj)
          rw [hr] at this
          simp at this
        · obtain ⟨h1, h2, h3⟩ := mem_ready hx
          have h3' := h3 _ (List.getElem?_eq_getElem h1)
          have hxm : x < m := by
            refine Nat.lt_of_not_le fun hh => ?_
            have hb : (masks [] l)[x]? = some ((masks [] l)[x]'(by rw [masks_length]; simpa using h1)) := List.getElem?_eq_getElem _
            have := masks_spec (D := fun j => listed.getD j false = true) (all := l) (fun i' o ho hD j hj => hcl i' o ho hD j hj) l [] [] rfl rfl (fun k o b hk hb => by simp at hb) x _ _ (List.getElem?_eq_getElem h1) hb h3' j0 (hmask x _ hb hh j0 (by omega))
            rw [hj0f] at this; cases this
          obtain ⟨⟨d, S⟩, hp⟩ := hmem x hxm
          obtain ⟨o, ho, hd, hstep⟩ := hB _ hp
          have hox : o = l[x] := by rw [List.getElem?_eq_getElem h1] at ho; cases ho; rfl
          subst hox
          -- what it leans on is there
          let D' : Said := (deps l[x]).filterMap fun j => (lookB B j).map fun p => (j, p)
          have hD' : D'.map (·.2) = avail B l[x] := by
            simp only [D', avail, List.map_filterMap]
            congr 1
            funext j
            cases lookB B j <;> rfl
          have hD'D : ∀ q ∈ D', q ∈ D := fun q hq => by
            simp only [D', List.mem_filterMap, Option.map_eq_some_iff] at hq
            obtain ⟨j, hj, p, hp, rfl⟩ := hq
            exact hDB _ (lookB_mem hp) (h3' j hj)
          have hst' : St n Γ M (avail B l[x] ++ L) a w := by rw [← hD']; exact hst.incl (sub D D' hD hD'D)
          refine hstep a w hst' _ fun v w' g hv => ?_
          refine ih (listed.setIfInBounds x true) ((x, d, S) :: D) _ _ (by simp [hsz]) ?_ ?_ ?_ ?_ ?_ ?_
          · have := open_set hsz (by simpa using h1) h2
            omega
          · intro i o' hio hi j hj
            rw [getD_set (by omega)] at hi ⊢
            rcases hi with hi | hi
            · rw [hi] at hio; exact .inr (h3 o' hio j hj)
            · exact .inr (hcl i o' hio hi j hj)
          · intro i hmi hi
            have hne : i ≠ x := by omega
            have := htail i hmi hi
            rw [Array.getD_eq_getD_getElem?, Array.getElem?_setIfInBounds_ne (fun e => hne e.symm), ← Array.getD_eq_getD_getElem?]
            exact this
          · intro q hq
            rcases List.mem_cons.1 hq with rfl | hq
            · exact hp
            · exact hD q hq
          · intro q hq hl
            rw [getD_set (by omega)] at hl
            rcases hl with hl | hl
            · have := hfun q hq (x, d, S) hp hl
              rw [this]; simp
            · exact List.mem_cons_of_mem _ (hDB q hq hl)
          · have hdn : d < n := Nat.le_of_ble_eq_true (List.all_eq_true.1 hn _ hp)
            exact (hst.grow g).put hdn hv
  refine wp_region_any Γ.E.mixed ?_
  have hst0 : St n Γ M (([] : Said).map (·.2) ++ L) a { w with drawn := w.drawn + 1 } := hs.grow ⟨rfl, rfl, rfl, Nat.le_refl _, fun _ _ => rfl⟩
  refine main _ _ [] a _ (by simp) ?_ (fun i o _ hi => ?_) (fun i _ hi => ?_) (fun q hq => by cases hq) (fun q hq hl => ?_) hst0
  · unfold open_
    have : ∀ k, k ≤ l.length → (List.range k).countP (fun j => !(Array.replicate l.toArray.size false).getD j true) = k := by
      intro k
      induction k with
      | zero => intro _; rfl
      | succ k ih =>
        intro hk
        rw [List.range_succ, List.countP_append, ih (by omega)]
        simp [Array.getD_eq_getD_getElem?, Array.getElem?_replicate, show k < l.length by omega]
    simpa using this l.length (Nat.le_refl _)
  · rw [Array.getD_eq_getD_getElem?, Array.getElem?_replicate] at hi
    split at hi <;> simp at hi
  · rw [Array.getD_eq_getD_getElem?, Array.getElem?_replicate]
    split <;> simp
  · rw [Array.getD_eq_getD_getElem?, Array.getElem?_replicate] at hl
    split at hl <;> simp at hl
end
end Go.Vx
