/- A region that draws its order and makes one variable of the call's own, at any time. Conditions: as in Vg; the variable's address is used by the last operations alone. -/
import Derived.Test.YtofnjbcbkfbomaaDoorVg
namespace Go.Vx
open Go Go.RowKit
section
variable {n : Nat} {Γ : Ctx} {M : Owns} {L : List (Nat × Spec)} {ops : Array Oper} {Q : Exit → Act → World → Prop} {o : Oper}

/-- The new variable. -/
structure New where
  ia : Nat
  da : Nat
  t : TypeId
  z : List Spec

abbrev New.with (A : New) (M0 : Owns) (b : Nat) : Owns := (A.da, .blk b A.t A.z) :: M0
abbrev New.S (b : Nat) : Spec := sval (.pointer (some ⟨b, 0, none⟩))

/-- One operation, ahead of the new variable and behind it. -/
def Step2 (n : Nat) (Γ : Ctx) (M : Owns) (A : New) (L : List (Nat × Spec)) (ops : Array Oper) (Q : Exit → Act → World → Prop) (i d : Nat) (S : Spec) : Prop :=
  StepOk n Γ M L ops Q i d S ∧ ∀ b, StepOk n Γ (A.with M b) L ops Q i d S

/-- The making of the variable. -/
theorem alloc_step {A : New} {z : Value} {i : TypeInfo} {ty : TypeId} {pos : String} {after : Array Edge} (ho : ops[A.ia]? = some ⟨some A.da, .alloc A.t, ty, pos, after, none⟩) (hi : Γ.E.P.info? A.t = some i) (hz : i.zero = some z) (hone : ∀ u ∈ z.cells.toList, u.oneCell' = true) (hA : A.z = z.cells.toList.map fun u => sval u)
    (hn : Nat.ble (A.da + 1) n = true) {a : Act} {w : World} (hs : St n Γ M L a w) {K : Act → World → Prop} (hK : ∀ b a' w', St n Γ (A.with M b) ((A.da, New.S b) :: L) a' w' → K a' w') : wpOp Γ.E.P ops Q A.ia K a w := by
  unfold wpOp
  simp only [ho]
  rw [if_pos (by simp [Region.wanted])]
  refine .inl ?_
  have : (execOp a.eval ⟨some A.da, .alloc A.t, ty, pos, after, none⟩).run Γ.E.P w = .ok (.value (.pointer (some ⟨w.heap.size, 0, none⟩))) (w.alloc (.cells z.cells A.t)) := by
    simp [execOp, Instr.alloc, zeroValue, typeInfo, hi, hz, newVar, newRow]
  unfold Oper.wp
  rw [this]
  have g : Grow w (w.alloc (.cells z.cells A.t)) := (Below.refl _ w).alloc (Nat.le_refl _) _
  refine hK w.heap.size _ _ ((hs.fresh_own g (t := A.da) (e := .blk w.heap.size A.t A.z) (fun k hk => ?_) (fun F hF => ⟨z.cells.toList, ?_, ?_⟩)).put (Nat.le_of_ble_eq_true hn) rfl)
  · simp [Ent.block] at hk; subst hk; simp
  · rw [heap_alloc_new]
  · rw [hA]; exact cells_zeros hone

/-- What has been said so far, in the walk through such a region: i operations. -/
def Draw2 (n : Nat) (Γ : Ctx) (M : Owns) (A : New) (L : List (Nat × Spec)) (l : List Oper) (Q : Exit → Act → World → Prop) (id : Nat) (i : Nat) (B : Said) : Prop :=
  (∀ p ∈ B, ∃ o, l[p.1]? = some o ∧ o.dst = some p.2.1 ∧ Step2 n Γ M A (avail B o ++ L) l.toArray Q p.1 p.2.1 p.2.2) → (B.map (·.1) = ((List.range i).filter (· ≠ A.ia)).reverse) → Run n Γ M L ((Code.region id l.toArray true).wp Γ.E.P Q)

theorem Run.draw2 {l : List Oper} {id : Nat} (A : New) (h : Draw2 n Γ M A L l Q id 0 []) : Run n Γ M L ((Code.region id l.toArray true).wp Γ.E.P Q) := h (fun p hp => by cases hp) rfl

/-- The next operation of the text. -/
theorem Draw2.step {l : List Oper} {id i d : Nat} {B : Said} {A : New} {S : Spec} (ho : l[i]? = some o) (hd : o.dst = some d) (hdep : (deps o).all (fun j => Nat.blt j i) = true) (hs : Step2 n Γ M A (avail B o ++ L) l.toArray Q i d S)
    (hall : (l.take i).all (fun o => (deps o).all (fun j => Nat.blt j i)) = true) (hia : (i != A.ia) = true) (h : Draw2 n Γ M A L l Q id (i + 1) ((i, d, S) :: B)) : Draw2 n Γ M A L l Q id i B := fun hB hk => by
  refine h (fun p hp => ?_) (by
    have hne : i ≠ A.ia := by simpa using hia
    rw [List.map_cons, hk, List.range_succ, List.filter_append, List.reverse_append, List.filter_cons_of_pos (by simpa using hne)]; rfl)
  rcases List.mem_cons.1 hp with rfl | hp
  · refine ⟨o, ho, hd, ?_⟩
    rw [avail_cons (fun j hj => by have := List.all_eq_true.1 hdep j hj; exact Nat.le_of_ble_eq_true this)]
    exact hs
  · obtain ⟨o', h1, h2, h3⟩ := hB p hp
    refine ⟨o', h1, h2, ?_⟩
    rw [avail_cons fun j hj => ?_]
    · exact h3
    · have hpi : p.1 < i := by
        have : p.1 ∈ B.map (·.1) := List.mem_map_of_mem hp
        rw [hk] at this
        simp at this
        exact this.1
      have hm : o' ∈ l.take i := by
        refine List.mem_of_getElem? (i := p.1) ?_
        rw [List.getElem?_take_of_lt hpi]; exact h1
      have := List.all_eq_true.1 (List.all_eq_true.1 hall o' hm) j hj
      exact Nat.le_of_ble_eq_true this

/-- The making of the variable stands here in the text. -/
theorem Draw2.new {l : List Oper} {id i : Nat} {B : Said} {A : New} (hia : i = A.ia) (h : Draw2 n Γ M A L l Q id (i + 1) B) : Draw2 n Γ M A L l Q id i B := fun hB hk =>
  h hB (by rw [hk, List.range_succ, List.filter_append, hia]; simp)

/-- The last operations, in the order of the text. -/
theorem Draw2.tail {l : List Oper} {id m : Nat} {B : Said} {A : New} {z : Value} {ti : TypeInfo} {ty : TypeId} {pos : String} {after : Array Edge} (hal : l[A.ia]? = some ⟨some A.da, .alloc A.t, ty, pos, after, none⟩) (hiam : Nat.blt A.ia m = true) (hti : Γ.E.P.info? A.t = some ti) (hz : ti.zero = some z) (hone : ∀ u ∈ z.cells.toList, u.oneCell' = true) (hA : A.z = z.cells.toList.map fun u => sval u) (hnA : Nat.ble (A.da + 1) n = true)
    (hok : orderOk l m = true) (hsl : slotsOk l m L = true) (hn : (B.all fun p => Nat.ble (p.2.1 + 1) n) = true)
    (h : ∀ b, Run n Γ (A.with M b) ((A.da, New.S b) :: (B.map (·.2) ++ L)) (wpList Γ.E.P l.toArray Q (l.drop m))) : Draw2 n Γ M A L l Q id m B := fun hB hkeys => by
  intro a w hs
  have hm : m ≤ l.length := by
    unfold orderOk at hok
    simp only [Bool.and_eq_true] at hok
    exact Nat.le_of_ble_eq_true hok.2
  have hlow' : ∀ i o, l[i]? = some o → ∀ j ∈ deps o, j < i := fun i o ho j hj => by
    have hok' := hok
    unfold orderOk at hok'
    simp only [Bool.and_eq_true] at hok'
    have := List.all_eq_true.1 hok'.1.1 (o, i) (List.mem_zipIdx_iff_getElem?.2 ho)
    exact Nat.le_of_ble_eq_true (List.all_eq_true.1 this j hj)
  have hmask : ∀ x b, (masks [] l)[x]? = some b → m ≤ x → ∀ i, i < x → b.testBit i = true := fun x b hb hmx i hi => by
    have hok' := hok
    unfold orderOk at hok'
    simp only [Bool.and_eq_true] at hok'
    have hbit := List.all_eq_true.1 hok'.1.2 (b, x) (List.mem_zipIdx_iff_getElem?.2 hb)
    simp only [Bool.or_eq_true] at hbit
    rcases hbit with hbit | hbit
    · have : x < m := Nat.le_of_ble_eq_true hbit
      omega
    · exact List.all_eq_true.1 hbit i (by simpa using hi)
  -- what is said is told by its number, and by its slot
  have hiam := Nat.le_of_ble_eq_true hiam
  have hmem : ∀ i, i < m → i ≠ A.ia → ∃ p, (i, p) ∈ B := fun i hi hne => by
    have : i ∈ B.map (·.1) := by rw [hkeys]; simp; exact ⟨hi, hne⟩
    obtain ⟨⟨j, p⟩, hp, rfl⟩ := List.mem_map.1 this
    exact ⟨p, hp⟩
  have hlt : ∀ p ∈ B, p.1 < m := fun p hp => by
    have : p.1 ∈ B.map (·.1) := List.mem_map_of_mem hp
    rw [hkeys] at this
    simp at this
    exact this.1
  have hneA : ∀ p ∈ B, p.1 ≠ A.ia := fun p hp => by
    have : p.1 ∈ B.map (·.1) := List.mem_map_of_mem hp
    rw [hkeys] at this
    simp at this
    exact this.2
  have hnd : (B.map (·.1)).Nodup := by rw [hkeys, List.Nodup, List.pairwise_reverse]; exact (List.nodup_range.filter _).imp fun h => Ne.symm h
  have hfun : ∀ q ∈ B, ∀ q' ∈ B, q.1 = q'.1 → q = q' := by
    clear hB hkeys hmem hlt h hn hneA
    intro q hq q' hq' e
    induction B with
    | nil => cases hq
    | cons x B ih =>
      rw [List.map_cons, List.nodup_cons] at hnd
      rcases List.mem_cons.1 hq with h1 | h1 <;> rcases List.mem_cons.1 hq' with h2 | h2
      · rw [h1, h2]
      · exact (hnd.1 (by rw [← h1, e]; exact List.mem_map_of_mem h2)).elim
      · exact (hnd.1 (by rw [← h2, ← e]; exact List.mem_map_of_mem h1)).elim
      · exact ih hnd.2 h1 h2
  have hslot : ∀ q ∈ B, ∀ q' ∈ B, q.2.1 = q'.2.1 → q = q' := fun q hq q' hq' e => by
    obtain ⟨o, h1, h2, _⟩ := hB q hq
    obtain ⟨o', h1', h2', _⟩ := hB q' hq'
    refine hfun q hq q' hq' ?_
    unfold slotsOk at hsl
    simp only [Bool.and_eq_true, decide_eq_true_eq] at hsl
    have hnd2 := hsl.2
    have g1 : ((l.take m).map (·.dst))[q.1]? = some (some q.2.1) := by rw [List.getElem?_map, List.getElem?_take_of_lt (hlt q hq), h1]; simp [h2]
    have g2 : ((l.take m).map (·.dst))[q'.1]? = some (some q.2.1) := by rw [List.getElem?_map, List.getElem?_take_of_lt (hlt q' hq'), h1']; simp [h2', e]
    have := List.pairwise_iff_getElem.1 hnd2
    obtain ⟨b1, b2⟩ := List.getElem?_eq_some_iff.1 g1
    obtain ⟨c1, c2⟩ := List.getElem?_eq_some_iff.1 g2
    rcases Nat.lt_trichotomy q.1 q'.1 with hh | hh | hh
    · exact (this q.1 q'.1 b1 c1 hh (by rw [b2, c2])).elim
    · exact hh
    · exact (this q'.1 q.1 c1 b1 hh (by rw [b2, c2])).elim
  have hnone : ∀ q ∈ B, look L q.2.1 = none := fun q hq => by
    obtain ⟨o, h1, h2, _⟩ := hB q hq
    unfold slotsOk at hsl
    simp only [Bool.and_eq_true] at hsl
    have := List.all_eq_true.1 hsl.1 (some q.2.1) (by
      refine List.mem_map.2 ⟨o, ?_, h2⟩
      refine List.mem_of_getElem? (i := q.1) ?_
      rw [List.getElem?_take_of_lt (hlt q hq)]; exact h1)
    simpa using this
  have hslA : (∀ q ∈ B, q.2.1 ≠ A.da) ∧ look L A.da = none := by
    have gA : ((l.take m).map (·.dst))[A.ia]? = some (some A.da) := by rw [List.getElem?_map, List.getElem?_take_of_lt hiam, hal]; rfl
    unfold slotsOk at hsl
    simp only [Bool.and_eq_true, decide_eq_true_eq] at hsl
    refine ⟨fun q hq e => ?_, ?_⟩
    · obtain ⟨o, h1, h2, _⟩ := hB q hq
      have g1 : ((l.take m).map (·.dst))[q.1]? = some (some q.2.1) := by rw [List.getElem?_map, List.getElem?_take_of_lt (hlt q hq), h1]; simp [h2]
      have := List.pairwise_iff_getElem.1 hsl.2
      obtain ⟨b1, b2⟩ := List.getElem?_eq_some_iff.1 g1
      obtain ⟨c1, c2⟩ := List.getElem?_eq_some_iff.1 gA
      rcases Nat.lt_trichotomy q.1 A.ia with hh | hh | hh
      · exact this q.1 A.ia b1 c1 hh (by rw [b2, c2, e])
      · exact hneA q hq hh
      · exact this A.ia q.1 c1 b1 hh (by rw [b2, c2, e])
    · have := List.all_eq_true.1 hsl.1 (some A.da) (List.mem_of_getElem? gA)
      simpa using this
  -- a list of some of what is said
  have lookOf : ∀ (D : Said), (∀ q ∈ D, q ∈ B) → ∀ t, (∀ q ∈ D, q.2.1 ≠ t) → look (D.map (·.2) ++ L) t = look L t := fun D hD t ht => by
    induction D with
    | nil => rfl
    | cons x D ih =>
      rw [List.map_cons, List.cons_append, look_cons, if_neg (ht x (by simp))]
      exact ih (fun q hq => hD q (by simp [hq])) fun q hq => ht q (by simp [hq])
  have lookIn : ∀ (D : Said), (∀ q ∈ D, q ∈ B) → ∀ q ∈ D, look (D.map (·.2) ++ L) q.2.1 = some q.2.2 := fun D hD q hq => by
    induction D with
    | nil => cases hq
    | cons x D ih =>
      rw [List.map_cons, List.cons_append, look_cons]
      by_cases e : x.2.1 = q.2.1
      · rw [if_pos e, hslot x (hD x (by simp)) q (hD q hq) e]
      · rw [if_neg e]
        rcases List.mem_cons.1 hq with rfl | hq
        · exact (e rfl).elim
        · exact ih (fun q hq => hD q (by simp [hq])) hq
  have sub : ∀ (M' : Owns) (D D' : Said), (∀ q ∈ D, q ∈ B) → (∀ q ∈ D', q ∈ D) → Incl Γ M' (D.map (·.2) ++ L) (D'.map (·.2) ++ L) := fun M' D D' hD hD' t S hS => by
    by_cases hex : ∃ q ∈ D', q.2.1 = t
    · obtain ⟨q, hq, rfl⟩ := hex
      rw [lookIn D' (fun q hq => hD q (hD' q hq)) q hq] at hS
      cases hS
      exact ⟨_, lookIn D hD q (hD' q hq), fun _ _ h => h⟩
    · rw [lookOf D' (fun q hq => hD q (hD' q hq)) t (fun q hq e => hex ⟨q, hq, e⟩)] at hS
      by_cases hex2 : ∃ q ∈ D, q.2.1 = t
      · obtain ⟨q, hq, rfl⟩ := hex2
        rw [hnone q (hD q hq)] at hS; cases hS
      · exact ⟨S, by rw [lookOf D hD t fun q hq e => hex2 ⟨q, hq, e⟩]; exact hS, fun _ _ h => h⟩
  have subA : ∀ (M' : Owns) (b : Nat) (D : Said), (∀ q ∈ D, q ∈ B) → Incl Γ M' ((A.da, New.S b) :: (D.map (·.2) ++ L)) (D.map (·.2) ++ L) := fun M' b D hD t S hS => by
    refine ⟨S, ?_, fun _ _ h => h⟩
    rw [look_cons, if_neg ?_]
    · exact hS
    · rintro rfl
      rw [lookOf D hD A.da (fun q hq => hslA.1 q (hD q hq)), hslA.2] at hS
      cases hS
  have sub2 : ∀ (M' : Owns) (b : Nat) (D D' : Said), (∀ q ∈ D, q ∈ B) → (∀ q ∈ D', q ∈ D) → Incl Γ M' ((A.da, New.S b) :: (D.map (·.2) ++ L)) ((A.da, New.S b) :: (D'.map (·.2) ++ L)) := fun M' b D D' hD hD' t S hS => by
    rw [look_cons] at hS
    by_cases e : A.da = t
    · rw [if_pos e] at hS
      exact ⟨S, by rw [look_cons, if_pos e]; exact hS, fun _ _ h => h⟩
    · rw [if_neg e] at hS
      obtain ⟨T, h1, h2⟩ := sub M' D D' hD hD' t S hS
      exact ⟨T, by rw [look_cons, if_neg e]; exact h1, h2⟩
  let StA : Array Bool → Said → Act → World → Prop := fun listed D a w =>
    (listed.getD A.ia false = false ∧ St n Γ M (D.map (·.2) ++ L) a w) ∨ (listed.getD A.ia false = true ∧ ∃ b, St n Γ (A.with M b) ((A.da, New.S b) :: (D.map (·.2) ++ L)) a w)
  have main : ∀ (fuel : Nat) (listed : Array Bool) (D : Said) (a : Act) (w : World), listed.size = l.length → open_ listed l.length = fuel → (∀ i o, l[i]? = some o → listed.getD i false = true → ∀ j ∈ deps o, listed.getD j false = true) →
      (∀ i, m ≤ i → i < l.length → listed.getD i false = false) → (∀ q ∈ D, q ∈ B) → (∀ q ∈ B, listed.getD q.1 false = true → q ∈ D) → StA listed D a w → wpAny Γ.E.P .any l.toArray Q fuel listed a w := by
    intro fuel
    induction fuel with
    | zero =>
      intro listed D a w hsz hop hcl htail hD hDB hst
      have hall : ∀ j, j < l.length → listed.getD j false = true := fun j hj => by
        unfold open_ at hop
        have := List.countP_eq_zero.1 hop j (by simpa using hj)
        rw [Array.getD_eq_getD_getElem?] at this ⊢
        cases hx : listed[j]? with
        | none => rw [Array.getElem?_eq_none_iff] at hx; omega
        | some b => rw [hx] at this; simpa using this
      have hml : m = l.length := by
        refine Nat.le_antisymm hm (Nat.le_of_not_lt fun hh => ?_)
        have := htail m (Nat.le_refl _) hh
        rw [hall m hh] at this; cases this
      refine wpAny_list hok 0 l.length 0 listed a w (by omega) hm rfl hsz (fun j hj => ⟨fun _ => hj, fun _ => hall j hj⟩) ?_
      rw [hml] at h
      rcases hst with ⟨hf, _⟩ | ⟨_, b, hst⟩
      · rw [hall A.ia (by omega)] at hf; cases hf
      · exact h b a w (hst.incl (sub2 _ b D B hD fun q hq => hDB q hq (hall _ (by have := hlt q hq; omega))))
    | succ fuel ih =>
      intro listed D a w hsz hop hcl htail hD hDB hst
      by_cases hall : ∀ j, j < m → listed.getD j false = true
      · -- the first operations are done
        have hcnt : fuel + 1 = l.length - m := by
          rw [← hop]
          unfold open_
          have : ∀ k, k ≤ l.length → (List.range k).countP (fun j => !listed.getD j true) = k - m := by
            intro k
            induction k with
            | zero => intro _; simp
            | succ k ihk =>
              intro hk
              rw [List.range_succ, List.countP_append, ihk (by omega)]
              have hgd : listed.getD k true = listed.getD k false := by
                rw [Array.getD_eq_getD_getElem?, Array.getD_eq_getD_getElem?]
                cases hx : listed[k]? with
                | none => rw [Array.getElem?_eq_none_iff] at hx; omega
                | some b => rfl
              by_cases hkm : k < m
              · have hgk : listed.getD k true = true := by rw [hgd]; exact hall k hkm
                simp only [List.countP_cons, List.countP_nil, hgk, Bool.not_true, Bool.false_eq_true, if_false]
                omega
              · have hgk : listed.getD k true = false := by rw [hgd]; exact htail k (by omega) (by omega)
                simp only [List.countP_cons, List.countP_nil, hgk, Bool.not_false, if_true]
                omega
          exact this l.length (Nat.le_refl _)
        refine wpAny_list hok (l.length - m) m (fuel + 1) listed a w (by omega) (Nat.le_refl _) hcnt hsz (fun j hj => ⟨fun hj' => ?_, fun hj' => hall j hj'⟩) ?_
        · refine Nat.lt_of_not_le fun hh => ?_
          rw [htail j hh hj] at hj'; cases hj'
        · rcases hst with ⟨hf, _⟩ | ⟨_, b, hst⟩
          · rw [hall A.ia hiam] at hf; cases hf
          · exact h b a w (hst.incl (sub2 _ b D B hD fun q hq => hDB q hq (hall _ (hlt q hq))))
      · obtain ⟨j0, hj0, hj0f⟩ : ∃ j, j < m ∧ listed.getD j false = false := by
          by_cases hex : ∃ j, j < m ∧ listed.getD j false = false
          · exact hex
          · exact (hall fun j hj => by
              cases hb : listed.getD j false with
              | true => rfl
              | false => exact (hex ⟨j, hj, hb⟩).elim).elim
        refine ⟨fun hr => ?_, fun x hx => ?_⟩
        · -- the least one that is not listed is ready
          exfalso
          have : ∃ i, i < l.length ∧ listed.getD i false = false ∧ ∀ j, j < i → listed.getD j false = true := by
            clear hr
            induction j0 using Nat.strongRecOn with
            | _ j0 ihj =>
              by_cases hex : ∃ j, j < j0 ∧ listed.getD j false = false
              · obtain ⟨j, hj, hjf⟩ := hex
                exact ihj j hj (by omega) hjf
              · exact ⟨j0, by omega, hj0f, fun j hj => by
                  cases hb : listed.getD j false with
                  | true => rfl
                  | false => exact (hex ⟨j, hj, hb⟩).elim⟩
          obtain ⟨i, hi, hif, hil⟩ := this
          have hgd : listed.getD i true = false := by
            rw [Array.getD_eq_getD_getElem?] at hif ⊢
            cases hx : listed[i]? with
            | none => rw [Array.getElem?_eq_none_iff] at hx; omega
            | some b => rw [hx] at hif; simpa using hif
          have := ready_mem (l := l) (List.getElem?_eq_getElem hi) hgd fun j hj => hil j (hlow' i _ (List.getElem?_eq_getElem hi) j hj)
          rw [hr] at this
          simp at this
        · obtain ⟨h1, h2, h3⟩ := mem_ready hx
          have h3' := h3 _ (List.getElem?_eq_getElem h1)
          have hxm : x < m := by
            refine Nat.lt_of_not_le fun hh => ?_
            have hb : (masks [] l)[x]? = some ((masks [] l)[x]'(by rw [masks_length]; simpa using h1)) := List.getElem?_eq_getElem _
            have := masks_spec (D := fun j => listed.getD j false = true) (all := l) (fun i' o ho hD j hj => hcl i' o ho hD j hj) l [] [] rfl rfl (fun k o b hk hb => by simp at hb) x _ _ (List.getElem?_eq_getElem h1) hb h3' j0 (hmask x _ hb hh j0 (by omega))
            rw [hj0f] at this; cases this
          have next : ∀ i o', l[i]? = some o' → (listed.setIfInBounds x true).getD i false = true → ∀ j ∈ deps o', (listed.setIfInBounds x true).getD j false = true := by
            intro i o' hio hi j hj
            rw [getD_set (by omega)] at hi ⊢
            rcases hi with hi | hi
            · rw [hi] at hio; exact .inr (h3 o' hio j hj)
            · exact .inr (hcl i o' hio hi j hj)
          have nextT : ∀ i, m ≤ i → i < l.length → (listed.setIfInBounds x true).getD i false = false := by
            intro i hmi hi
            have hne : i ≠ x := by omega
            have := htail i hmi hi
            rw [Array.getD_eq_getD_getElem?, Array.getElem?_setIfInBounds_ne (fun e => hne e.symm), ← Array.getD_eq_getD_getElem?]
            exact this
          have nextO : open_ (listed.setIfInBounds x true) l.length = fuel := by
            have := open_set hsz (by simpa using h1) h2
            omega
          by_cases hxA : x = A.ia
          · -- the variable is made
            rcases hst with ⟨_, hst⟩ | ⟨hf, _⟩
            · rw [hxA]
              refine alloc_step (ops := l.toArray) (by simpa using hal) hti hz hone hA hnA hst fun b a' w' hs' => ?_
              rw [← hxA]
              refine ih _ D a' w' (by simp [hsz]) nextO next nextT hD (fun q hq hl => ?_) (.inr ⟨?_, b, hs'⟩)
              · rw [getD_set (by omega)] at hl
                rcases hl with hl | hl
                · exact (hneA q hq (by rw [hl, hxA])).elim
                · exact hDB q hq hl
              · rw [← hxA, getD_set (by omega)]; exact .inl rfl
            · rw [← hxA] at hf
              rw [Array.getD_eq_getD_getElem?] at h2 hf
              cases hx : listed[x]? with
              | none => rw [hx] at hf; simp at hf
              | some b => rw [hx] at h2 hf; simp at h2 hf; rw [h2] at hf; cases hf
          · obtain ⟨⟨d, S⟩, hp⟩ := hmem x hxm hxA
            obtain ⟨o, ho, hd, hstep⟩ := hB _ hp
            have hox : o = l[x] := by rw [List.getElem?_eq_getElem h1] at ho; cases ho; rfl
            subst hox
            -- what it leans on is there
            let D' : Said := (deps l[x]).filterMap fun j => (lookB B j).map fun p => (j, p)
            have hD' : D'.map (·.2) = avail B l[x] := by
              simp only [D', avail, List.map_filterMap]
              congr 1
              funext j
              cases lookB B j <;> rfl
            have hD'D : ∀ q ∈ D', q ∈ D := fun q hq => by
              simp only [D', List.mem_filterMap, Option.map_eq_some_iff] at hq
              obtain ⟨j, hj, p, hp, rfl⟩ := hq
              exact hDB _ (lookB_mem hp) (h3' j hj)
            have nextD : ∀ q ∈ (x, d, S) :: D, q ∈ B := by
              intro q hq
              rcases List.mem_cons.1 hq with rfl | hq
              · exact hp
              · exact hD q hq
            have nextB : ∀ q ∈ B, (listed.setIfInBounds x true).getD q.1 false = true → q ∈ (x, d, S) :: D := by
              intro q hq hl
              rw [getD_set (by omega)] at hl
              rcases hl with hl | hl
              · have := hfun q hq (x, d, S) hp hl
                rw [this]; simp
              · exact List.mem_cons_of_mem _ (hDB q hq hl)
            have hdn : d < n := Nat.le_of_ble_eq_true (List.all_eq_true.1 hn _ hp)
            have same : (listed.setIfInBounds x true).getD A.ia false = listed.getD A.ia false := by
              rw [Array.getD_eq_getD_getElem?, Array.getElem?_setIfInBounds_ne hxA, ← Array.getD_eq_getD_getElem?]
            rcases hst with ⟨hf, hst⟩ | ⟨hf, b, hst⟩
            · have hst' : St n Γ M (avail B l[x] ++ L) a w := by rw [← hD']; exact hst.incl (sub _ D D' hD hD'D)
              refine hstep.1 a w hst' _ fun v w' g hv => ?_
              exact ih (listed.setIfInBounds x true) ((x, d, S) :: D) _ _ (by simp [hsz]) nextO next nextT nextD nextB (.inl ⟨by rw [same]; exact hf, (hst.grow g).put hdn hv⟩)
            · have hst' : St n Γ (A.with M b) (avail B l[x] ++ L) a w := by
                rw [← hD']; exact (hst.incl (subA _ b D hD)).incl (sub _ D D' hD hD'D)
              refine hstep.2 b a w hst' _ fun v w' g hv => ?_
              have hput := (hst.grow g).put hdn hv
              refine ih (listed.setIfInBounds x true) ((x, d, S) :: D) _ _ (by simp [hsz]) nextO next nextT nextD nextB (.inr ⟨by rw [same]; exact hf, b, hput.incl fun t T hT => ⟨T, ?_, fun _ _ h => h⟩⟩)
              rw [look_cons] at hT ⊢
              by_cases e : A.da = t
              · rw [if_pos e] at hT
                have hne : d ≠ t := fun e' => hslA.1 _ hp (by rw [e]; exact e')
                rw [if_neg hne, look_cons, if_pos e]; exact hT
              · rw [if_neg e, List.map_cons, List.cons_append, look_cons] at hT
                by_cases e' : d = t
                · rw [if_pos e'] at hT ⊢; exact hT
                · rw [if_neg e'] at hT ⊢; rw [look_cons, if_neg e]; exact hT
  refine wp_region_any Γ.E.mixed ?_
  have hst0 : St n Γ M (([] : Said).map (·.2) ++ L) a { w with drawn := w.drawn + 1 } := hs.grow ⟨rfl, rfl, rfl, Nat.le_refl _, fun _ _ => rfl⟩
  refine main _ _ [] a _ (by simp) ?_ (fun i o _ hi => ?_) (fun i _ hi => ?_) (fun q hq => by cases hq) (fun q hq hl => ?_) (.inl ⟨?_, hst0⟩)
  · unfold open_
    have : ∀ k, k ≤ l.length → (List.range k).countP (fun j => !(Array.replicate l.toArray.size false).getD j true) = k := by
      intro k
      induction k with
      | zero => intro _; rfl
      | succ k ih =>
        intro hk
        rw [List.range_succ, List.countP_append, ih (by omega)]
        simp [Array.getD_eq_getD_getElem?, Array.getElem?_replicate, show k < l.length by omega]
    simpa using this l.length (Nat.le_refl _)
  · rw [Array.getD_eq_getD_getElem?, Array.getElem?_replicate] at hi
    split at hi <;> simp at hi
  · rw [Array.getD_eq_getD_getElem?, Array.getElem?_replicate]
    split <;> simp
  · rw [Array.getD_eq_getD_getElem?, Array.getElem?_replicate] at hl
    split at hl <;> simp at hl
  · rw [Array.getD_eq_getD_getElem?, Array.getElem?_replicate]
    split <;> simp
end
end Go.Vx
