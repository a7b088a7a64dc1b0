/- Maps that a call makes itself: made, read, written, ranged over in whatever order. Texts made of bytes. Conditions: each rule states what it asks. -/
import Derived.Test.YtofnjbcbkfbomaaDoorV6
import Derived.Test.YtofnjbcbkfbomaaDoorV4
import Derived.Maps.RangeRun
import Derived.Laws.BytesString
namespace Go.Vx
open Go Go.RowKit Go.MapKept Go.ChangeMaps

/-- How keys are told. -/
class KeyF {κ : Type} (d : TypeDesc) (f : κ → Value) : Prop where
  is : ∀ a, IsKey d (f a)
  inj : ∀ a b, f a = f b → a = b

section
variable {κ ν : Type} {f : κ → Value} {g : ν → Value}

/-- The entries of a map, in the order in which they came. -/
def ments (f : κ → Value) (g : ν → Value) : List (κ × ν) → Nat → List MapEntry
  | [], _ => []
  | (k, v) :: l, i => ⟨f k, g v, i⟩ :: ments f g l (i + 1)
def mobj (f : κ → Value) (g : ν → Value) (l : List (κ × ν)) : Obj := .map (ments f g l 0).toArray l.length

theorem ments_length : ∀ (l : List (κ × ν)) (i : Nat), (ments f g l i).length = l.length
  | [], _ => rfl
  | _ :: l, i => congrArg (· + 1) (ments_length l (i + 1))
theorem ments_get : ∀ (l : List (κ × ν)) (i j : Nat), (ments f g l i)[j]? = (l[j]?).map fun p => ⟨f p.1, g p.2, i + j⟩
  | [], i, j => by simp [ments]
  | (k, v) :: l, i, j => by
    cases j with
    | zero => simp [ments]
    | succ j => simp only [ments, List.getElem?_cons_succ]; rw [ments_get l (i + 1) j, Nat.add_assoc, Nat.add_comm 1 j]
theorem ments_born {l : List (κ × ν)} {i : Nat} {x : MapEntry} (h : x ∈ ments f g l i) : i ≤ x.born ∧ x.born < i + l.length ∧ ∃ p, l[x.born - i]? = some p ∧ x = ⟨f p.1, g p.2, x.born⟩ := by
  obtain ⟨j, hj⟩ := List.getElem?_of_mem h
  rw [ments_get, Option.map_eq_some_iff] at hj
  obtain ⟨p, hp, rfl⟩ := hj
  have := (List.getElem?_eq_some_iff.1 hp).1
  exact ⟨by simp, by simp; omega, p, by simpa using hp, rfl⟩
theorem ments_snoc : ∀ (l : List (κ × ν)) (k : κ) (v : ν) (i : Nat), ments f g (l ++ [(k, v)]) i = ments f g l i ++ [⟨f k, g v, i + l.length⟩]
  | [], k, v, i => by simp [ments]
  | p :: l, k, v, i => by
    rw [List.cons_append]
    simp only [ments, List.cons_append, List.length_cons]
    rw [ments_snoc l k v (i + 1), Nat.add_assoc, Nat.add_comm 1 l.length]

theorem ments_set : ∀ (l : List (κ × ν)) (j i : Nat) (k : κ) (v v' : ν), l[j]? = some (k, v') → (ments f g l i).modify j (fun e => { e with key := f k, val := g v }) = ments f g (l.set j (k, v)) i
  | [], j, _, _, _, _, h => by simp at h
  | (k0, v0) :: l, j, i, k, v, v', h => by
    cases j with
    | zero => simp at h; obtain ⟨rfl, rfl⟩ := h; simp [ments]
    | succ j => simp only [ments, List.set_cons_succ, List.modify_succ_cons]; rw [ments_set l j (i + 1) k v v' (by simpa using h)]
end
section
variable {κ ν : Type} [DecidableEq κ] {f : κ → Value} {g : ν → Value}
def mget : List (κ × ν) → κ → Option ν
  | [], _ => none
  | (k', v) :: l, k => if k' = k then some v else mget l k
def mset : List (κ × ν) → κ → ν → List (κ × ν)
  | [], k, v => [(k, v)]
  | (k', v') :: l, k, v => if k' = k then (k', v) :: l else (k', v') :: mset l k v

/-- Where a key stands. -/
def midx : List (κ × ν) → κ → Option Nat
  | [], _ => none
  | (k', _) :: l, k => if k' = k then some 0 else (midx l k).map (· + 1)
theorem midx_none : ∀ {l : List (κ × ν)} {k : κ}, midx l k = none → mget l k = none ∧ ∀ v, mset l k v = l ++ [(k, v)]
  | [], _, _ => ⟨rfl, fun _ => rfl⟩
  | (k', v') :: l, k, h => by
    unfold midx at h
    by_cases e : k' = k
    · rw [if_pos e] at h; cases h
    · rw [if_neg e, Option.map_eq_none_iff] at h
      obtain ⟨h1, h2⟩ := midx_none h
      exact ⟨by unfold mget; rw [if_neg e, h1], fun v => by unfold mset; rw [if_neg e, h2]; rfl⟩
theorem midx_some : ∀ {l : List (κ × ν)} {k : κ} {j : Nat}, midx l k = some j → ∃ v, l[j]? = some (k, v) ∧ mget l k = some v ∧ ∀ v, mset l k v = l.set j (k, v)
  | [], _, _, h => by cases h
  | (k', v') :: l, k, j, h => by
    unfold midx at h
    by_cases e : k' = k
    · rw [if_pos e] at h
      cases h
      subst e
      exact ⟨v', rfl, by unfold mget; rw [if_pos rfl], fun v => by unfold mset; rw [if_pos rfl]; rfl⟩
    · rw [if_neg e, Option.map_eq_some_iff] at h
      obtain ⟨j', hj', rfl⟩ := h
      obtain ⟨v, h1, h2, h3⟩ := midx_some hj'
      exact ⟨v, by simpa using h1, by unfold mget; rw [if_neg e, h2], fun v => by unfold mset; rw [if_neg e, h3]; rfl⟩

theorem findNow_ments {d : TypeDesc} [hf : KeyF d f] (k : κ) : ∀ (l : List (κ × ν)) (i n : Nat), Instr.findNow d (f k) (ments f g l n) i = some ((midx l k).bind fun j => (l[j]?).map fun p => (i + j, g p.2))
  | [], _, _ => rfl
  | (k', v') :: l, i, n => by
    obtain ⟨r, hr, hiff⟩ := sameNow_of_keys (hf.is k) (hf.is k')
    simp only [ments, Instr.findNow, hr]
    by_cases e : k' = k
    · subst e
      have : r = true := hiff.2 rfl
      subst this
      simp [midx]
    · have : r = false := by
        cases r with
        | false => rfl
        | true => exact (e (hf.inj _ _ (hiff.1 rfl)).symm).elim
      subst this
      simp only [midx, if_neg e]
      rw [findNow_ments k l (i + 1) (n + 1)]
      cases midx l k with
      | none => rfl
      | some j => simp [Nat.add_assoc, Nat.add_comm 1 j]

theorem run_mget {P : Program} {w : World} {t kt et : TypeId} {d : TypeDesc} {b : Nat} {l : List (κ × ν)} {z0 : ν} [hf : KeyF d f] (hU : P.underlying t = some (.map kt et)) (hUk : P.underlying kt = some d) (hz : ∃ i, P.info? et = some i ∧ i.zero = some (g z0))
    (hb : w.heap[b]? = some (mobj f g l)) (k : κ) (ok : Bool) : (Instr.lookup t (.map (some b)) (f k) ok).run P w = .ok (if ok then .tuple #[g ((mget l k).getD z0), .bool (mget l k).isSome] else g ((mget l k).getD z0)) w := by
  obtain ⟨i, hi, hzi⟩ := hz
  have hgo := MapKept.run_getObj_map (P := P) hb
  unfold Instr.lookup
  simp only [Sem.run_bind, run_underlying hU, Result.andThen, hgo, Sem.run_pure, run_checkKey hUk (hf.is k), run_findKey hUk (findNow_ments k l 0 0)]
  cases hm : midx l k with
  | none =>
    obtain ⟨h1, _⟩ := midx_none hm
    simp [h1, run_zeroValue hi hzi, Result.andThen]
  | some j =>
    obtain ⟨v, h0, h1, _⟩ := midx_some hm
    simp [h1, h0, Sem.run_pure]

theorem sameBits_key {d : TypeDesc} {k : Value} (h : IsKey d k) (m : Nat) : Instr.sameBits m k k = true := by
  cases d <;> cases k <;> simp only [IsKey] at h <;> cases m <;> simp [Instr.sameBits, bytes_beq]

theorem run_mset {P : Program} {w : World} {t kt et : TypeId} {d : TypeDesc} {b : Nat} {l : List (κ × ν)} [hf : KeyF d f] (hU : P.underlying t = some (.map kt et)) (hUk : P.underlying kt = some d)
    (hb : w.heap[b]? = some (mobj f g l)) (k : κ) (v : ν) : (Instr.mapUpdate t (.map (some b)) (f k) (g v)).run P w = .ok () (w.putObj b (mobj f g (mset l k v))) := by
  have hgo := MapKept.run_getObj_map (P := P) hb
  unfold Instr.mapUpdate mobj
  simp only [Sem.run_bind, run_underlying hU, Result.andThen, hgo, run_checkKey hUk (hf.is k), run_findKey hUk (findNow_ments k l 0 0)]
  cases hm : midx l k with
  | none =>
    obtain ⟨_, h2⟩ := midx_none hm
    simp only [Option.bind_none]
    rw [MapKept.run_setObj_map _ hb, h2 v, ments_snoc]
    simp [World.putObj]
  | some j =>
    obtain ⟨v0, h0, h1, h2⟩ := midx_some hm
    simp only [Option.bind_some, h0, Option.map_some, Nat.zero_add, Sem.run_bind]
    have e1 : ((ments f g l 0).toArray[j]?).map (·.key) = some (f k) := by simp [ments_get, h0]
    rw [e1]
    simp only [Option.getD_some]
    have e2 : (Instr.keyThatStays (f k) (f k)).run P w = .ok (f k) w := by unfold Instr.keyThatStays; rw [if_pos (sameBits_key (hf.is k) _), Sem.run_pure]
    rw [e2]
    simp only [Result.andThen]
    rw [MapKept.run_setObj_map _ hb, h2 v, ← ments_set l j 0 k v v0 h0]
    simp [World.putObj]
end

section
variable {n : Nat} {Γ : Ctx} {M : Owns} {L : List (Nat × Spec)} {dst : Option Nat} {ty : TypeId} {pos : String} {after : Array Edge} {guard : Option (Nat × Bool)}
variable {t : TypeId} {x y u : Operand} {ops : Array Oper} {Q : Exit → Act → World → Prop} {rest : List Oper} {o : Oper}
variable {κ ν : Type} {f : κ → Value} {g : ν → Value}

/-- A map is made. -/
theorem Run.makeMap {dn : Nat} (f : κ → Value) (g : ν → Value) (hn : Nat.ble (dn + 1) n = true)
    (h : ∀ b, Run n Γ ((dn, .obj b (mobj f g [])) :: M) ((dn, sval (.map (some b))) :: L) (wpList Γ.E.P ops Q rest)) : Run n Γ M L (wpList Γ.E.P ops Q (⟨some dn, .makeMap t none, ty, pos, after, none⟩ :: rest)) := fun a w hs =>
  wpList_of_wp (guard_wanted rfl) (by
    have : (execOp a.eval ⟨some dn, .makeMap t none, ty, pos, after, none⟩).run Γ.E.P w = .ok (.value (.map (some w.heap.size))) (w.alloc (.map #[] 0)) := by
      simp [execOp, run_makeMap]
    unfold Oper.wp
    rw [this]
    have gr : Grow w (w.alloc (.map #[] 0)) := (Below.refl _ w).alloc (Nat.le_refl _) _
    refine h w.heap.size _ _ ((hs.fresh_own gr (t := dn) (e := .obj w.heap.size (mobj f g [])) (fun k hk => ?_) (fun F hF => ?_)).put (Nat.le_of_ble_eq_true hn) rfl)
    · simp [Ent.block] at hk; subst hk; simp
    · exact heap_alloc_new _ _)

theorem y_mget [DecidableEq κ] {b : Nat} {kt et : TypeId} {d : TypeDesc} {l : List (κ × ν)} {sz by' : Nat} [hf : KeyF d f] (key : Nat) (k : κ) (z0 : ν) (hx : opv L x = some (sval (.map (some b)))) (hm : lookM M key = some (.obj b (mobj f g l))) (hy : opv L y = some (sval (f k)))
    (hU : Γ.E.P.underlying t = some (.map kt et)) (hUk : Γ.E.P.underlying kt = some d) (hT : TI Γ.E.P et (g z0) sz by') : Yields n Γ M L ⟨dst, .lookup t x y false, ty, pos, after, guard⟩ (sval (g ((mget l k).getD z0))) :=
  y_val fun a w hs => by
    have hx' : a.eval x = _ := hs.opv hx
    have hy' : a.eval y = _ := hs.opv hy
    obtain ⟨i, hi, hz, _⟩ := hT.ex
    have := run_mget (P := Γ.E.P) hU hUk ⟨i, hi, hz⟩ (hs.own_ok hm) k false
    simp only [execOp, hx', hy']
    rw [Sem.run_bind, this]; rfl
theorem y_mgetOk [DecidableEq κ] {b : Nat} {kt et : TypeId} {d : TypeDesc} {l : List (κ × ν)} {sz by' : Nat} [hf : KeyF d f] (key : Nat) (k : κ) (z0 : ν) (hx : opv L x = some (sval (.map (some b)))) (hm : lookM M key = some (.obj b (mobj f g l))) (hy : opv L y = some (sval (f k)))
    (hU : Γ.E.P.underlying t = some (.map kt et)) (hUk : Γ.E.P.underlying kt = some d) (hT : TI Γ.E.P et (g z0) sz by') : Yields n Γ M L ⟨dst, .lookup t x y true, ty, pos, after, guard⟩ (stup [sval (g ((mget l k).getD z0)), sbool (mget l k).isSome]) := fun a w hs K Q hK => by
    have hx' : a.eval x = _ := hs.opv hx
    have hy' : a.eval y = _ := hs.opv hy
    obtain ⟨i, hi, hz, _⟩ := hT.ex
    have := run_mget (P := Γ.E.P) hU hUk ⟨i, hi, hz⟩ (hs.own_ok hm) k true
    unfold Oper.wp
    simp only [execOp, hx', hy']
    rw [Sem.run_bind, this]
    exact hK _ w (Below.refl _ _) ⟨_, rfl, rfl, rfl, trivial⟩

/-- A map is written. -/
theorem Run.mset [DecidableEq κ] {b : Nat} {kt et : TypeId} {d : TypeDesc} {l : List (κ × ν)} [hf : KeyF d f] (key : Nat) (k : κ) (v : ν) (hx : opv L x = some (sval (.map (some b)))) (hm : lookM M key = some (.obj b (mobj f g l))) (hy : opv L y = some (sval (f k))) (hu : opv L u = some (sval (g v)))
    (hU : Γ.E.P.underlying t = some (.map kt et)) (hUk : Γ.E.P.underlying kt = some d) (h : Run n Γ (setM M key (.obj b (mobj f g (Go.Vx.mset l k v)))) L (wpList Γ.E.P ops Q rest)) :
    Run n Γ M L (wpList Γ.E.P ops Q (⟨none, .mapUpdate t x y u, ty, pos, after, none⟩ :: rest)) := fun a w hs =>
  wpList_of_wp (guard_wanted rfl) (by
    have hx' : a.eval x = _ := hs.opv hx
    have hy' : a.eval y = _ := hs.opv hy
    have hu' : a.eval u = _ := hs.opv hu
    have := run_mset (P := Γ.E.P) (g := g) hU hUk (hs.own_ok hm) k v
    unfold Oper.wp
    simp only [execOp, hx', hy', hu']
    rw [Sem.run_bind, this]
    exact h _ _ (hs.putObj hm))

/-- A range over a map begins. -/
theorem Run.mrange {b dn : Nat} {kt et : TypeId} {l : List (κ × ν)} (key : Nat) (hx : opv L x = some (sval (.map (some b)))) (hm : lookM M key = some (.obj b (mobj f g l))) (hU : Γ.E.P.underlying t = some (.map kt et)) (hn : Nat.ble (dn + 1) n = true)
    (h : ∀ r, Run n Γ ((dn, .obj r (.mapIter (some b) l.length ([] : List Nat).toArray l.length)) :: M) ((dn, sval (.pointer (some ⟨r, 0, none⟩))) :: L) (wpList Γ.E.P ops Q rest)) :
    Run n Γ M L (wpList Γ.E.P ops Q (⟨some dn, .range t x, ty, pos, after, none⟩ :: rest)) := fun a w hs =>
  wpList_of_wp (guard_wanted rfl) (by
    have hx' : a.eval x = _ := hs.opv hx
    have hb : w.heap[b]? = some (mobj f g l) := hs.own_ok hm
    have : (execOp a.eval ⟨some dn, .range t x, ty, pos, after, none⟩).run Γ.E.P w = .ok (.value (.pointer (some ⟨w.heap.size, 0, none⟩))) (w.alloc (.mapIter (some b) l.length #[] l.length)) := by
      simp only [execOp, hx', Instr.range, Sem.run_bind, run_underlying hU, Result.andThen, MapKept.run_getObj_map (P := Γ.E.P) hb, Sem.run_pure]
      rfl
    unfold Oper.wp
    rw [this]
    have gr : Grow w (w.alloc (.mapIter (some b) l.length #[] l.length)) := (Below.refl _ w).alloc (Nat.le_refl _) _
    refine h w.heap.size _ _ ((hs.fresh_own gr (t := dn) (e := .obj w.heap.size (.mapIter (some b) l.length #[] l.length)) (fun k hk => ?_) (fun F hF => ?_)).put (Nat.le_of_ble_eq_true hn) rfl)
    · simp [Ent.block] at hk; subst hk; simp
    · exact heap_alloc_new _ _)

theorem setBlock_put (w : World) (r : Nat) (o : Obj) : setBlock w r o = w.putObj r o := rfl

/-- One step of it: all has been met, or some entry that has not. -/
theorem Run.mnext {b r dn : Nat} {l : List (κ × ν)} {s : List Nat} (key kit : Nat) (hx : opv L x = some (sval (.pointer (some ⟨r, 0, none⟩)))) (hm : lookM M key = some (.obj b (mobj f g l))) (hi : lookM M kit = some (.obj r (.mapIter (some b) l.length s.toArray l.length))) (hn : Nat.ble (dn + 1) n = true)
    (h1 : ∀ i k v, l[i]? = some (k, v) → i ∉ s → Run n Γ (setM M kit (.obj r (.mapIter (some b) l.length (s ++ [i]).toArray l.length))) ((dn, stup [sbool true, sval (f k), sval (g v)]) :: L) (wpList Γ.E.P ops Q rest))
    (h0 : (∀ i, i < l.length → i ∈ s) → Run n Γ M ((dn, stup [sbool false]) :: L) (wpList Γ.E.P ops Q rest)) :
    Run n Γ M L (wpList Γ.E.P ops Q (⟨some dn, .next x false, ty, pos, after, none⟩ :: rest)) := fun a w hs =>
  wpList_of_wp (guard_wanted rfl) (by
    have hx' : a.eval x = _ := hs.opv hx
    have hb : w.heap[b]? = some (mobj f g l) := hs.own_ok hm
    have hr : w.heap[r]? = some (.mapIter (some b) l.length s.toArray l.length) := hs.own_ok hi
    unfold Oper.wp
    rcases run_next_at (P := Γ.E.P) w ty r b l.length l.length s.toArray (ments f g l 0).toArray l.length hr hb (fun x hx => by have := (ments_born (by simpa using hx)).2.1; omega) (Nat.le_refl _) with ⟨he, hrun⟩ | ⟨e, he, w1, hw1, hrun⟩
    · have : (execOp a.eval ⟨some dn, .next x false, ty, pos, after, none⟩).run Γ.E.P w = .ok (.value (.tuple #[.bool false])) w := by
        simp only [execOp, hx']
        rw [Sem.run_bind, hrun]; rfl
      rw [this]
      refine h0 (fun i hi' => ?_) _ _ (hs.put (Nat.le_of_ble_eq_true hn) ⟨_, rfl, rfl, trivial⟩)
      have hnil : leftOf (ments f g l 0).toArray s.toArray = #[] := Array.eq_empty_of_size_eq_zero he
      unfold leftOf at hnil
      rw [Array.filter_eq_empty_iff] at hnil
      have hmem : (⟨f l[i].1, g l[i].2, i⟩ : MapEntry) ∈ (ments f g l 0).toArray := by
        simp only [List.mem_toArray]
        exact List.mem_of_getElem? (i := i) (by rw [ments_get]; simp [hi'])
      have := hnil _ hmem
      simpa using this
    · have hput : (execOp a.eval ⟨some dn, .next x false, ty, pos, after, none⟩).run Γ.E.P w = .ok (.value (.tuple #[.bool true, e.key, e.val])) (w1.putObj r (.mapIter (some b) l.length (s.toArray.push e.born) l.length)) := by
        simp only [execOp, hx']
        rw [Sem.run_bind, hrun, setBlock_put]; rfl
      rw [hput]
      obtain ⟨hl1, hl2⟩ := mem_left he
      obtain ⟨_, _, p, hp, hpe⟩ := ments_born (by simpa using hl1)
      have hs1 : St n Γ M L a w1 := by
        rcases hw1 with rfl | rfl
        · exact hs
        · exact hs.grow ⟨rfl, rfl, rfl, Nat.le_refl _, fun _ _ => rfl⟩
      have h1' := h1 e.born p.1 p.2 (by simpa using hp) (by
        intro hc
        have : s.toArray.contains e.born = true := by simpa using hc
        rw [this] at hl2; cases hl2) (a.put (some dn) (.tuple #[.bool true, e.key, e.val])) _ ((hs1.putObj (o' := .mapIter (some b) l.length (s ++ [e.born]).toArray l.length) hi).put (Nat.le_of_ble_eq_true hn) ⟨_, rfl, rfl, by rw [hpe], by rw [hpe], trivial⟩)
      have e1 : s.toArray.push e.born = (s ++ [e.born]).toArray := by simp
      rw [e1]
      exact h1')

/-- The entry that was met last. -/
theorem y_mentry {b r i : Nat} {l : List (κ × ν)} {s : List Nat} {k : κ} {v : ν} (key kit : Nat) (hx : opv L x = some (sval (.pointer (some ⟨r, 0, none⟩)))) (hm : lookM M key = some (.obj b (mobj f g l))) (hi : lookM M kit = some (.obj r (.mapIter (some b) l.length (s ++ [i]).toArray l.length))) (hkv : l[i]? = some (k, v)) :
    Yields n Γ M L ⟨dst, .entry x, ty, pos, after, guard⟩ (stup [sval (f k), sval (g v)]) := fun a w hs K Q hK => by
  have hx' : a.eval x = _ := hs.opv hx
  have hb : w.heap[b]? = some (mobj f g l) := hs.own_ok hm
  have hr : w.heap[r]? = some (.mapIter (some b) l.length (s ++ [i]).toArray l.length) := hs.own_ok hi
  have hr' : w.heap[r]? = some (.mapIter (some b) l.length (s.toArray.push (⟨f k, g v, i⟩ : MapEntry).born) l.length) := by rw [hr]; simp
  have hmem : (⟨f k, g v, i⟩ : MapEntry) ∈ (ments f g l 0).toArray.toList := by
    simp only
    exact List.mem_of_getElem? (i := i) (by rw [ments_get]; simp [hkv])
  have hnd : ((ments f g l 0).toArray.toList.map (·.born)).Nodup := by
    simp only
    have : ∀ (l : List (κ × ν)) (i : Nat), (ments f g l i).map (·.born) = List.range' i l.length := by
      intro l
      induction l with
      | nil => intro i; rfl
      | cons p l ih => intro i; simp only [ments, List.map_cons, List.length_cons, ih, List.range'_succ]
    rw [this]
    exact List.nodup_range'
  have hrun := run_entry_at (P := Γ.E.P) w r b l.length s.toArray (ments f g l 0).toArray l.length ⟨f k, g v, i⟩ hr' hb hmem hnd
  unfold Oper.wp
  have : (execOp a.eval ⟨dst, .entry x, ty, pos, after, guard⟩).run Γ.E.P w = .ok (.value (.tuple #[f k, g v])) w := by
    simp only [execOp, hx']
    rw [Sem.run_bind, hrun]; rfl
  rw [this]
  exact hK _ w (Below.refl _ _) ⟨_, rfl, rfl, rfl, trivial⟩
end

/-- What has been met, counted. -/
theorem seen_lt {s : List Nat} {i N : Nat} (h1 : s.Nodup) (h2 : ∀ j ∈ s, j < N) (h3 : i ∉ s) (h4 : i < N) : s.length < N := by
  have hnd : (i :: s).Nodup := List.nodup_cons.2 ⟨h3, h1⟩
  have hsub : (i :: s) ⊆ List.range N := fun j hj => by
    rcases List.mem_cons.1 hj with rfl | hj
    · simpa using h4
    · simpa using h2 j hj
  have hp := hnd.length_le_of_subset hsub
  simp at hp
  omega

/-! texts made of bytes -/
def bytesOf (l : List Int) : ByteArray := l.foldl (fun r n => r.push (UInt8.ofNat n.toNat)) ByteArray.empty
end Go.Vx
