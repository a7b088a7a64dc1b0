/- Ranges over functions, for the assertions of Va: a round's contract, the iterator's call of yield, the statement, a function's end behind it. Conditions: each rule states what it asks. -/
import Derived.Test.YtofnjbcbkfbomaaDoorV3
import Derived.RangeFuncIn
import Derived.RangeFuncSeq
import Derived.RangeFuncRecord
import Derived.RangeFuncLeaves
import Derived.TacticsIn
namespace Go.Vx
open Go Go.RowKit

/-- No operation of these is a 'defer'. -/
def noDef (l : List Oper) : Bool := l.all fun o => match o.op with
  | .defer _ => false
  | _ => true
theorem noDef_of {l : List Oper} (h : noDef l = true) {o : Oper} (ho : o ∈ l) (c : Call) : o.op ≠ .defer c := fun e => by
  have := List.all_eq_true.1 h o ho
  rw [e] at this
  cases this

/-- The wide fence, in a round or not. -/
abbrev wideR (ro : Option Nat) : Fence := { Fence.wide with round := ro }

theorem wpIn_of_wp {P : Program} {o : Oper} {ro : Option Nat} {m : Nat} {a : Act} {w : World} {K K' : Act → World → Prop} {Q : Exit → Act → World → Prop} (hK : ∀ a w, K a w → K' a w) (hd : ∀ c, o.op ≠ .defer c) (h : o.wp P a w K Q) : o.wpIn (wideR ro) m P a w K' Q := by
  refine ⟨fun _ _ => trivial, ?_⟩
  rw [Oper.semAt_eq _ _ _ hd]
  unfold Oper.wp at h
  revert h
  generalize (execOp a.eval o).run P w = r
  intro h
  unfold Oper.upon at h
  split at h
  · exact hK _ _ h
  · exact hK _ _ h
  · exact hK _ _ h
  · refine ⟨fun hh => by simp [Fence.wide] at hh, ?_⟩
    refine (show CallsIn Fence.wide (m - 1) P _ _ _ _ from callsIn_wide.2 (Calls.mono h fun e w' he => ?_))
    cases e with
    | returned v => exact hK _ _ he
    | panicked ch => exact he
    | outgrown => exact he
  · refine ⟨fun hh => by simp [Fence.wide] at hh, fun c cs _ => ?_⟩
    obtain ⟨v, w', hv, hs⟩ := h c cs
    exact ⟨v, w', hK _ _ hv, stepsIn_wide.2 hs⟩
  · exact h
  · exact h.elim

section
variable {n : Nat} {Γ : Ctx} {M : Owns} {L : List (Nat × Spec)} {dst : Option Nat} {ty : TypeId} {pos : String} {after : Array Edge} {guard : Option (Nat × Bool)}
variable {t : TypeId} {d : TypeDesc} {x y : Operand} {ops : Array Oper} {Q : Exit → Act → World → Prop} {rest : List Oper} {o : Oper} {ro : Option Nat}

theorem Run.listW {l : List Oper} (hQ : ∀ a w, ¬ Q .outgrown a w) (hd : noDef l = true) (h : Run n Γ M L (wpList Γ.E.P ops Q l)) : Run n Γ M L (wpListIn (wideR ro) 0 Γ.E.P ops Q l) := fun a w hs => by
  have key : ∀ (l : List Oper), (∀ o ∈ l, ∀ c, o.op ≠ .defer c) → ∀ a w, wpList Γ.E.P ops Q l a w → wpListIn (wideR ro) 0 Γ.E.P ops Q l a w := by
    intro l
    induction l with
    | nil => intro _ a w h; exact h
    | cons o l ih =>
      intro hd a w h
      unfold wpList at h
      unfold wpListIn
      split
      · rename_i hw
        rw [if_pos hw] at h
        rcases h with h | ⟨_, a', w', h⟩
        · exact wpIn_of_wp (ih fun o ho => hd o (by simp [ho])) (hd o (by simp)) h
        · exact (hQ _ _ h).elim
      · rename_i hw
        rw [if_neg hw] at h
        exact ⟨fun _ _ => trivial, ih (fun o ho => hd o (by simp [ho])) _ _ h⟩
  exact key l (fun o ho => noDef_of hd ho) a w (h a w hs)

theorem Run.regionW {P : Program} {id : Nat} {l : List Oper} (h : Run n Γ M L (wpListIn Fence.wide 0 P l.toArray Q l)) : Run n Γ M L ((Code.region id l.toArray false).wp P Q) := fun a w hs => (wpIn_wide (n := 0)).1 (wpIn_region_lit (h a w hs))
theorem Run.regionR {P : Program} {id : Nat} {l : List Oper} (h : Run n Γ M L (wpListIn (wideR ro) 0 P l.toArray Q l)) : Run n Γ M L ((Code.region id l.toArray false).wpIn (wideR ro) 0 P Q) := fun a w hs => wpIn_region_lit (h a w hs)
theorem Run.blockR {P : Program} {id : Nat} {c : Code} (h : Run n Γ M L (c.wpIn (wideR ro) 0 P (Exit.inBlock id Q))) : Run n Γ M L ((Code.block id c).wpIn (wideR ro) 0 P Q) := fun a w hs => wpIn_block (h a w hs)
theorem Run.seqR {P : Program} {c1 c2 : Code} (h : Run n Γ M L (c1.wpIn (wideR ro) 0 P (Exit.then (c2.wpIn (wideR ro) 0 P Q) Q))) : Run n Γ M L ((Code.seq c1 c2).wpIn (wideR ro) 0 P Q) := fun a w hs => wpIn_seq (h a w hs)

theorem Run.opW {dn : Nat} {S : Spec} (hg : o.guard = none) (hd : o.dst = some dn) (hn : Nat.ble (dn + 1) n = true) (hdf : noDef [o] = true) (hy : Yields n Γ M L o S) (h : Run n Γ M ((dn, S) :: L) (wpListIn (wideR ro) 0 Γ.E.P ops Q rest)) :
    Run n Γ M L (wpListIn (wideR ro) 0 Γ.E.P ops Q (o :: rest)) := fun a w hs => by
  unfold wpListIn
  rw [if_pos (guard_wanted hg)]
  exact wpIn_of_wp (fun _ _ h => h) (noDef_of hdf (by simp)) (hy a w hs _ _ fun v w' g hv => by
    rw [hd]
    exact h _ _ ((hs.grow g).put (Nat.le_of_ble_eq_true hn) hv))

/-- A round's contract. -/
def RndX (E : Env) (l : Nat) (As : List Spec) (Ni : List Ent) {β : Type} (S : β → Spec) (No : β → List Ent) : Prop :=
  ∀ (F : Foot) (w : World) (args : List Value), E.G w → E.gn ≤ w.heap.size → (∀ k, k < E.gn ∨ w.heap.size ≤ k ∨ k ∈ blocks Ni → F k) → Have F (fun k => E.gn ≤ k) Ni w → Holds (FE F Ni) w As args →
    YieldAt Fence.wide 0 E.P l args.toArray w fun e w' => ∃ v b, e = .returned v ∧ Kept (blocks Ni) w w' ∧ (S b).holds (FE F (No b)) w' v ∧ Have F (fun k => k ∈ blocks Ni ∨ w.heap.size ≤ k) (No b) w'

/-- The iterator calls yield. -/
theorem Run.yieldX {l : Nat} {As : List Spec} {ats : Array TypeId} {c : Nat} {xs : List Operand} {Ni : List Ent} {R : Owns} {β : Type} {S : β → Spec} {No : β → List Ent} {dn : Nat} (ks ks' : List Nat) (hc : opv L (.tmp c) = some (sval (.func (.yield l) #[] #[]))) (hargs : opvs L xs = some As) (C : RndX Γ.E l As Ni S No)
    (ht : takes M ks = some (Ni, R)) (hlen : ∀ b, ks'.length = (No b).length) (hn : Nat.ble (dn + 1) n = true)
    (h : ∀ b, Run n Γ (ks'.zip (No b) ++ R) ((dn, S b) :: L) (wpListIn Fence.wide 0 Γ.E.P ops Q rest)) :
    Run n Γ M L (wpListIn Fence.wide 0 Γ.E.P ops Q (⟨some dn, .call { callee := .value (.tmp c), args := xs.toArray, argTypes := ats }, ty, pos, after, none⟩ :: rest)) := fun a w hs => by
  unfold wpListIn
  rw [if_pos (guard_wanted rfl)]
  refine ⟨fun _ _ => trivial, ?_⟩
  have hv : a.eval (.tmp c) = .func (.yield l) #[] #[] := hs.opv hc
  obtain ⟨h1, h2, h3, h4, h5⟩ := hs.have_ ht
  have hfr := hs.lends ht
  obtain ⟨fn, tmps, assign, body, hy, hR⟩ := C (FM Γ.F0 R) w (xs.map a.eval) hs.glob hs.gnle hfr (h1.weaken fun k hk => by
    rcases hk with hk | hk
    · exact Nat.le_trans hs.good.gn hk
    · exact hs.good.gC k hk) (by rw [h2]; exact Args.slots hs (opvs_mapM hargs))
  have hrun : (execOp a.eval ⟨some dn, .call { callee := .value (.tmp c), args := xs.toArray, argTypes := ats }, ty, pos, after, none⟩).run Γ.E.P w = .ok (.round l fn tmps assign body) w := by
    have e0 : (execOp a.eval ⟨some dn, .call { callee := .value (.tmp c), args := xs.toArray, argTypes := ats }, ty, pos, after, none⟩).run Γ.E.P w = (Instr.yield l (xs.map a.eval).toArray).run Γ.E.P w := by
      simp [execOp, resolve, hv, Deferred.ofValue, invoke]
    rw [e0, hy]
  have hro : Fence.wide.round = none := rfl
  rw [hro, Oper.semAt_none, hrun, Oper.uponIn_round]
  refine ⟨fun hh => by simp [Fence.wide] at hh, hR.mono fun e w' he => ?_⟩
  obtain ⟨v, b, rfl, hk, hS, hh⟩ := he
  obtain ⟨hs', hFM⟩ := hs.behind ht hk hh (hlen b)
  exact h b _ _ (hs'.put (Nat.le_of_ble_eq_true hn) (by rw [hFM]; exact hS))

/-! the round itself -/
/-- What a round's walk begins with. -/
theorem RndX.of {E : Env} {l : Nat} {Sx : Spec} {Nb : List Ent} {β : Type} {S : β → Spec} {No : β → List Ent} {fn : FuncId} {tmps : Array Value} {p D : Nat} {assign body : Code} (kl : Nat) (ks : List Nat) (hl : ks.length = Nb.length) (Lf : List (Nat × Spec))
    (hsz : tmps.size = n) (hf : ∀ t S, look Lf t = some S → ∃ v, tmps[t]? = some v ∧ ∀ F w, S.holds F w v) (hp : Nat.ble (p + 1) n = true)
    (h : ∀ (w0 : World) (F0 : Foot), Run n ⟨E, w0, blocks (.obj l (.loop ⟨.ready, none, fn, tmps, #[p], assign, body, D⟩) :: Nb), F0, []⟩ ((kl, .obj l (.loop ⟨.ready, none, fn, tmps, #[p], assign, body, D⟩)) :: ks.zip Nb) ((p, Sx) :: Lf)
      (assign.wpIn (wideR (some l)) 0 E.P (Exit.then (fun a1 w1 => ∃ w2, (Instr.beginRound l).run E.P w1 = .ok () w2 ∧ body.wpIn (wideR (some l)) 0 E.P (roundPost E.P l (Ctx.postX ⟨E, w0, blocks (.obj l (.loop ⟨.ready, none, fn, tmps, #[p], assign, body, D⟩) :: Nb), F0, []⟩ S No)) a1 w2) (fun _ _ _ => False)))) :
    RndX E l [Sx] (.obj l (.loop ⟨.ready, none, fn, tmps, #[p], assign, body, D⟩) :: Nb) S No := by
  intro F w args hG hgn hF hh hargs
  obtain ⟨u, rfl, hu⟩ : ∃ u, args = [u] ∧ Sx.holds (FE F (.obj l (.loop ⟨.ready, none, fn, tmps, #[p], assign, body, D⟩) :: Nb)) w u := by
    match args, hargs with
    | [u], ⟨h1, _⟩ => exact ⟨u, rfl, h1⟩
  have hrec : w.heap[l]? = some (.loop ⟨.ready, none, fn, tmps, #[p], assign, body, D⟩) := (hh.1 _ List.mem_cons_self).1
  refine ⟨fn, _, assign, body, run_yield hrec rfl, ?_⟩
  refine roundIn_of_wpIn (F := Fence.wide) trivial ?_
  refine h w F _ _ ?_
  have hmap : ((kl, Ent.obj l (.loop ⟨.ready, none, fn, tmps, #[p], assign, body, D⟩)) :: ks.zip Nb).map (·.2) = .obj l (.loop ⟨.ready, none, fn, tmps, #[p], assign, body, D⟩) :: Nb := by
    rw [List.map_cons, List.map_snd_zip (by omega)]
  have hFM : FM F ((kl, Ent.obj l (.loop ⟨.ready, none, fn, tmps, #[p], assign, body, D⟩)) :: ks.zip Nb) = FE F (.obj l (.loop ⟨.ready, none, fn, tmps, #[p], assign, body, D⟩) :: Nb) := by rw [FM_FE, hmap]
  refine { good := ⟨hgn, fun k hk => ?_, fun k hk => hF k (hk.imp id .inl), fun k hk => hF k (.inr (.inr hk))⟩, size := ?_, defs := rfl, glob := hG, kept := Kept.refl _ _, own := fun e he => ?_, dis := ?_, slots := ?_ }
  · obtain ⟨e, he, hek⟩ := mem_blocks.1 hk
    exact ((hh.1 e he).2 k hek).2
  · simp [hsz]
  · have hm : e.2 ∈ Ent.obj l (.loop ⟨.ready, none, fn, tmps, #[p], assign, body, D⟩) :: Nb := by rw [← hmap]; exact List.mem_map_of_mem he
    show e.2.ok (FM F _) w ∧ _
    rw [hFM]
    exact ⟨(hh.1 _ hm).1, fun k hk => ⟨((hh.1 _ hm).2 k hk).1, .inr (mem_blocks.2 ⟨_, hm, hk⟩)⟩⟩
  · have := hh.2
    rw [← hmap, Apart, List.pairwise_map] at this
    exact this
  · intro t T hT
    rw [look_cons] at hT
    have hpn := Nat.le_of_ble_eq_true hp
    by_cases e : p = t
    · rw [if_pos e] at hT
      cases hT
      subst e
      refine ⟨u, ?_, ?_⟩
      · simp [show p < tmps.size by omega]
      · show Sx.holds (FM F _) w u
        rw [hFM]; exact hu
    · rw [if_neg e] at hT
      obtain ⟨v, h1, h2⟩ := hf t T hT
      exact ⟨v, by simp [Array.getElem?_setIfInBounds_ne e, h1], h2 _ _⟩

theorem St.putObj {a : Act} {w : World} {key l : Nat} {o o' : Obj} (hs : St n Γ M L a w) (hm : lookM M key = some (.obj l o)) : St n Γ (setM M key (.obj l o')) L a (w.putObj l o') := by
  have hok : w.heap[l]? = some o := hs.own_ok hm
  have hlt : l < w.heap.size := (Array.getElem?_eq_some_iff.1 hok).1
  exact hs.set hm (b := l) rfl rfl rfl rfl rfl (by simp) (fun k hk => World.putObj_heap_other hk) (World.putObj_heap_same hlt)

/-- The body is entered. -/
theorem Run.begin_ {l : Nat} {r : Loop} {body : Code} (key : Nat) (hm : lookM M key = some (.obj l (.loop r))) (hr : r.state = .ready) (h : Run n Γ (setM M key (.obj l (.loop { r with state := .busy }))) L (body.wpIn (wideR ro) 0 Γ.E.P Q)) :
    Run n Γ M L (fun a1 w1 => ∃ w2, (Instr.beginRound l).run Γ.E.P w1 = .ok () w2 ∧ body.wpIn (wideR ro) 0 Γ.E.P Q a1 w2) := fun _ _ hs =>
  ⟨_, run_beginRound (hs.own_ok hm) hr, h _ _ (hs.putObj hm)⟩

/-- The round's end: it goes on. -/
theorem Run.endRound {l : Nat} {r : Loop} {β : Type} {S : β → Spec} {No : β → List Ent} {R : Owns} (b : β) (key : Nat) (ks : List Nat) (hm : lookM M key = some (.obj l (.loop r))) (ht : takes (setM M key (.obj l (.loop { r with state := .ready, pending := none }))) ks = some (No b, R)) (hS : ∀ F w, (S b).holds F w (.bool true)) :
    Run n Γ M L (roundPost Γ.E.P l (Γ.postX S No) .normal) := fun a w hs => by
  refine ⟨.bool true, _, run_endRound none (hs.own_ok hm), ?_⟩
  have hs' := hs.putObj (o' := .loop { r with state := .ready, pending := none }) hm
  obtain ⟨h3, h4⟩ := hs'.haveNo ht
  exact ⟨_, b, rfl, hs'.kept, hS _ _, h3⟩

/-! the statement -/
theorem St.marked {a : Act} {w : World} {ds : List Deferred} (hs : St n Γ M L a w) : St n { Γ with ds := ds } M L { a with defers := ds } w :=
  { good := ⟨hs.good.gn, hs.good.gC, hs.good.fresh, hs.good.cF⟩, size := hs.size, defs := rfl, glob := hs.glob, kept := hs.kept, own := hs.own, dis := hs.dis, slots := hs.slots }

theorem Run.rangeX {P : Program} {gf : FuncId} {Cs : List Spec} {g : Operand} {ps : Array Tmp} {assign body : Code} {Ni : List Ent} {R : Owns} {β : Type} {S : β → Spec} {No : β → List Ent} (kd : Nat) (ks ks' : List Nat) (Lf : List (Nat × Spec)) (hP : P = Γ.E.P) (hds : Γ.ds = [])
    (hf : Enters Γ.E.P gf) (hg : opv L g = some (sfun gf Cs)) (hLf : ∀ t T, look Lf t = some T → Free T ∧ look L t = some T) (ht : takes M ks = some (Ni, R)) (hlen : ∀ b, ks'.length = (No b).length)
    (C : ∀ (fn : FuncId) (tmps : Array Value) (l D : Nat), tmps.size = n → (∀ t S, look Lf t = some S → ∃ v, tmps[t]? = some v ∧ ∀ F w, S.holds F w v) →
      FnX Γ.E gf (sval (.func (.yield l) #[] #[]) :: Cs) (.obj l (.loop ⟨.ready, none, fn, tmps, ps, assign, body, D⟩) :: .obj D (.deferred (some [])) :: Ni) S (fun b => .obj l (.loop ⟨.ready, none, fn, tmps, ps, assign, body, D⟩) :: .obj D (.deferred (some [])) :: No b))
    (h : ∀ D b, Run n { Γ with ds := [⟨.collected D, #[]⟩] } ((kd, .obj D (.deferred (some []))) :: (ks'.zip (No b) ++ R)) L (Q .normal)) : Run n Γ M L ((Code.rangeFunc g ps assign body).wp P Q) := fun a w hs => by
  subst hP
  refine (wpIn_wide (n := 0)).1 (wpIn_rangeFunc fun fn _ => ?_)
  obtain ⟨us, hv, hcs⟩ := hs.opv hg
  have hff : ∀ t S, look Lf t = some S → ∃ v, a.tmps[t]? = some v ∧ ∀ F w, S.holds F w v := fun t T hT => by
    obtain ⟨h1, h2⟩ := hLf t T hT
    obtain ⟨v, h3, h4⟩ := hs.slots t T h2
    exact ⟨v, h3, fun F w' => h1 _ _ _ _ _ h4⟩
  -- the two blocks
  have s1 : St n Γ ((kd, .obj w.heap.size (.deferred (some []))) :: M) L a (w.alloc (.deferred (some []))) :=
    hs.fresh_own ((Below.refl _ w).alloc (Nat.le_refl _) _) (fun k hk => by simp [Ent.block] at hk; subst hk; simp) (fun F _ => World.alloc_heap_new w _)
  have s2 : St n Γ ((0, .obj (w.heap.size + 1) (.loop ⟨.ready, none, fn, a.tmps, ps, assign, body, w.heap.size⟩)) :: (kd, .obj w.heap.size (.deferred (some []))) :: M) L a ((w.alloc (.deferred (some []))).alloc (.loop ⟨.ready, none, fn, a.tmps, ps, assign, body, w.heap.size⟩)) :=
    s1.fresh_own ((Below.refl _ _).alloc (Nat.le_refl _) _) (fun k hk => by simp [Ent.block] at hk; subst hk; simp) (fun F _ => by
      have := World.alloc_heap_new (w.alloc (.deferred (some []))) (.loop ⟨.ready, none, fn, a.tmps, ps, assign, body, w.heap.size⟩)
      rw [World.size_alloc] at this
      exact this)
  obtain ⟨Z, hz, hp⟩ := takes_perm ht
  have s3 := s2.perm (M' := ((0, .obj (w.heap.size + 1) (.loop ⟨.ready, none, fn, a.tmps, ps, assign, body, w.heap.size⟩)) :: (kd, .obj w.heap.size (.deferred (some []))) :: Z) ++ R) ((hp.cons _).cons _)
  have tk : ∀ (Z R : Owns), ∃ ks, takes ((List.range Z.length).zip (Z.map (·.2)) ++ R) ks = some (Z.map (·.2), R) := fun Z R => by
    have key : ∀ (l : List Ent) (i : Nat) (R : Owns), takes ((List.range' i l.length).zip l ++ R) (List.range' i l.length) = some (l, R) := by
      intro l
      induction l with
      | nil => intro i R; rfl
      | cons e l ih =>
        intro i R
        simp only [List.length_cons, List.range'_succ, List.zip_cons_cons, List.cons_append]
        unfold takes
        simp [lookM, delM, ih]
    exact ⟨_, by have := key (Z.map (·.2)) 0 R; rw [List.length_map, ← List.range_eq_range'] at this; exact this⟩
  let Z3 : Owns := (0, .obj (w.heap.size + 1) (.loop ⟨.ready, none, fn, a.tmps, ps, assign, body, w.heap.size⟩)) :: (kd, .obj w.heap.size (.deferred (some []))) :: Z
  obtain ⟨k3, hk3⟩ := tk Z3 R
  have s4 : St n Γ ((List.range Z3.length).zip (Z3.map (·.2)) ++ R) L a ((w.alloc (.deferred (some []))).alloc (.loop ⟨.ready, none, fn, a.tmps, ps, assign, body, w.heap.size⟩)) := by
    have hmap : ((List.range Z3.length).zip (Z3.map (·.2))).map (·.2) = Z3.map (·.2) := List.map_snd_zip (by simp)
    have hFM : FM Γ.F0 ((List.range Z3.length).zip (Z3.map (·.2)) ++ R) = FM Γ.F0 (Z3 ++ R) := by rw [FM_FE, FM_FE, List.map_append, List.map_append, hmap]
    refine s3.turn (fun _ _ => rfl) s3.kept (fun k hk _ => ⟨by rw [hFM]; exact hk, rfl⟩) (fun e he => ?_) ?_
    · rw [hFM]
      have : e.2 ∈ (Z3 ++ R).map (·.2) := by
        rw [List.map_append, ← hmap, ← List.map_append]; exact List.mem_map_of_mem he
      obtain ⟨x, hx, hxe⟩ := List.mem_map.1 this
      rw [← hxe]
      exact s3.own x hx
    · have := s3.dis
      have h0 : ((Z3 ++ R).map (·.2)).Pairwise fun x y => ∀ k, x.block = some k → y.block ≠ some k := by rw [List.pairwise_map]; exact this
      rw [List.map_append, ← hmap, ← List.map_append, List.pairwise_map] at h0
      exact h0
  have hZ3 : Z3.map (·.2) = .obj (w.heap.size + 1) (.loop ⟨.ready, none, fn, a.tmps, ps, assign, body, w.heap.size⟩) :: .obj w.heap.size (.deferred (some [])) :: Ni := by simp [Z3, hz]
  rw [hZ3] at hk3
  have s4' := s4
  obtain ⟨h1, h2, h3, h4, h5⟩ := s4.have_ (by rw [hZ3]; exact hk3)
  have hfr := s4.lends (by rw [hZ3]; exact hk3)
  have hcs' : Holds (FM Γ.F0 ((List.range Z3.length).zip (Z3.map (·.2)) ++ R)) ((w.alloc (.deferred (some []))).alloc (.loop ⟨.ready, none, fn, a.tmps, ps, assign, body, w.heap.size⟩)) Cs us := by
    obtain ⟨us', hv', hcs'⟩ := s4.opv hg
    rw [hv] at hv'
    have e : us = us' := by simpa using hv'
    subst e
    exact hcs'
  refine ⟨w.heap.size + 1, [{ target := .collected w.heap.size, args := #[] }], (w.alloc (.deferred (some []))).alloc (.loop ⟨.ready, none, fn, a.tmps, ps, assign, body, w.heap.size⟩), { target := .fn (.func gf) us.toArray, args := #[.func (.yield (w.heap.size + 1)) #[] #[]] },
    (w.alloc (.deferred (some []))).alloc (.loop ⟨.ready, none, fn, a.tmps, ps, assign, body, w.heap.size⟩), gf, (.func (.yield (w.heap.size + 1)) #[] #[] :: us).toArray, (w.alloc (.deferred (some []))).alloc (.loop ⟨.ready, none, fn, a.tmps, ps, assign, body, w.heap.size⟩), ?_, ?_, ?_, ?_, fun hh => by simp [Fence.wide] at hh, ?_⟩
  · exact run_enterLoop_outer _ _ _ _ _
  · simp only [resolve, hv]
    simp [Deferred.ofValue, Act.eval]
  · intro _ _; trivial
  · simp [invoke, hf.run _ _]
  · refine callsIn_wide.2 (Calls.mono (C fn a.tmps (w.heap.size + 1) w.heap.size hs.size hff (FM Γ.F0 R) _ (.func (.yield (w.heap.size + 1)) #[] #[] :: us) s4.glob s4.gnle hfr (h1.weaken fun k hk => ?_) ?_) fun e w3 he => ?_)
    · rcases hk with hk | hk
      · exact Nat.le_trans hs.good.gn hk
      · exact hs.good.gC k hk
    · rw [h2]; exact ⟨rfl, hcs'⟩
    · obtain ⟨v, b, rfl, hk, hS, hh⟩ := he
      obtain ⟨s5, hFM⟩ := s4.behind (ks' := 0 :: kd :: ks') (by rw [hZ3]; exact hk3) hk hh (by simp [hlen b])
      have hend := run_endLoop (P := Γ.E.P) (r := ⟨.ready, none, fn, a.tmps, ps, assign, body, w.heap.size⟩) (s5.own_ok (key := 0) rfl) (by simp)
      refine ⟨_, _, hend, ?_⟩
      have s6 := (s5.putObj (key := 0) (l := w.heap.size + 1) (o' := .loop ⟨.exhausted, none, fn, a.tmps, ps, assign, body, w.heap.size⟩) rfl)
      have s7 := (s6.free (t := 0) rfl).1
      show Q .normal _ _
      have hd0 : a.defers = [] := hs.defs.trans hds
      have s8 := s7.marked (ds := [⟨.collected w.heap.size, #[]⟩])
      have := h w.heap.size b _ _ s8
      simpa [hd0] using this

/-! the end of a function in which such a loop stands -/
theorem FnM.of {E : Env} {f : FuncId} {fn : Func} {c : Code} {As : List Spec} {S : Spec} {n : Nat} (hf : E.P.funcs[f]? = some fn) (hb : fn.body = some c) (hn : fn.ntmps = n) (hA : Nat.ble As.length n = true)
    (h : ∀ (w0 : World) (F0 : Foot), Run n ⟨E, w0, [], F0, []⟩ [] (slots0 0 As) (c.wp E.P (bodyPostM Fence.wide 0 E.P fn (Ctx.post ⟨E, w0, [], F0, []⟩ S)))) : Fn E f As S := by
  intro F w args hG hgn hF hargs
  have hlen := hargs.length
  have hA := Nat.le_of_ble_eq_true hA
  refine callsIn_wide.1 (callsIn_of_wp_marks (n := 0) hf hb trivial ((wpIn_wide (n := 0)).2 (h w F _ _ ?_)) rfl)
  refine { good := ⟨hgn, fun k hk => by simp at hk, hF, fun k hk => by simp at hk⟩, size := ?_, defs := rfl, glob := hG, kept := Kept.refl _ _, own := fun e he => by simp at he, dis := List.Pairwise.nil, slots := ?_ }
  · simp [hn, hlen]; omega
  · intro t T hT
    obtain ⟨_, h2⟩ := look_slots0 As 0 t T hT
    obtain ⟨u, hu, hh⟩ := hargs.get h2
    simp only [Nat.sub_zero] at hu
    refine ⟨u, ?_, T.keep hh fun k hk _ => ⟨⟨hk, fun e he => by simp at he⟩, rfl⟩⟩
    rw [Array.getElem?_append_left (by simpa using (List.getElem?_eq_some_iff.1 hu).1)]
    simpa using hu
theorem Run.finM {fn : Func} {S S' : Spec} {D : Nat} {Γ0 : Ctx} (key : Nat) (hC : Γ.C = []) (hds : Γ.ds = [⟨.collected D, #[]⟩]) (h0 : Γ0 = { Γ with ds := [] }) (hm : lookM M key = some (.obj D (.deferred (some [])))) (ho : Outs n Γ (setM M key (.obj D (.deferred none))) L fn S') (hc : ∀ w v, S'.holds Γ.F0 w v → S.holds Γ.F0 w v) :
    Run n Γ M L (bodyPostM Fence.wide 0 Γ.E.P fn (Γ0.post S) .ret) := fun a w hs => by
  subst h0
  have hs' := hs.putObj (o' := .deferred none) hm
  obtain ⟨v, h1, h2⟩ := ho a _ hs'
  show LeavesInM _ _ _ _ _ _ a.defers _ _
  rw [hs.defs, hds]
  refine ⟨by simp, .inl ⟨D, _, rfl, run_takeDeferred (hs.own_ok hm), ?_⟩⟩
  exact ⟨v, h1, v, rfl, hs'.kept0 hC, hc _ _ (S'.keep h2 (FM_le rfl))⟩
theorem Run.norm {P : Program} {fn : Func} {R : Ending → World → Prop} (h : Run n Γ M L (bodyPost P fn R .ret)) : Run n Γ M L (bodyPost P fn R .normal) := h
end
end Go.Vx
