/- Loops that name what turns alone: all else is carried. Conditions: as Run.loop. -/
import Derived.Test.YtofnjbcbkfbomaaDoorV8
import Derived.OrdersIn
namespace Go.Vx
open Go Go.RowKit

/-- What is said of these slots. -/
def pickL : List Nat → List (Nat × Spec) → List (Nat × Spec)
  | [], _ => []
  | t :: ts, L => match look L t with
    | some S => (t, S) :: pickL ts L
    | none => pickL ts L
/-- What is owned, with these entries anew. -/
def setMs : Owns → Owns → Owns
  | M, [] => M
  | M, (k, e) :: l => setMs (setM M k e) l

theorem look_pickL : ∀ (ts : List Nat) (L : List (Nat × Spec)) (t : Nat) (S : Spec), look (pickL ts L) t = some S → look L t = some S
  | [], _, _, _, h => by cases h
  | t0 :: ts, L, t, S, h => by
    unfold pickL at h
    cases h0 : look L t0 with
    | none => rw [h0] at h; exact look_pickL ts L t S h
    | some S0 =>
      rw [h0] at h
      simp only at h
      rw [look_cons] at h
      by_cases e : t0 = t
      · rw [if_pos e] at h; cases h; rw [← e]; exact h0
      · rw [if_neg e] at h; exact look_pickL ts L t S h

section
variable {n : Nat} {Γ : Ctx} {M : Owns} {L : List (Nat × Spec)} {P : Program} {c : Code} {Q : Exit → Act → World → Prop}
theorem Incl.pick (ts : List Nat) : Incl Γ M L (pickL ts L) := fun t S h => ⟨S, look_pickL ts L t S h, fun _ _ h => h⟩
theorem Run.loopK {ι : Type} (I : ι → Prop) (μ : ι → Nat) (fM : ι → Owns) (ts : List Nat) (fL : ι → List (Nat × Spec)) (i₀ : ι) (h₀ : I i₀) (hM : setMs M (fM i₀) = M) (hL : Incl Γ M L (fL i₀ ++ pickL ts L))
    (round : ∀ i, I i → Run n Γ (setMs M (fM i)) (fL i ++ pickL ts L) (c.wp P (Exit.then (LoopEnd n Γ I μ (fun i => setMs M (fM i)) (fun i => fL i ++ pickL ts L) i) Q))) :
    Run n Γ M L ((Code.loop c).wp P Q) := Run.loop I μ (fun i => setMs M (fM i)) (fun i => fL i ++ pickL ts L) i₀ h₀ hM hL round
end

section
variable {n : Nat} {Γ : Ctx} {M : Owns} {L : List (Nat × Spec)} {P : Program} {c : Code} {Q : Exit → Act → World → Prop}
theorem Run.cutK {X : Act → World → Prop} (ts : List Nat) (fL : List (Nat × Spec)) (h : Run n Γ M L (c.wp P (Exit.then (CutEnd n Γ (fun _ : Unit => True) (fun _ => M) (fun _ => fL ++ pickL ts L)) Q)))
    (k : Run n Γ M (fL ++ pickL ts L) X) : Run n Γ M L (c.wp P (Exit.then X Q)) := Run.cut (fun _ : Unit => True) (fun _ => M) (fun _ => fL ++ pickL ts L) h fun _ _ => k
theorem Run.meetK {M' : Owns} {fL : List (Nat × Spec)} (hM : M' = M) (hL : Incl Γ M L fL) : Run n Γ M L (CutEnd n Γ (fun _ : Unit => True) (fun _ => M') (fun _ => fL)) := Run.meet () trivial hM hL
end

/-! drawn regions in a round, rounds of two variables -/
section
variable {n : Nat} {Γ : Ctx} {M : Owns} {L : List (Nat × Spec)} {Q : Exit → Act → World → Prop} {ro : Option Nat} {β : Type}
theorem wpAnyIn_of {P : Program} {l : List Oper} (hQ : ∀ a w, ¬ Q .outgrown a w) (hd : noDef l = true) : ∀ (fuel : Nat) (listed : Array Bool) (a : Act) (w : World), wpAny P .any l.toArray Q fuel listed a w → wpAnyIn (wideR ro) 0 P .any l.toArray Q fuel listed a w := by
  intro fuel
  induction fuel with
  | zero => intro listed a w h; exact h
  | succ fuel ih =>
    intro listed a w h
    refine ⟨h.1, fun i hi => ?_⟩
    have := h.2 i hi
    unfold wpOp at this
    unfold wpOpIn
    cases ho : l.toArray[i]? with
    | none => rw [ho] at this; exact ih _ _ _ this
    | some o =>
      rw [ho] at this
      simp only at this ⊢
      have hm : o ∈ l := List.mem_of_getElem? (i := i) (by simpa using ho)
      split
      · rename_i hw
        rw [if_pos hw] at this
        rcases this with this | ⟨_, a', w', this⟩
        · exact wpIn_of_wp (fun a w h => ih _ _ _ h) (noDef_of hd hm) this
        · exact (hQ _ _ this).elim
      · rename_i hw
        rw [if_neg hw] at this
        exact ⟨fun _ _ => trivial, ih _ _ _ this⟩
theorem Run.drawPR {l : List Oper} {id : Nat} {P : Program} (fM : Owns → List β → Owns) (chs : List (ChOp β)) (hQ : ∀ a w, ¬ Q .outgrown a w) (hd : noDef l = true) (h0 : fM M [] = M) (hP : P = Γ.E.P) (h : DrawP n Γ (fM M) chs L l Q id 0 []) : Run n Γ M L ((Code.region id l.toArray true).wpIn (wideR ro) 0 P Q) := by
  subst hP
  have := h (fun p hp => by cases hp) rfl
  rw [h0] at this
  exact fun a w hs => wpIn_region_any Γ.E.mixed (wpAnyIn_of hQ hd _ _ _ _ (this a w hs))

theorem RndX.of2 {E : Env} {l : Nat} {Sx Sy : Spec} {Nb : List Ent} {S : β → Spec} {No : β → List Ent} {fn : FuncId} {tmps : Array Value} {p q D : Nat} {assign body : Code} (kl : Nat) (ks : List Nat) (hl : ks.length = Nb.length) (Lf : List (Nat × Spec))
    (hsz : tmps.size = n) (hf : ∀ t S, look Lf t = some S → ∃ v, tmps[t]? = some v ∧ ∀ F w, S.holds F w v) (hp : Nat.ble (p + 1) n = true) (hq : Nat.ble (q + 1) n = true) (hpq : Nat.beq p q = false)
    (h : ∀ (w0 : World) (F0 : Foot), Run n ⟨E, w0, blocks (.obj l (.loop ⟨.ready, none, fn, tmps, #[p, q], assign, body, D⟩) :: Nb), F0, []⟩ ((kl, .obj l (.loop ⟨.ready, none, fn, tmps, #[p, q], assign, body, D⟩)) :: ks.zip Nb) ((p, Sx) :: (q, Sy) :: Lf)
      (assign.wpIn (wideR (some l)) 0 E.P (Exit.then (fun a1 w1 => ∃ w2, (Instr.beginRound l).run E.P w1 = .ok () w2 ∧ body.wpIn (wideR (some l)) 0 E.P (roundPost E.P l (Ctx.postX ⟨E, w0, blocks (.obj l (.loop ⟨.ready, none, fn, tmps, #[p, q], assign, body, D⟩) :: Nb), F0, []⟩ S No)) a1 w2) (fun _ _ _ => False)))) :
    RndX E l [Sx, Sy] (.obj l (.loop ⟨.ready, none, fn, tmps, #[p, q], assign, body, D⟩) :: Nb) S No := by
  intro F w args hG hgn hF hh hargs
  obtain ⟨u, u2, rfl, hu, hu2⟩ : ∃ u u2, args = [u, u2] ∧ Sx.holds (FE F (.obj l (.loop ⟨.ready, none, fn, tmps, #[p, q], assign, body, D⟩) :: Nb)) w u ∧ Sy.holds (FE F (.obj l (.loop ⟨.ready, none, fn, tmps, #[p, q], assign, body, D⟩) :: Nb)) w u2 := by
    match args, hargs with
    | [u, u2], ⟨h1, h2, _⟩ => exact ⟨u, u2, rfl, h1, h2⟩
  have hrec : w.heap[l]? = some (.loop ⟨.ready, none, fn, tmps, #[p, q], assign, body, D⟩) := (hh.1 _ List.mem_cons_self).1
  refine ⟨fn, _, assign, body, run_yield hrec rfl, ?_⟩
  refine roundIn_of_wpIn (F := Fence.wide) trivial ?_
  refine h w F _ _ ?_
  have hmap : ((kl, Ent.obj l (.loop ⟨.ready, none, fn, tmps, #[p, q], assign, body, D⟩)) :: ks.zip Nb).map (·.2) = .obj l (.loop ⟨.ready, none, fn, tmps, #[p, q], assign, body, D⟩) :: Nb := by
    rw [List.map_cons, List.map_snd_zip (by omega)]
  have hFM : FM F ((kl, Ent.obj l (.loop ⟨.ready, none, fn, tmps, #[p, q], assign, body, D⟩)) :: ks.zip Nb) = FE F (.obj l (.loop ⟨.ready, none, fn, tmps, #[p, q], assign, body, D⟩) :: Nb) := by rw [FM_FE, hmap]
  refine { good := ⟨hgn, fun k hk => ?_, fun k hk => hF k (hk.imp id .inl), fun k hk => hF k (.inr (.inr hk))⟩, size := ?_, defs := rfl, glob := hG, kept := Kept.refl _ _, own := fun e he => ?_, dis := ?_, slots := ?_ }
  · obtain ⟨e, he, hek⟩ := mem_blocks.1 hk
    exact ((hh.1 e he).2 k hek).2
  · simp [hsz]
  · have hm : e.2 ∈ Ent.obj l (.loop ⟨.ready, none, fn, tmps, #[p, q], assign, body, D⟩) :: Nb := by rw [← hmap]; exact List.mem_map_of_mem he
    show e.2.ok (FM F _) w ∧ _
    rw [hFM]
    exact ⟨(hh.1 _ hm).1, fun k hk => ⟨((hh.1 _ hm).2 k hk).1, .inr (mem_blocks.2 ⟨_, hm, hk⟩)⟩⟩
  · have := hh.2
    rw [← hmap, Apart, List.pairwise_map] at this
    exact this
  · intro t T hT
    have hpn := Nat.le_of_ble_eq_true hp
    have hqn := Nat.le_of_ble_eq_true hq
    have hne := Nat.ne_of_beq_eq_false hpq
    rw [look_cons] at hT
    by_cases e : p = t
    · rw [if_pos e] at hT
      cases hT
      subst e
      refine ⟨u, ?_, ?_⟩
      · have hne' : ¬ q = p := fun h => hne h.symm
        simp [hne', show p < tmps.size by omega]
      · show Sx.holds (FM F _) w u
        rw [hFM]; exact hu
    · rw [if_neg e, look_cons] at hT
      by_cases e2 : q = t
      · rw [if_pos e2] at hT
        cases hT
        subst e2
        refine ⟨u2, ?_, ?_⟩
        · simp [show q < tmps.size by omega]
        · show Sy.holds (FM F _) w u2
          rw [hFM]; exact hu2
      · rw [if_neg e2] at hT
        obtain ⟨v, h1, h2⟩ := hf t T hT
        exact ⟨v, by simp [e, e2, h1], h2 _ _⟩
end
end Go.Vx
