/- Walks: weights, constraints. Conditions: as each says. Printed by a program of our own (wip/tools/gen2.py). -/
import Derived.Test.YtofnjbcbkfbomaaDoorWg
namespace Go.Vx
open Go Go.RowKit Go.Proofs
set_option maxRecDepth 100000
variable (s : Seat)

/-- A weight: what is reckoned from behind. -/
def wrev (p d : Int) (vs : List Int) : Int := vs.foldr (fun v w => (w * d % p + v) % p) 0
def wgt (p : Int) (vs : List Int) (c d : Int) : Int := (wrev p d vs + c) % p
def wacc (p d : Int) (vs : List Int) (j : Nat) : Int := wrev p d (vs.drop (vs.length - j))
theorem wacc_succ {p d : Int} {vs : List Int} {j : Nat} (h : j < vs.length) : wacc p d vs (j + 1) = (wacc p d vs j * d % p + vs.getD (vs.length - 1 - j) 0) % p := by
  unfold wacc wrev
  have e : vs.length - (j + 1) < vs.length := by omega
  rw [List.drop_eq_getElem_cons e, List.foldr_cons, show vs.length - (j + 1) + 1 = vs.length - j by omega, List.getD_eq_getElem?_getD, List.getElem?_eq_getElem (by omega)]
  congr 2
  have e2 : vs.length - (j + 1) = vs.length - 1 - j := by omega
  simp only [e2]; rfl
theorem wacc_all (p d : Int) (vs : List Int) : wacc p d vs vs.length = wrev p d vs := by unfold wacc; rw [Nat.sub_self, List.drop_zero]
theorem wacc_zero (p d : Int) (vs : List Int) : wacc p d vs 0 = 0 := by unfold wacc; rw [Nat.sub_zero, List.drop_length]; rfl
theorem wrev_lt {p : Int} (hp : 0 < p) (d : Int) (vs : List Int) : 0 ≤ wrev p d vs ∧ wrev p d vs < p := by
  unfold wrev
  cases vs with
  | nil => exact ⟨by simp, hp⟩
  | cons v vs => exact em_lt hp _
abbrev bsw (l D b4 b7 b9 : Nat) (r : Loop) (f d W : Int) : List Ent := [.obj l (.loop r), .obj D (.deferred (some [])), .blk b4 3 [i64 f], .blk b7 33 [u64 d], .blk b9 33 [u64 W]]

theorem rev1_fx (f d : Int) (l D b4 b7 b9 : Nat) (r : Loop) (vs : List Int) (hl : vs.length ≤ 1048576) (HR : ∀ j, j < vs.length → RndX s.env l [i64 ((vs.length : Int) - 1 - j), u64 (vs.getD (vs.length - 1 - j) 0)] (bsw l D b4 b7 b9 r f d (wacc (fP f) d vs j)) (fun _ : Unit => sbool true) (fun _ => bsw l D b4 b7 b9 r f d (wacc (fP f) d vs (j + 1)))) : FnX s.env 171 [sval (.func (.yield l) #[] #[]), spts [slc Ku vs]] (bsw l D b4 b7 b9 r f d (wacc (fP f) d vs 0)) (fun _ : Unit => sany) (fun _ => bsw l D b4 b7 b9 r f d (wacc (fP f) d vs vs.length)) := by
  refine FnX.of [500, 501, 502, 503, 504] rfl Tryd.func171 rfl Tryd.ntmps171 rfl ?_
  intro w0 F0
  refine Run.seq ?_
  refine Run.region ?_
  refine Run.op rfl rfl rfl (y_load rfl Tryd.underlying29 rfl) ?_
  refine Run.op rfl rfl rfl (y_lenS rfl Tryd.underlying29) ?_
  refine Run.op rfl rfl rfl (y_sub rfl rfl (by first | exact wI_in (by omega) | rfl)) ?_
  refine Run.op rfl rfl rfl (y_assign rfl) ?_
  refine Run.nil ?_
  refine Run.nT ?_
  refine Run.block ?_
  refine Run.loopK (ι := Nat) (fun j => j ≤ vs.length) (fun j => vs.length - j) (fun j => [(504, .blk b9 33 [u64 (wacc (fP f) d vs j)])]) [0, 1] (fun j => [(3, i64 ((vs.length : Int) - 1 - j))]) 0 (by omega) rfl (Incl.int (t := 3) rfl (by omega) (Incl.pick [0, 1])) ?_
  rintro j hj
  refine Run.seq ?_
  refine Run.seq ?_
  refine Run.region ?_
  refine Run.op rfl rfl rfl (y_move rfl) ?_
  refine Run.op rfl rfl rfl (y_geq rfl rfl) ?_
  refine Run.nil ?_
  refine Run.nT ?_
  refine Run.cond rfl (fun hb => ?_) (fun hb => ?_)
  · have hjl : j < vs.length := by have : (vs.length : Int) - 1 - j ≥ 0 := of_decide_eq_true hb; omega
    refine Run.skip ?_
    refine Run.nT ?_
    refine Run.seq ?_
    refine Run.block ?_
    refine Run.seq ?_
    refine Run.regionW ?_
    refine Run.opW rfl rfl rfl rfl (y_move rfl) ?_
    refine Run.opW rfl rfl rfl rfl (y_move rfl) ?_
    refine Run.opW rfl rfl rfl rfl (y_load rfl Tryd.underlying29 rfl) ?_
    refine Run.opW rfl rfl rfl rfl (y_move rfl) ?_
    refine Run.opW rfl rfl rfl rfl (q_index (vs.length - 1 - j) (_) rfl rfl Tryd.underlying29 ti33 (fun _ => rfl) (by omega) (getD_at (by omega))) ?_
    refine Run.opW rfl rfl rfl rfl (y_load rfl Tryd.underlying33 rfl) ?_
    refine Run.yieldX [500, 501, 502, 503, 504] [500, 501, 502, 503, 504] rfl rfl (HR j hjl) rfl (fun _ => rfl) rfl ?_
    intro _
    refine Run.listW (ro := none) (fun _ _ h => by obtain ⟨_, _, h, _⟩ := h; cases h) rfl ?_
    refine Run.op rfl rfl rfl (y_not rfl) ?_
    refine Run.nil ?_
    refine Run.nT ?_
    refine Run.cond0 rfl ?_
    refine Run.skip ?_
    refine Run.nB ?_
    refine Run.nT ?_
    refine Run.region ?_
    refine Run.op rfl rfl rfl (y_move rfl) ?_
    refine Run.op rfl rfl rfl (y_sub rfl rfl (by first | exact wI_in (by omega) | rfl)) ?_
    refine Run.op rfl rfl rfl (y_assign rfl) ?_
    refine Run.nil ?_
    refine Run.nT ?_
    refine Run.round (j + 1) ?_ ?_ ?_ ?_
    · show j + 1 ≤ vs.length; omega
    · show vs.length - (j + 1) < vs.length - j; omega
    · rfl
    · exact (Incl.int (t := 3) rfl (by omega) (Incl.same (t := 0) rfl (Incl.same (t := 1) rfl Incl.nil)))
  · obtain rfl : j = vs.length := by have : ¬ (vs.length : Int) - 1 - j ≥ 0 := of_decide_eq_false hb; omega
    refine Run.exit ?_
    refine Run.eT ?_
    refine Run.eT ?_
    refine Run.eB ?_
    refine Run.norm ?_
    exact Run.finX () [500, 501, 502, 503, 504] rfl (Outs.none rfl) rfl (fun _ _ _ _ => trivial)

theorem backward_fn (vs : List Int) : Fn s.env 143 [slc Ku vs] (sfun 171 [spts [slc Ku vs]]) := by
  refine Fn.of Tryd.func143 rfl Tryd.ntmps143 rfl ?_
  intro w0 F0
  refine Run.seq ?_
  refine Run.region ?_
  refine q_box rfl rfl ?_
  intro b1
  refine Run.freezeB 1 1 rfl rfl ?_
  refine Run.op rfl rfl rfl (y_assign rfl) ?_
  refine Run.nil ?_
  refine Run.nT ?_
  refine Run.seq ?_
  refine Run.region ?_
  refine Run.op rfl rfl rfl (q_makeFunc rfl) ?_
  refine Run.op rfl rfl rfl (y_assign rfl) ?_
  refine Run.nil ?_
  refine Run.nT ?_
  refine Run.ret ?_
  exact Run.fin1 rfl rfl rfl (.tmp rfl) (fun _ _ h => h)

section
variable [hF : HasF s]

theorem lf_three {L : List (Nat × Spec)} {a b c : Nat} {x y z : Value} (h1 : look L a = some (sval x)) (h2 : look L b = some (sval y)) (h3 : look L c = some (sval z)) : ∀ t T, look [(a, sval x), (b, sval y), (c, sval z)] t = some T → Free T ∧ look L t = some T := by
  intro t T h
  have hm := look_mem h
  simp only [List.mem_cons, List.not_mem_nil, or_false, Prod.mk.injEq] at hm
  rcases hm with ⟨rfl, rfl⟩ | ⟨rfl, rfl⟩ | ⟨rfl, rfl⟩
  · exact ⟨fun _ _ _ _ _ h => h, h1⟩
  · exact ⟨fun _ _ _ _ _ h => h, h2⟩
  · exact ⟨fun _ _ _ _ _ h => h, h3⟩

theorem weight_fn (f c d : Int) (hf : fv f = true) (hc : 0 ≤ c) (hd : 0 ≤ d) (vs : List Int) (hv : ∀ x ∈ vs, 0 ≤ x) (hl : vs.length ≤ 1048576) : Fn s.env 81 [i64 f, slc Ku vs, u64 c, u64 d] (u64 (wgt (fP f) vs c d)) := by
  obtain ⟨⟨hp1, hp2⟩, hg_⟩ := okf hf
  have hp3 : (0 : Int) < fP f := by omega
  have hwa := wrev_lt hp3 d vs
  have hwe := wacc_all (fP f) d vs
  refine FnM.of Tryd.func81 rfl Tryd.ntmps81 rfl ?_
  intro w0 F0
  refine Run.seq ?_
  refine Run.region ?_
  refine q_box rfl rfl ?_
  intro b4
  refine q_box rfl rfl ?_
  intro b7
  refine Run.op rfl rfl rfl (y_assign rfl) ?_
  refine Run.nil ?_
  refine Run.nT ?_
  refine Run.seq ?_
  refine Run.region ?_
  refine q_alloc ti33 rfl rfl ?_
  intro b9
  refine Run.nil ?_
  refine Run.nT ?_
  refine Run.seq ?_
  refine Run.seq ?_
  refine Run.region ?_
  refine Run.op rfl rfl rfl (y_move rfl) ?_
  refine Run.op rfl rfl rfl (q_call en143 rfl (backward_fn s vs)) ?_
  refine Run.nil ?_
  refine Run.nT ?_
  refine Run.block ?_
  refine Run.own (t := 9) (e' := .blk b9 33 [u64 (wacc (fP f) d vs 0)]) rfl (by rw [wacc_zero]; rfl) ?_
  refine Run.rangeX (S := fun _ : Unit => sany) (No := fun _ : Unit => [.blk b4 3 [i64 f], .blk b7 33 [u64 d], .blk b9 33 [u64 (wacc (fP f) d vs vs.length)]]) 700 [4, 7, 9] [4, 7, 9] [(9, sval (.pointer (some ⟨b9, 0, none⟩))), (7, sval (.pointer (some ⟨b7, 0, none⟩))), (4, sval (.pointer (some ⟨b4, 0, none⟩)))] rfl rfl en171 rfl (lf_three rfl rfl rfl) rfl (fun _ => rfl) ?_ ?_
  · intro fn tmps l D hsz hff
    refine rev1_fx s f d l D b4 b7 b9 _ vs hl fun j hj => ?_
    refine RndX.of2 501 [502, 4, 7, 9] rfl [(9, sval (.pointer (some ⟨b9, 0, none⟩))), (7, sval (.pointer (some ⟨b7, 0, none⟩))), (4, sval (.pointer (some ⟨b4, 0, none⟩)))] hsz hff rfl rfl rfl ?_
    intro w1 F1
    have hwl : 0 ≤ wacc (fP f) d vs j ∧ wacc (fP f) d vs j < fP f := wrev_lt hp3 d _
    have hvv := hv _ (List.getElem_mem (show vs.length - 1 - j < vs.length by omega))
    have hvv : 0 ≤ vs.getD (vs.length - 1 - j) 0 := by rw [List.getD_eq_getElem?_getD, List.getElem?_eq_getElem (by omega)]; exact hvv
    refine Run.regionR ?_
    refine Run.listW (fun _ _ h => h) rfl ?_
    refine Run.op rfl rfl rfl (y_assign rfl) ?_
    refine Run.nil ?_
    refine Run.nT ?_
    refine Run.begin_ 501 rfl rfl ?_
    refine Run.blockR ?_
    refine Run.weaken (Incl.same (t := 9) rfl (Incl.same (t := 4) rfl (Incl.same (t := 7) rfl (Incl.same (t := 11) rfl Incl.nil)))) ?_
    refine Run.drawPR (β := Unit) (fun M _ => M) [] (fun _ _ h => h) rfl rfl rfl ?_
    refine DrawP.step 0 1 rfl rfl rfl (by kernel_rfl) (by kernel_rfl) ⟨(StepOk.op rfl rfl rfl (y_loadP 4 rfl rfl (rfl) Tryd.underlying3 rfl)), trivial⟩ rfl rfl ?_
    refine DrawP.step 0 1 rfl rfl rfl (by kernel_rfl) (by kernel_rfl) ⟨(StepOk.op rfl rfl rfl (y_loadP 4 rfl rfl (rfl) Tryd.underlying3 rfl)), trivial⟩ rfl rfl ?_
    refine DrawP.step 0 1 rfl rfl rfl (by kernel_rfl) (by kernel_rfl) ⟨(StepOk.op rfl rfl rfl (y_loadP 9 rfl rfl (rfl) Tryd.underlying33 rfl)), trivial⟩ rfl rfl ?_
    refine DrawP.step 0 1 rfl rfl rfl (by kernel_rfl) (by kernel_rfl) ⟨(StepOk.op rfl rfl rfl (y_loadP 7 rfl rfl (rfl) Tryd.underlying33 rfl)), trivial⟩ rfl rfl ?_
    refine DrawP.step 0 1 rfl rfl rfl (by kernel_rfl) (by kernel_rfl) ⟨(StepOk.op rfl rfl rfl (q_call en90 rfl (Mul_fn s _ _ _ hf (by omega) (by omega)))), trivial⟩ rfl rfl ?_
    refine DrawP.step 0 1 rfl rfl rfl (by kernel_rfl) (by kernel_rfl) ⟨(StepOk.op rfl rfl rfl (y_move rfl)), trivial⟩ rfl rfl ?_
    refine DrawP.tail (m := 6) (by kernel_rfl) (by kernel_rfl) rfl rfl trivial ?_
    · change Run _ _ _ _ _
      refine Run.op rfl rfl rfl (q_call en106 rfl (Add_fn s _ _ _ hf (em_lt hp3 _).1 (by omega))) ?_
      refine q_store1 9 rfl rfl rfl ti33 (Nat.le_of_ble_eq_true rfl) ?_
      refine Run.nil ?_
      refine Run.nB ?_
      refine Run.own (t := 9) (e' := .blk b9 33 [u64 (wacc (fP f) d vs (j + 1))]) rfl (by rw [wacc_succ hj]; rfl) ?_
      exact Run.endRound () 501 [501, 502, 4, 7, 9] rfl rfl (fun _ _ => rfl)
  · intro D _
    refine Run.nB ?_
    refine Run.nT ?_
    refine Run.seq ?_
    refine Run.region ?_
    refine Run.op rfl rfl rfl (y_loadP 4 rfl rfl (rfl) Tryd.underlying3 rfl) ?_
    refine Run.op rfl rfl rfl (y_loadP 9 rfl rfl (rfl) Tryd.underlying33 rfl) ?_
    refine Run.op rfl rfl rfl (y_move rfl) ?_
    refine Run.op rfl rfl rfl (q_call en106 rfl (Add_fn s _ _ _ hf (by omega) (by omega))) ?_
    refine Run.op rfl rfl rfl (y_assign rfl) ?_
    refine Run.nil ?_
    refine Run.nT ?_
    refine Run.ret ?_
    exact Run.finM 700 rfl rfl rfl rfl (Outs.one rfl (.tmp rfl)) (fun _ _ h => by rw [hwe] at h; exact h)

end

end Go.Vx
