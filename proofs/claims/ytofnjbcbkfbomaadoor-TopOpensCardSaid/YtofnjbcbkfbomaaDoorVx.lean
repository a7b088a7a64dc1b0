/- Walks of the program's functions: the trees. Conditions: as each says. Printed by a program of our own (wip/tools/gen.py). -/
import Derived.Test.YtofnjbcbkfbomaaDoorVw
namespace Go.Vx
open Go Go.RowKit Go.Proofs
set_option maxRecDepth 100000
theorem nd0 : nd 0 (0, 0) (0, 0) = (19, 58) := by kernel_rfl
attribute [local irreducible] nd
variable (s : Seat)

theorem hf0 : fv 0 = true := rfl
theorem hz0 : inD (fP 0) (0, 0) := by unfold inD; decide
theorem hc0 : inD (fP 0) (19, 58) := by unfold inD; decide
theorem hzz : inL (fP 0) [(0, 0), (0, 0)] := fun d hd => by
  simp only [List.mem_cons, List.not_mem_nil, or_false, or_self] at hd
  subst hd
  exact hz0
theorem H0 : okT 0 1 0 (lvls 0 (1 - 0) [(0, 0), (0, 0)]) := okT_lvls hf0 (by decide) (by decide) rfl hzz
theorem cap0 : (lvls 0 (1 - 0) [(0, 0), (0, 0)]).getD (1 - 0) [] = [(19, 58)] := by
  rw [lvls_get (Nat.le_refl _)]
  show [nd 0 (0, 0) (0, 0)] = _
  rw [nd0]
theorem chk0 : chk 0 [(19, 58)] 1 (0, 0) [(0, 0)] = true := by
  refine chk_yes (by decide) ?_
  show nd 0 (0, 0) (0, 0) = _
  rw [nd0]
  rfl

section
variable [hB : HasB s] [hF : HasF s] [hT : HasT7 s]

theorem known_fn  : Fn s.env 7 [] (sbool true) := by
  refine Fn.of Tryd.func7 rfl Tryd.ntmps7 rfl ?_
  intro w0 F0
  refine Run.seq ?_
  refine Run.region ?_
  refine Run.op rfl rfl rfl (y_assign rfl) ?_
  refine Run.nil ?_
  refine Run.nT ?_
  refine Run.seq ?_
  refine Run.region ?_
  refine Run.op rfl rfl rfl (q_buildA Tryd.underlying42 ti42 rfl ti33 .nil) ?_
  refine q_alloc ti42 rfl rfl ?_
  intro b1
  refine Run.storeW 1 rfl rfl rfl ti42.siz rfl ?_
  refine Run.nil ?_
  refine Run.nT ?_
  refine Run.seq ?_
  refine Run.region ?_
  refine Run.op rfl rfl rfl (y_loadPW 1 rfl rfl Tryd.underlying42 rfl ti42.siz) ?_
  refine Run.op rfl rfl rfl (y_loadPW 1 rfl rfl Tryd.underlying42 rfl ti42.siz) ?_
  refine Run.op rfl rfl rfl (q_buildL (K := Kd) ([(0, 0), (0, 0)]) Tryd.underlying40 ti42 rfl rfl rfl (.cons rfl (Part.agg rfl) rfl (.cons rfl (Part.agg rfl) rfl .nil)) rfl) ?_
  refine Run.op rfl rfl rfl (q_call en14 rfl (build_fn s 0 hf0 1 0 (by decide) (by decide) [(0, 0), (0, 0)] rfl hzz)) ?_
  refine Run.op rfl rfl rfl (y_move rfl) ?_
  refine Run.op rfl rfl rfl (y_extract rfl rfl) ?_
  refine Run.op rfl rfl rfl (y_extract rfl rfl) ?_
  refine q_alloc ti46 rfl rfl ?_
  intro b2
  refine Run.storeW 2 rfl rfl rfl ti46.siz rfl ?_
  refine Run.op rfl rfl rfl (y_assign rfl) ?_
  refine Run.nil ?_
  refine Run.nT ?_
  refine Run.seq ?_
  refine Run.region ?_
  refine Run.op rfl rfl rfl (y_move rfl) ?_
  refine Run.op rfl rfl rfl (Yields.bool (c := true) (y_eql rfl rfl) (by decide)) ?_
  refine Run.op rfl rfl rfl (y_move rfl) ?_
  refine Run.opG rfl rfl rfl rfl rfl (y_loadPW 1 rfl rfl Tryd.underlying42 rfl ti42.siz) ?_
  refine Run.opG rfl rfl rfl rfl rfl (y_loadPW 1 rfl rfl Tryd.underlying42 rfl ti42.siz) ?_
  refine Run.opG rfl rfl rfl rfl rfl (q_call en23 rfl (node07_fn s 0 hf0 (0, 0) (0, 0) hz0 hz0)) ?_
  refine Run.opG rfl rfl rfl rfl rfl (q_buildA Tryd.underlying42 ti42 rfl ti33 (.cons rfl (Part.one' rfl) rfl (.cons rfl (Part.one' rfl) rfl .nil))) ?_
  refine Run.opG rfl rfl rfl rfl rfl (Yields.bool (c := true) (y_eqD (d := nd 0 (0, 0) (0, 0)) (e := (19, 58)) rfl rfl rfl) (decide_eq_true nd0)) ?_
  refine Run.op rfl rfl rfl (y_pickT rfl rfl) ?_
  refine Run.op rfl rfl rfl (y_move rfl) ?_
  refine Run.opG rfl rfl rfl rfl rfl (y_loadPW 2 rfl rfl Tryd.underlying46 rfl ti46.siz) ?_
  refine Run.opG rfl rfl rfl rfl rfl (q_call en24 rfl (cap_fn s 0 1 0 (lvls 0 (1 - 0) [(0, 0), (0, 0)]) H0)) ?_
  refine Run.opG rfl rfl rfl rfl rfl (q_buildA Tryd.underlying42 ti42 rfl ti33 (.cons rfl (Part.one' rfl) rfl (.cons rfl (Part.one' rfl) rfl .nil))) ?_
  refine Run.opG rfl rfl rfl rfl rfl (q_buildL (K := Kd) ([(19, 58)]) Tryd.underlying40 ti42 rfl rfl rfl (.cons rfl (Part.agg rfl) rfl .nil) rfl) ?_
  refine Run.opG rfl rfl rfl rfl rfl (Yields.bool (c := true) (q_call en18 rfl (same_fn s ((lvls 0 (1 - 0) [(0, 0), (0, 0)]).getD (1 - 0) []) [(19, 58)] (by rw [cap0]; decide))) (decide_eq_true cap0)) ?_
  refine Run.op rfl rfl rfl (y_pickT rfl rfl) ?_
  refine Run.op rfl rfl rfl (y_move rfl) ?_
  refine Run.opG rfl rfl rfl rfl rfl (q_buildA Tryd.underlying42 ti42 rfl ti33 (.cons rfl (Part.one' rfl) rfl (.cons rfl (Part.one' rfl) rfl .nil))) ?_
  refine Run.opG rfl rfl rfl rfl rfl (q_buildL (K := Kd) ([(19, 58)]) Tryd.underlying40 ti42 rfl rfl rfl (.cons rfl (Part.agg rfl) rfl .nil) rfl) ?_
  refine Run.opG rfl rfl rfl rfl rfl (y_loadPW 1 rfl rfl Tryd.underlying42 rfl ti42.siz) ?_
  refine Run.opG rfl rfl rfl rfl rfl (y_loadPW 1 rfl rfl Tryd.underlying42 rfl ti42.siz) ?_
  refine Run.opG rfl rfl rfl rfl rfl (q_buildL (K := Kd) ([(0, 0)]) Tryd.underlying40 ti42 rfl rfl rfl (.cons rfl (Part.agg rfl) rfl .nil) rfl) ?_
  refine Run.opG rfl rfl rfl rfl rfl (Yields.bool (c := true) (q_call en20 rfl (check_fn s 0 hf0 [(0, 0)] (by decide) 1 (by decide) [(19, 58)] 0 rfl (by decide) (inL_one hc0) (0, 0) hz0 (inL_one hz0))) (chk0)) ?_
  refine Run.op rfl rfl rfl (y_pickT rfl rfl) ?_
  refine Run.op rfl rfl rfl (y_move rfl) ?_
  refine Run.opG rfl rfl rfl rfl rfl (q_buildL (K := K32) ([5, 6, 7]) Tryd.underlying22 ti35 rfl rfl rfl (.cons rfl (Part.one' rfl) rfl (.cons rfl (Part.one' rfl) rfl (.cons rfl (Part.one' rfl) rfl .nil))) rfl) ?_
  refine Run.opG rfl rfl rfl rfl rfl (Yields.bool (c := true) (q_call en6 rfl (opened_fn s 1 rfl 2 1 (by decide) (by decide) [5, 6, 7] (by decide) 0 3 (by decide) (by decide))) (rfl)) ?_
  refine Run.op rfl rfl rfl (y_pickT rfl rfl) ?_
  refine Run.op rfl rfl rfl (y_assign rfl) ?_
  refine Run.nil ?_
  refine Run.nT ?_
  refine Run.ret ?_
  exact Run.fin1 rfl rfl rfl (.tmp rfl) (fun _ _ h => h)

theorem top_fn (fl hg cp : Nat) (hfl : fl < 256) (hhg : hg < 256) (hcp : cp < 256) (sd : List Int) (hsd : ∀ x ∈ sd, 0 ≤ x ∧ x < 4294967296) (at_ by_ : Nat) (hat : at_ < 256) (hby : by_ < 256) : Fn s.env 3 [u8 fl, u8 hg, u8 cp, slc K32 sd, u8 at_, u8 by_] (sbool true) := by
  have hfv : fv ((fl % 4 : Nat) : Int) = true := fv_iff.2 ⟨by omega, by omega⟩
  have hcm := Nat.mod_lt cp (show 0 < hg % 5 + 1 by omega)
  refine Fn.of Tryd.func3 rfl Tryd.ntmps3 rfl ?_
  intro w0 F0
  refine Run.seq ?_
  refine Run.region ?_
  refine Run.op rfl rfl rfl (y_assign rfl) ?_
  refine Run.nil ?_
  refine Run.nT ?_
  refine Run.seq ?_
  refine Run.region ?_
  refine Run.op rfl rfl rfl (y_move rfl) ?_
  refine Run.op rfl rfl rfl (y_rem (r := ((hg % 5 : Nat) : Int)) rfl rfl (by omega) (by rw [tmod_of (by omega)]; rfl)) ?_
  refine Run.op rfl rfl rfl (y_conv Tryd.underlying5 Tryd.underlying3 rfl (by first | exact wI_in (by omega) | rfl)) ?_
  refine Run.op rfl rfl rfl (y_assign rfl) ?_
  refine Run.nil ?_
  refine Run.nT ?_
  refine Run.seq ?_
  refine Run.region ?_
  refine Run.op rfl rfl rfl (y_move rfl) ?_
  refine Run.op rfl rfl rfl (y_rem (r := ((fl % 4 : Nat) : Int)) rfl rfl (by omega) (by rw [tmod_of (by omega)]; rfl)) ?_
  refine Run.op rfl rfl rfl (y_conv Tryd.underlying5 Tryd.underlying3 rfl (by first | exact wI_in (by omega) | rfl)) ?_
  refine Run.op rfl rfl rfl (y_move rfl) ?_
  refine Run.op rfl rfl rfl (y_move rfl) ?_
  refine Run.op rfl rfl rfl (y_conv Tryd.underlying5 Tryd.underlying3 rfl (by first | exact wI_in (by omega) | rfl)) ?_
  refine Run.op rfl rfl rfl (y_move rfl) ?_
  refine Run.op rfl rfl rfl (y_add (r := ((hg % 5 + 1 : Nat) : Int)) rfl rfl (add1_nat (by omega))) ?_
  refine Run.op rfl rfl rfl (y_rem (r := ((cp % (hg % 5 + 1) : Nat) : Int)) rfl rfl (by omega) (by rw [tmod_of (by omega)]; rfl)) ?_
  refine Run.op rfl rfl rfl (y_move rfl) ?_
  refine Run.op rfl rfl rfl (y_move rfl) ?_
  refine Run.op rfl rfl rfl (y_move rfl) ?_
  refine Run.op rfl rfl rfl (Yields.bool (c := true) (q_call en6 rfl (opened_fn s ((fl % 4 : Nat) : Int) hfv (hg % 5) (cp % (hg % 5 + 1)) (by omega) (by omega) sd hsd at_ by_ hat hby)) (rfl)) ?_
  refine Run.op rfl rfl rfl (y_move rfl) ?_
  refine Run.opG rfl rfl rfl rfl rfl (Yields.bool (c := true) (q_call en7 rfl (known_fn s)) (rfl)) ?_
  refine Run.op rfl rfl rfl (y_pickT rfl rfl) ?_
  refine Run.op rfl rfl rfl (y_assign rfl) ?_
  refine Run.nil ?_
  refine Run.nT ?_
  refine Run.ret ?_
  exact Run.fin1 rfl rfl rfl (.tmp rfl) (fun _ _ h => h)

end

end Go.Vx
