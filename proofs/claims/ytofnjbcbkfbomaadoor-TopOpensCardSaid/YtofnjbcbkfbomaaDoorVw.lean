/- Walks of the program's functions: the trees. Conditions: as each says. Printed by a program of our own (wip/tools/gen.py). -/
import Derived.Test.YtofnjbcbkfbomaaDoorVv
namespace Go.Vx
open Go Go.RowKit Go.Proofs
set_option maxRecDepth 100000
attribute [local irreducible] nd
variable (s : Seat)

section
variable [hB : HasB s] [hF : HasF s] [hT : HasT7 s]

theorem opened_fn (f : Int) (hf : fv f = true) (h c : Nat) (hc : c ≤ h) (h4 : h ≤ 4) (sd : List Int) (hsd : ∀ x ∈ sd, 0 ≤ x ∧ x < 4294967296) (at_ by_ : Nat) (hat : at_ < 256) (hby : by_ < 256) : Fn s.env 6 [i64 f, i64 h, i64 c, slc K32 sd, u8 at_, u8 by_] (sbool true) := by
  obtain ⟨⟨hp1, hp2⟩, hg⟩ := okf hf
  have hp97 := fP_ge hf
  have hf4 := fv_iff.1 hf
  have h16 : 2 ^ h ≤ 2 ^ 4 := Nat.pow_le_pow_right (by decide) h4
  have hsd0 : ∀ j, 0 ≤ sd.getD j 0 ∧ sd.getD j 0 < 4294967296 := fun j => by
    by_cases hj : j < sd.length
    · rw [List.getD_eq_getElem?_getD, List.getElem?_eq_getElem hj]; exact hsd _ (List.getElem_mem _)
    · rw [List.getD_eq_getElem?_getD, List.getElem?_eq_none (by omega)]; decide
  refine Fn.of Tryd.func6 rfl Tryd.ntmps6 rfl ?_
  intro w0 F0
  refine Run.seq ?_
  refine Run.region ?_
  refine Run.op rfl rfl rfl (y_assign rfl) ?_
  refine Run.nil ?_
  refine Run.nT ?_
  refine Run.seq ?_
  refine Run.region ?_
  refine Run.op rfl rfl rfl (y_move rfl) ?_
  refine Run.op rfl rfl rfl (q_indexG f.toNat _ hT.mem rfl Tryd.underlying37 ti36 (fun _ => rfl) rfl (by omega) (tab7_get hf)) ?_
  refine Run.op rfl rfl rfl (y_indexL (j := 0) rfl rfl Tryd.underlying36 ti33.siz rfl rfl) ?_
  refine Run.op rfl rfl rfl (y_load rfl Tryd.underlying33 rfl) ?_
  refine Run.op rfl rfl rfl (y_assign rfl) ?_
  refine Run.nil ?_
  refine Run.nT ?_
  refine Run.seq ?_
  refine Run.region ?_
  refine Run.op rfl rfl rfl (y_assign rfl) ?_
  refine q_nilRow 14 (Kd) 42 2 ?_
  refine Run.nil ?_
  refine Run.nT ?_
  refine Run.seq ?_
  refine Run.seq ?_
  refine Run.region ?_
  refine Run.op rfl rfl rfl (y_assign rfl) ?_
  refine Run.nil ?_
  refine Run.nT ?_
  refine Run.block ?_
  refine Run.loop (ι := Nat × Value) (fun ⟨k, v⟩ => k ≤ 2 ^ h) (fun ⟨k, v⟩ => 2 ^ h - k) (fun ⟨k, v⟩ => [(14, Ent.rows Kd v 42 2 (lvs f sd k))]) (fun ⟨k, v⟩ => [(0, i64 f), (1, i64 h), (2, i64 c), (4, u8 at_), (5, u8 by_), (13, u64 (fP f)), (3, slc K32 sd), (14, sval v), (15, i64 k)]) (0, .slice none 0 0) (Nat.zero_le _) rfl (Incl.same (t := 0) rfl (Incl.same (t := 1) rfl (Incl.same (t := 2) rfl (Incl.same (t := 4) rfl (Incl.same (t := 5) rfl (Incl.same (t := 13) rfl (Incl.same (t := 3) rfl (Incl.same (t := 14) rfl (Incl.same (t := 15) rfl Incl.nil))))))))) ?_
  rintro ⟨k, v⟩ hk
  change Run _ _ [(14, Ent.rows Kd v 42 2 (lvs f sd k))] [(0, i64 f), (1, i64 h), (2, i64 c), (4, u8 at_), (5, u8 by_), (13, u64 (fP f)), (3, slc K32 sd), (14, sval v), (15, i64 k)] _
  have hs1 := hsd0 (k % sd.length)
  have hs2 := hsd0 ((k * k + 1) % sd.length)
  refine Run.seq ?_
  refine Run.seq ?_
  refine Run.region ?_
  refine Run.op rfl rfl rfl (y_move rfl) ?_
  refine Run.op rfl rfl rfl (y_move rfl) ?_
  refine Run.op rfl rfl rfl (y_shl (r := ((2 ^ h : Nat) : Int)) rfl rfl (by omega) (shl_nat (by omega))) ?_
  refine Run.op rfl rfl rfl (y_lss rfl rfl) ?_
  refine Run.nil ?_
  refine Run.nT ?_
  refine Run.cond rfl (fun hb => ?_) (fun hb => ?_)
  · have hkl : k < 2 ^ h := by have := of_decide_eq_true hb; omega
    have hkk : k * k ≤ 16 * 16 := Nat.mul_le_mul (by omega) (by omega)
    refine Run.skip ?_
    refine Run.nT ?_
    refine Run.seq ?_
    refine Run.block ?_
    refine Run.seq ?_
    refine Run.region ?_
    refine Run.op rfl rfl rfl (y_move rfl) ?_
    refine Run.op rfl rfl rfl (y_conv Tryd.underlying3 Tryd.underlying33 rfl (by first | exact wU_in (by omega) | rfl)) ?_
    refine Run.op rfl rfl rfl (q_buildA Tryd.underlying42 ti42 rfl ti33 (.cons rfl (Part.one' rfl) rfl (.cons rfl (Part.one' rfl) rfl .nil))) ?_
    refine q_alloc ti42 rfl rfl ?_
    intro b16
    refine Run.storeW 16 rfl rfl rfl ti42.siz rfl ?_
    refine Run.nil ?_
    refine Run.nT ?_
    refine Run.seq ?_
    refine Run.seq ?_
    refine Run.region ?_
    refine Run.op rfl rfl rfl (y_move rfl) ?_
    refine Run.op rfl rfl rfl (y_lenS rfl Tryd.underlying22) ?_
    refine Run.op rfl rfl rfl (y_assign rfl) ?_
    refine Run.nil ?_
    refine Run.nT ?_
    refine Run.seq ?_
    refine Run.region ?_
    refine Run.op rfl rfl rfl (y_move rfl) ?_
    refine Run.op rfl rfl rfl (y_gtr rfl rfl) ?_
    refine Run.nil ?_
    refine Run.nT ?_
    refine Run.cond rfl (fun hb => ?_) (fun hb => ?_)
    · have hn : 0 < sd.length := by have := of_decide_eq_true hb; omega
      have hlf : ((sd.getD (k % sd.length) 0 % fP f, sd.getD ((k * k + 1) % sd.length) 0 % fP f) : Dg) = lfd f sd k := by unfold lfd; rw [if_pos hn]
      refine Run.weaken (Incl.same (t := 0) rfl (Incl.same (t := 1) rfl (Incl.same (t := 2) rfl (Incl.same (t := 4) rfl (Incl.same (t := 5) rfl (Incl.same (t := 13) rfl (Incl.same (t := 3) rfl (Incl.same (t := 14) rfl (Incl.same (t := 15) rfl (Incl.same (t := 16) rfl (Incl.same (t := 17) rfl Incl.nil))))))))))) ?_
      refine q_draw ?_ rfl
      refine Draw.step rfl rfl rfl (StepOk.op rfl rfl rfl (y_move rfl)) rfl ?_
      refine Draw.step rfl rfl rfl (StepOk.op rfl rfl rfl (y_move rfl)) rfl ?_
      refine Draw.step rfl rfl rfl (StepOk.op rfl rfl rfl (y_move rfl)) rfl ?_
      refine Draw.step rfl rfl rfl (StepOk.op rfl rfl rfl (y_rem (r := ((k % sd.length : Nat) : Int)) rfl rfl (by omega) (by rw [tmod_of (by omega)]; rfl))) rfl ?_
      refine Draw.step rfl rfl rfl (StepOk.op rfl rfl rfl (q_index (k % sd.length) (sd.getD (k % sd.length) 0) rfl rfl Tryd.underlying22 ti35 (fun _ => rfl) (rfl) (getD_some _ (Nat.mod_lt _ hn)))) rfl ?_
      refine Draw.step rfl rfl rfl (StepOk.op rfl rfl rfl (y_load rfl Tryd.underlying35 rfl)) rfl ?_
      refine Draw.step rfl rfl rfl (StepOk.op rfl rfl rfl (y_conv Tryd.underlying35 Tryd.underlying33 rfl (by first | exact wU_in (by omega) | rfl))) rfl ?_
      refine Draw.step rfl rfl rfl (StepOk.op rfl rfl rfl (y_move rfl)) rfl ?_
      refine Draw.step rfl rfl rfl (StepOk.op rfl rfl rfl (y_rem rfl rfl (by omega) (by first | exact tmod_of (by omega) | rfl))) rfl ?_
      refine Draw.step rfl rfl rfl (StepOk.op rfl rfl rfl (y_move rfl)) rfl ?_
      refine Draw.step rfl rfl rfl (StepOk.op rfl rfl rfl (y_move rfl)) rfl ?_
      refine Draw.step rfl rfl rfl (StepOk.op rfl rfl rfl (y_move rfl)) rfl ?_
      refine Draw.step rfl rfl rfl (StepOk.op rfl rfl rfl (y_mul (r := ((k * k : Nat) : Int)) rfl rfl (mul_nat (by omega)))) rfl ?_
      refine Draw.step rfl rfl rfl (StepOk.op rfl rfl rfl (y_add (r := ((k * k + 1 : Nat) : Int)) rfl rfl (add1_nat (by omega)))) rfl ?_
      refine Draw.step rfl rfl rfl (StepOk.op rfl rfl rfl (y_move rfl)) rfl ?_
      refine Draw.step rfl rfl rfl (StepOk.op rfl rfl rfl (y_rem (r := (((k * k + 1) % sd.length : Nat) : Int)) rfl rfl (by omega) (by rw [tmod_of (by omega)]; rfl))) rfl ?_
      refine Draw.step rfl rfl rfl (StepOk.op rfl rfl rfl (q_index ((k * k + 1) % sd.length) (sd.getD ((k * k + 1) % sd.length) 0) rfl rfl Tryd.underlying22 ti35 (fun _ => rfl) (rfl) (getD_some _ (Nat.mod_lt _ hn)))) rfl ?_
      refine Draw.step rfl rfl rfl (StepOk.op rfl rfl rfl (y_load rfl Tryd.underlying35 rfl)) rfl ?_
      refine Draw.step rfl rfl rfl (StepOk.op rfl rfl rfl (y_conv Tryd.underlying35 Tryd.underlying33 rfl (by first | exact wU_in (by omega) | rfl))) rfl ?_
      refine Draw.step rfl rfl rfl (StepOk.op rfl rfl rfl (y_move rfl)) rfl ?_
      refine Draw.step rfl rfl rfl (StepOk.op rfl rfl rfl (y_rem rfl rfl (by omega) (by first | exact tmod_of (by omega) | rfl))) rfl ?_
      refine Draw.step rfl rfl rfl (StepOk.op rfl rfl rfl (q_buildA Tryd.underlying42 ti42 rfl ti33 (.cons rfl (Part.one' rfl) rfl (.cons rfl (Part.one' rfl) rfl .nil)))) rfl ?_
      refine Draw.tail (m := 22) rfl rfl rfl ?_
      refine Run.storeW 16 rfl rfl rfl ti42.siz rfl ?_
      refine Run.nil ?_
      refine Run.nT ?_
      refine Run.region ?_
      refine Run.own (t := 16) (e' := Ent.blk b16 42 (Kd (lfd f sd k))) rfl (congrArg (fun d : Dg => Ent.blk b16 42 (Kd d)) hlf) ?_
      refine Run.op rfl rfl rfl (y_move rfl) ?_
      refine Run.op rfl rfl rfl (y_loadPW 16 rfl rfl Tryd.underlying42 rfl ti42.siz) ?_
      refine Run.op rfl rfl rfl (q_buildL (K := Kd) ([lfd f sd k]) Tryd.underlying40 ti42 rfl rfl rfl (.cons rfl (Part.agg rfl) rfl .nil) rfl) ?_
      refine q_append 14 rfl rfl rfl Tryd.underlying40 ti42 rfl rfl (fun _ => rfl) (by rw [lvs_len]; simp; omega) rfl ?_
      intro v73
      refine Run.op rfl rfl rfl (y_assign rfl) ?_
      refine Run.nil ?_
      refine Run.nB ?_
      refine Run.nT ?_
      refine Run.region ?_
      refine Run.op rfl rfl rfl (y_move rfl) ?_
      refine Run.op rfl rfl rfl (y_add rfl rfl (by first | exact wI_in (by omega) | rfl)) ?_
      refine Run.op rfl rfl rfl (y_assign rfl) ?_
      refine Run.nil ?_
      refine Run.nT ?_
      refine Run.drop 16 rfl ?_
      refine Run.round (k + 1, v73) ?_ ?_ ?_ ?_
      · show k + 1 ≤ 2 ^ h; omega
      · show 2 ^ h - (k + 1) < 2 ^ h - k; omega
      · dsimp only
        rw [lvs_succ]
        rfl
      · exact (Incl.same (t := 0) rfl (Incl.same (t := 1) rfl (Incl.same (t := 2) rfl (Incl.same (t := 4) rfl (Incl.same (t := 5) rfl (Incl.same (t := 13) rfl (Incl.same (t := 3) rfl (Incl.same (t := 14) rfl (Incl.int (t := 15) rfl (by omega) Incl.nil)))))))))
    · have hn : ¬ 0 < sd.length := by have := of_decide_eq_false hb; omega
      have hlf : (((k : Int), 1) : Dg) = lfd f sd k := by unfold lfd; rw [if_neg hn]
      refine Run.skip ?_
      refine Run.nT ?_
      refine Run.region ?_
      refine Run.own (t := 16) (e' := Ent.blk b16 42 (Kd (lfd f sd k))) rfl (congrArg (fun d : Dg => Ent.blk b16 42 (Kd d)) hlf) ?_
      refine Run.op rfl rfl rfl (y_move rfl) ?_
      refine Run.op rfl rfl rfl (y_loadPW 16 rfl rfl Tryd.underlying42 rfl ti42.siz) ?_
      refine Run.op rfl rfl rfl (q_buildL (K := Kd) ([lfd f sd k]) Tryd.underlying40 ti42 rfl rfl rfl (.cons rfl (Part.agg rfl) rfl .nil) rfl) ?_
      refine q_append 14 rfl rfl rfl Tryd.underlying40 ti42 rfl rfl (fun _ => rfl) (by rw [lvs_len]; simp; omega) rfl ?_
      intro v73
      refine Run.op rfl rfl rfl (y_assign rfl) ?_
      refine Run.nil ?_
      refine Run.nB ?_
      refine Run.nT ?_
      refine Run.region ?_
      refine Run.op rfl rfl rfl (y_move rfl) ?_
      refine Run.op rfl rfl rfl (y_add rfl rfl (by first | exact wI_in (by omega) | rfl)) ?_
      refine Run.op rfl rfl rfl (y_assign rfl) ?_
      refine Run.nil ?_
      refine Run.nT ?_
      refine Run.drop 16 rfl ?_
      refine Run.round (k + 1, v73) ?_ ?_ ?_ ?_
      · show k + 1 ≤ 2 ^ h; omega
      · show 2 ^ h - (k + 1) < 2 ^ h - k; omega
      · dsimp only
        rw [lvs_succ]
        rfl
      · exact (Incl.same (t := 0) rfl (Incl.same (t := 1) rfl (Incl.same (t := 2) rfl (Incl.same (t := 4) rfl (Incl.same (t := 5) rfl (Incl.same (t := 13) rfl (Incl.same (t := 3) rfl (Incl.same (t := 14) rfl (Incl.int (t := 15) rfl (by omega) Incl.nil)))))))))
  · obtain rfl : k = 2 ^ h := by have := of_decide_eq_false hb; omega
    refine Run.freeze (K := Kd) (l := lvs f sd (2 ^ h)) 14 14 rfl rfl ?_
    have hLl := lvs_len f sd (2 ^ h)
    have hLi := lvs_in hf sd (N := 2 ^ h) (by omega)
    generalize lvs f sd (2 ^ h) = L at hLl hLi ⊢
    have hTl : (lev f (h - c) L).length = 2 ^ c := by rw [lev_len hLl (by omega), show h - (h - c) = c by omega]
    have hTi := lev_in hf hLi (h - c)
    have hc16 : 2 ^ c ≤ 2 ^ 4 := Nat.pow_le_pow_right (by decide) (by omega)
    refine Run.exit ?_
    refine Run.eT ?_
    refine Run.eT ?_
    refine Run.eB ?_
    refine Run.nT ?_
    refine Run.seq ?_
    refine Run.region ?_
    refine Run.op rfl rfl rfl (y_move rfl) ?_
    refine Run.op rfl rfl rfl (y_move rfl) ?_
    refine Run.op rfl rfl rfl (y_move rfl) ?_
    refine Run.op rfl rfl rfl (q_call en13 rfl (levels_fn s f hf h c hc (by omega) L hLl hLi)) ?_
    refine Run.op rfl rfl rfl (y_assign rfl) ?_
    refine Run.nil ?_
    refine Run.nT ?_
    refine Run.seq ?_
    refine Run.region ?_
    refine Run.op rfl rfl rfl (y_move rfl) ?_
    refine Run.op rfl rfl rfl (y_move rfl) ?_
    refine Run.op rfl rfl rfl (y_move rfl) ?_
    refine Run.op rfl rfl rfl (q_call en14 rfl (build_fn s f hf h c hc (by omega) L hLl hLi)) ?_
    refine Run.op rfl rfl rfl (y_move rfl) ?_
    refine Run.op rfl rfl rfl (y_extract rfl rfl) ?_
    refine Run.op rfl rfl rfl (y_extract rfl rfl) ?_
    refine q_alloc ti46 rfl rfl ?_
    intro b19
    refine Run.storeW 19 rfl rfl rfl ti46.siz rfl ?_
    refine Run.op rfl rfl rfl (y_assign rfl) ?_
    refine Run.nil ?_
    refine Run.nT ?_
    refine Run.seq ?_
    refine Run.seq ?_
    refine Run.region ?_
    refine Run.op rfl rfl rfl (y_move rfl) ?_
    refine Run.op rfl rfl rfl (Yields.bool (c := false) (y_neq rfl rfl) (by decide)) ?_
    refine Run.op rfl rfl rfl (y_move rfl) ?_
    refine Run.opG rfl rfl rfl rfl rfl (y_loadPW 19 rfl rfl Tryd.underlying46 rfl ti46.siz) ?_
    refine Run.opG rfl rfl rfl rfl rfl (y_move rfl) ?_
    refine Run.opG rfl rfl rfl rfl rfl (Yields.bool (c := true) (q_call en15 rfl (grown_fn s f h c (lvls f (h - c) L) (okT_lvls hf hc (by omega) hLl hLi))) (rfl)) ?_
    refine Run.opG rfl rfl rfl rfl rfl (y_not rfl) ?_
    refine Run.op rfl rfl rfl (y_pickF rfl rfl) ?_
    refine Run.op rfl rfl rfl (y_move rfl) ?_
    refine Run.opG rfl rfl rfl rfl rfl (y_loadPW 19 rfl rfl Tryd.underlying46 rfl ti46.siz) ?_
    refine Run.opG rfl rfl rfl rfl rfl (Yields.bool (c := true) (q_call en16 rfl (tvalid_fn s f h c (lvls f (h - c) L) (okT_lvls hf hc (by omega) hLl hLi))) (rfl)) ?_
    refine Run.opG rfl rfl rfl rfl rfl (y_not rfl) ?_
    refine Run.op rfl rfl rfl (y_pickF rfl rfl) ?_
    refine Run.nil ?_
    refine Run.nT ?_
    refine Run.cond0 rfl ?_
    refine Run.skip ?_
    refine Run.nT ?_
    refine Run.seq ?_
    refine Run.region ?_
    refine Run.op rfl rfl rfl (y_move rfl) ?_
    refine Run.op rfl rfl rfl (y_move rfl) ?_
    refine Run.op rfl rfl rfl (y_lenS rfl Tryd.underlying43) ?_
    refine Run.op rfl rfl rfl (y_sub (r := ((h - c : Nat) : Int)) rfl rfl (by rw [lvls_len, wI_in (by omega)]; omega)) ?_
    refine Run.op rfl rfl rfl (q_index (h - c) (lev f (h - c) L) rfl rfl Tryd.underlying43 ti40 (fun _ => rfl) (rfl) (by rw [getD_some [] (by rw [lvls_len]; omega), lvls_get (Nat.le_refl _)])) ?_
    refine Run.op rfl rfl rfl (y_load rfl Tryd.underlying40 rfl) ?_
    refine Run.op rfl rfl rfl (y_assign rfl) ?_
    refine Run.nil ?_
    refine Run.nT ?_
    refine Run.seq ?_
    refine Run.seq ?_
    refine Run.region ?_
    refine Run.op rfl rfl rfl (y_assign rfl) ?_
    refine Run.nil ?_
    refine Run.nT ?_
    refine Run.block ?_
    refine Run.loop (ι := Nat) (fun i => i ≤ L.length) (fun i => L.length - i) (fun i => [(19, .blk b19 46 (Kt f h c (lvls f (h - c) L)))]) (fun i => [(0, i64 f), (1, i64 h), (2, i64 c), (4, u8 at_), (5, u8 by_), (13, u64 (fP f)), (14, slc Kd L), (18, slc Kl (lvls f (h - c) L)), (19, sval (.pointer (some ⟨b19, 0, none⟩))), (21, slc Kd (lev f (h - c) L)), (22, i64 i)]) 0 (by omega) rfl (Incl.same (t := 0) rfl (Incl.same (t := 1) rfl (Incl.same (t := 2) rfl (Incl.same (t := 4) rfl (Incl.same (t := 5) rfl (Incl.same (t := 13) rfl (Incl.same (t := 14) rfl (Incl.same (t := 18) rfl (Incl.same (t := 19) rfl (Incl.same (t := 21) rfl (Incl.same (t := 22) rfl Incl.nil))))))))))) ?_
    rintro i hiL0
    change Run _ _ [(19, .blk b19 46 (Kt f h c (lvls f (h - c) L)))] [(0, i64 f), (1, i64 h), (2, i64 c), (4, u8 at_), (5, u8 by_), (13, u64 (fP f)), (14, slc Kd L), (18, slc Kl (lvls f (h - c) L)), (19, sval (.pointer (some ⟨b19, 0, none⟩))), (21, slc Kd (lev f (h - c) L)), (22, i64 i)] _
    refine Run.seq ?_
    refine Run.seq ?_
    refine Run.region ?_
    refine Run.op rfl rfl rfl (y_move rfl) ?_
    refine Run.op rfl rfl rfl (y_move rfl) ?_
    refine Run.op rfl rfl rfl (y_lenS rfl Tryd.underlying40) ?_
    refine Run.op rfl rfl rfl (y_lss rfl rfl) ?_
    refine Run.nil ?_
    refine Run.nT ?_
    refine Run.cond rfl (fun hb => ?_) (fun hb => ?_)
    · have hiL : i < L.length := by have := of_decide_eq_true hb; omega
      have hi : i < 2 ^ h := by omega
      have hxi := inL_get hLi hiL
      obtain ⟨hx1, hx2⟩ := hxi
      have hxi := inL_get hLi hiL
      have hpl := pth_len (lvls f (h - c) L) i (h - c)
      have hPi := pth_in (okT_lvls hf hc (by omega) hLl hLi) hi
      have hlt0 : i / 2 ^ (h - c) < (lev f (h - c) L).length := by rw [hTl]; have := div_pow_lt (m := h - c) hi (by omega); rwa [show h - (h - c) = c by omega] at this
      have hlt : i / 2 ^ (pth (lvls f (h - c) L) i (h - c)).length < (lev f (h - c) L).length := by rw [hpl]; exact hlt0
      have hcp : climb f i (L.getD i (0, 0)) (pth (lvls f (h - c) L) i (h - c)) = (lev f (h - c) L).getD (i / 2 ^ (pth (lvls f (h - c) L) i (h - c)).length) (0, 0) := by rw [hpl]; exact climb_pth hLl (by omega) hi
      have hcp0 : climb f i (L.getD i (0, 0)) (pth (lvls f (h - c) L) i (h - c)) = (lev f (h - c) L).getD (i / 2 ^ (h - c)) (0, 0) := climb_pth hLl (by omega) hi
      have hno : ¬ (i + L.length) / 2 ^ (pth (lvls f (h - c) L) i (h - c)).length < (lev f (h - c) L).length := by rw [hpl, hTl, hLl]; intro hh; have h1 := (Nat.div_lt_iff_lt_mul (Nat.pow_pos (by decide))).1 hh; rw [← Nat.pow_add, show c + (h - c) = h by omega] at h1; omega
      have ho : inD (fP f) (oth f by_ (L.getD i (0, 0)).1, (L.getD i (0, 0)).2) := ⟨oth_in hf by_ _, hx2⟩
      have hmod : 0 ≤ (by_ : Int) % (fP f - 1) ∧ (by_ : Int) % (fP f - 1) < fP f - 1 := em_lt (by omega) _
      refine Run.skip ?_
      refine Run.nT ?_
      refine Run.seq ?_
      refine Run.block ?_
      refine Run.seq ?_
      refine Run.region ?_
      refine Run.op rfl rfl rfl (y_assign rfl) ?_
      refine q_nilRow 23 (Kd) 42 2 ?_
      refine Run.nil ?_
      refine Run.nT ?_
      refine Run.seq ?_
      refine Run.seq ?_
      refine Run.region ?_
      refine Run.op rfl rfl rfl (y_assign rfl) ?_
      refine Run.nil ?_
      refine Run.nT ?_
      refine Run.block ?_
      refine Run.loop (ι := Nat × Value) (fun ⟨j, u⟩ => j ≤ h - c) (fun ⟨j, u⟩ => h - c - j) (fun ⟨j, u⟩ => [(23, Ent.rows Kd u 42 2 (pth (lvls f (h - c) L) i j)), (19, .blk b19 46 (Kt f h c (lvls f (h - c) L)))]) (fun ⟨j, u⟩ => [(0, i64 f), (1, i64 h), (2, i64 c), (4, u8 at_), (5, u8 by_), (13, u64 (fP f)), (14, slc Kd L), (18, slc Kl (lvls f (h - c) L)), (19, sval (.pointer (some ⟨b19, 0, none⟩))), (21, slc Kd (lev f (h - c) L)), (22, i64 i), (23, sval u), (24, i64 j)]) (0, .slice none 0 0) (by omega) rfl (Incl.same (t := 0) rfl (Incl.same (t := 1) rfl (Incl.same (t := 2) rfl (Incl.same (t := 4) rfl (Incl.same (t := 5) rfl (Incl.same (t := 13) rfl (Incl.same (t := 14) rfl (Incl.same (t := 18) rfl (Incl.same (t := 19) rfl (Incl.same (t := 21) rfl (Incl.same (t := 22) rfl (Incl.same (t := 23) rfl (Incl.same (t := 24) rfl Incl.nil))))))))))))) ?_
      rintro ⟨j, u⟩ hj
      change Run _ _ [(23, Ent.rows Kd u 42 2 (pth (lvls f (h - c) L) i j)), (19, .blk b19 46 (Kt f h c (lvls f (h - c) L)))] [(0, i64 f), (1, i64 h), (2, i64 c), (4, u8 at_), (5, u8 by_), (13, u64 (fP f)), (14, slc Kd L), (18, slc Kl (lvls f (h - c) L)), (19, sval (.pointer (some ⟨b19, 0, none⟩))), (21, slc Kd (lev f (h - c) L)), (22, i64 i), (23, sval u), (24, i64 j)] _
      refine Run.seq ?_
      refine Run.seq ?_
      refine Run.region ?_
      refine Run.op rfl rfl rfl (y_move rfl) ?_
      refine Run.op rfl rfl rfl (y_move rfl) ?_
      refine Run.op rfl rfl rfl (y_move rfl) ?_
      refine Run.op rfl rfl rfl (y_sub (r := ((h - c : Nat) : Int)) rfl rfl (sub_nat hc (by omega))) ?_
      refine Run.op rfl rfl rfl (y_lss rfl rfl) ?_
      refine Run.nil ?_
      refine Run.nT ?_
      refine Run.cond rfl (fun hb => ?_) (fun hb => ?_)
      · have hjc : j < h - c := by have := of_decide_eq_true hb; omega
        have hdj : i / 2 ^ j ≤ i := Nat.div_le_self _ _
        have hxl : i / 2 ^ j ^^^ 1 < ((lvls f (h - c) L).getD j []).length := by rw [lvls_get (by omega), lev_len hLl (by omega)]; exact xor_one_lt (div_pow_lt hi (by omega)) (by omega)
        refine Run.skip ?_
        refine Run.nT ?_
        refine Run.seq ?_
        refine Run.block ?_
        refine Run.weaken (Incl.same (t := 0) rfl (Incl.same (t := 1) rfl (Incl.same (t := 2) rfl (Incl.same (t := 4) rfl (Incl.same (t := 5) rfl (Incl.same (t := 13) rfl (Incl.same (t := 14) rfl (Incl.same (t := 18) rfl (Incl.same (t := 19) rfl (Incl.same (t := 21) rfl (Incl.same (t := 22) rfl (Incl.same (t := 23) rfl (Incl.same (t := 24) rfl Incl.nil))))))))))))) ?_
        refine q_draw ?_ rfl
        refine Draw.step rfl rfl rfl (StepOk.op rfl rfl rfl (y_move rfl)) rfl ?_
        refine Draw.step rfl rfl rfl (StepOk.op rfl rfl rfl (y_move rfl)) rfl ?_
        refine Draw.step rfl rfl rfl (StepOk.op rfl rfl rfl (y_move rfl)) rfl ?_
        refine Draw.step rfl rfl rfl (StepOk.op rfl rfl rfl (q_index j ((lvls f (h - c) L).getD j []) rfl rfl Tryd.underlying43 ti40 (fun _ => rfl) (rfl) (getD_some _ (by rw [lvls_len]; omega)))) rfl ?_
        refine Draw.step rfl rfl rfl (StepOk.op rfl rfl rfl (y_load rfl Tryd.underlying40 rfl)) rfl ?_
        refine Draw.step rfl rfl rfl (StepOk.op rfl rfl rfl (y_move rfl)) rfl ?_
        refine Draw.step rfl rfl rfl (StepOk.op rfl rfl rfl (y_move rfl)) rfl ?_
        refine Draw.step rfl rfl rfl (StepOk.op rfl rfl rfl (y_shr rfl rfl (by omega) (shr_nat (by omega)))) rfl ?_
        refine Draw.step rfl rfl rfl (StepOk.op rfl rfl rfl (y_xor rfl rfl (xor_one (by omega)))) rfl ?_
        refine Draw.step rfl rfl rfl (StepOk.op rfl rfl rfl (q_index (i / 2 ^ j ^^^ 1) (((lvls f (h - c) L).getD j []).getD (i / 2 ^ j ^^^ 1) (0, 0)) rfl rfl Tryd.underlying40 ti42 (fun _ => rfl) (rfl) (getD_some _ hxl))) rfl ?_
        refine Draw.step rfl rfl rfl (StepOk.op rfl rfl rfl (y_loadW rfl Tryd.underlying42 rfl ti42.siz)) rfl ?_
        refine Draw.step rfl rfl rfl (StepOk.op rfl rfl rfl (q_buildL (K := Kd) ([((lvls f (h - c) L).getD j []).getD (i / 2 ^ j ^^^ 1) (0, 0)]) Tryd.underlying40 ti42 rfl rfl rfl (.cons rfl (Part.agg rfl) rfl .nil) rfl)) rfl ?_
        refine Draw.tail (m := 12) rfl rfl rfl ?_
        refine q_append 23 rfl rfl rfl Tryd.underlying40 ti42 rfl rfl (fun _ => rfl) (by rw [pth_len]; simp; omega) rfl ?_
        intro v129
        refine Run.op rfl rfl rfl (y_assign rfl) ?_
        refine Run.nil ?_
        refine Run.nB ?_
        refine Run.nT ?_
        refine Run.region ?_
        refine Run.op rfl rfl rfl (y_move rfl) ?_
        refine Run.op rfl rfl rfl (y_add rfl rfl (by first | exact wI_in (by omega) | rfl)) ?_
        refine Run.op rfl rfl rfl (y_assign rfl) ?_
        refine Run.nil ?_
        refine Run.nT ?_
        refine Run.round (j + 1, v129) ?_ ?_ ?_ ?_
        · show j + 1 ≤ h - c; omega
        · show h - c - (j + 1) < h - c - j; omega
        · dsimp only
          rw [pth_succ]
          rfl
        · exact (Incl.same (t := 0) rfl (Incl.same (t := 1) rfl (Incl.same (t := 2) rfl (Incl.same (t := 4) rfl (Incl.same (t := 5) rfl (Incl.same (t := 13) rfl (Incl.same (t := 14) rfl (Incl.same (t := 18) rfl (Incl.same (t := 19) rfl (Incl.same (t := 21) rfl (Incl.same (t := 22) rfl (Incl.same (t := 23) rfl (Incl.int (t := 24) rfl (by omega) Incl.nil)))))))))))))
      · obtain rfl : j = h - c := by have := of_decide_eq_false hb; omega
        refine Run.freeze (K := Kd) (l := pth (lvls f (h - c) L) i (h - c)) 23 23 rfl rfl ?_
        refine Run.exit ?_
        refine Run.eT ?_
        refine Run.eT ?_
        refine Run.eB ?_
        refine Run.nT ?_
        refine Run.seq ?_
        refine Run.region ?_
        refine Run.op rfl rfl rfl (y_loadPW 19 rfl rfl Tryd.underlying46 rfl ti46.siz) ?_
        refine Run.op rfl rfl rfl (y_move rfl) ?_
        refine Run.op rfl rfl rfl (q_call en17 rfl (path_fn s f h c (lvls f (h - c) L) (okT_lvls hf hc (by omega) hLl hLi) i hi)) ?_
        refine Run.op rfl rfl rfl (y_move rfl) ?_
        refine Run.op rfl rfl rfl (y_extract rfl rfl) ?_
        refine Run.op rfl rfl rfl (y_extract rfl rfl) ?_
        refine Run.op rfl rfl rfl (y_assign rfl) ?_
        refine Run.op rfl rfl rfl (y_assign rfl) ?_
        refine Run.nil ?_
        refine Run.nT ?_
        refine Run.seq ?_
        refine Run.seq ?_
        refine Run.weaken (Incl.same (t := 0) rfl (Incl.same (t := 1) rfl (Incl.same (t := 2) rfl (Incl.same (t := 4) rfl (Incl.same (t := 5) rfl (Incl.same (t := 13) rfl (Incl.same (t := 14) rfl (Incl.same (t := 18) rfl (Incl.same (t := 19) rfl (Incl.same (t := 21) rfl (Incl.same (t := 22) rfl (Incl.same (t := 23) rfl (Incl.same (t := 24) rfl (Incl.same (t := 25) rfl (Incl.same (t := 26) rfl Incl.nil))))))))))))))) ?_
        refine q_draw ?_ rfl
        refine Draw.step rfl rfl rfl (StepOk.op rfl rfl rfl (y_move rfl)) rfl ?_
        refine Draw.step rfl rfl rfl (StepOk.op rfl rfl rfl (Yields.bool (c := false) (y_neq rfl rfl) (by decide))) rfl ?_
        refine Draw.step rfl rfl rfl (StepOk.op rfl rfl rfl (y_move rfl)) rfl ?_
        refine Draw.step rfl rfl rfl (StepOk.opG rfl rfl rfl rfl rfl (y_move rfl)) rfl ?_
        refine Draw.step rfl rfl rfl (StepOk.opG rfl rfl rfl rfl rfl (y_move rfl)) rfl ?_
        refine Draw.step rfl rfl rfl (StepOk.opG rfl rfl rfl rfl rfl (Yields.bool (c := true) (q_call en18 rfl (same_fn s (pth (lvls f (h - c) L) i (h - c)) (pth (lvls f (h - c) L) i (h - c)) (by omega))) (decide_eq_true rfl))) rfl ?_
        refine Draw.step rfl rfl rfl (StepOk.opG rfl rfl rfl rfl rfl (y_not rfl)) rfl ?_
        refine Draw.step rfl rfl rfl (StepOk.op rfl rfl rfl (y_pickF rfl rfl)) rfl ?_
        refine Draw.step rfl rfl rfl (StepOk.op rfl rfl rfl (y_move rfl)) rfl ?_
        refine Draw.step rfl rfl rfl (StepOk.opG rfl rfl rfl rfl rfl (y_move rfl)) rfl ?_
        refine Draw.step rfl rfl rfl (StepOk.opG rfl rfl rfl rfl rfl (y_move rfl)) rfl ?_
        refine Draw.step rfl rfl rfl (StepOk.opG rfl rfl rfl rfl rfl (y_move rfl)) rfl ?_
        refine Draw.step rfl rfl rfl (StepOk.opG rfl rfl rfl rfl rfl (y_move rfl)) rfl ?_
        refine Draw.step rfl rfl rfl (StepOk.opG rfl rfl rfl rfl rfl (q_index i (L.getD i (0, 0)) rfl rfl Tryd.underlying40 ti42 (fun _ => rfl) (rfl) (getD_some _ hiL))) rfl ?_
        refine Draw.step rfl rfl rfl (StepOk.opG rfl rfl rfl rfl rfl (y_loadW rfl Tryd.underlying42 rfl ti42.siz)) rfl ?_
        refine Draw.step rfl rfl rfl (StepOk.opG rfl rfl rfl rfl rfl (y_move rfl)) rfl ?_
        refine Draw.step rfl rfl rfl (StepOk.opG rfl rfl rfl rfl rfl (q_call en19 rfl (climbed_fn s f hf i (by omega) (L.getD i (0, 0)) hxi (pth (lvls f (h - c) L) i (h - c)) (by omega) hPi))) rfl ?_
        refine Draw.step rfl rfl rfl (StepOk.opG rfl rfl rfl rfl rfl (y_move rfl)) rfl ?_
        refine Draw.step rfl rfl rfl (StepOk.opG rfl rfl rfl rfl rfl (y_move rfl)) rfl ?_
        refine Draw.step rfl rfl rfl (StepOk.opG rfl rfl rfl rfl rfl (y_move rfl)) rfl ?_
        refine Draw.step rfl rfl rfl (StepOk.opG rfl rfl rfl rfl rfl (y_move rfl)) rfl ?_
        refine Draw.step rfl rfl rfl (StepOk.opG rfl rfl rfl rfl rfl (y_sub (r := ((h - c : Nat) : Int)) rfl rfl (sub_nat hc (by omega)))) rfl ?_
        refine Draw.step rfl rfl rfl (StepOk.opG rfl rfl rfl rfl rfl (y_shr rfl rfl (by omega) (shr_nat (by omega)))) rfl ?_
        refine Draw.step rfl rfl rfl (StepOk.opG rfl rfl rfl rfl rfl (q_index (i / 2 ^ (h - c)) ((lev f (h - c) L).getD (i / 2 ^ (h - c)) (0, 0)) rfl rfl Tryd.underlying40 ti42 (fun _ => rfl) (rfl) (getD_some _ hlt0))) rfl ?_
        refine Draw.step rfl rfl rfl (StepOk.opG rfl rfl rfl rfl rfl (y_loadW rfl Tryd.underlying42 rfl ti42.siz)) rfl ?_
        refine Draw.step rfl rfl rfl (StepOk.opG rfl rfl rfl rfl rfl (Yields.bool (c := false) (y_neD rfl rfl rfl) (by rw [hcp0]; simp))) rfl ?_
        refine Draw.step rfl rfl rfl (StepOk.op rfl rfl rfl (y_pickF rfl rfl)) rfl ?_
        refine Draw.step rfl rfl rfl (StepOk.op rfl rfl rfl (y_move rfl)) rfl ?_
        refine Draw.step rfl rfl rfl (StepOk.opG rfl rfl rfl rfl rfl (y_move rfl)) rfl ?_
        refine Draw.step rfl rfl rfl (StepOk.opG rfl rfl rfl rfl rfl (y_move rfl)) rfl ?_
        refine Draw.step rfl rfl rfl (StepOk.opG rfl rfl rfl rfl rfl (y_move rfl)) rfl ?_
        refine Draw.step rfl rfl rfl (StepOk.opG rfl rfl rfl rfl rfl (y_move rfl)) rfl ?_
        refine Draw.step rfl rfl rfl (StepOk.opG rfl rfl rfl rfl rfl (y_move rfl)) rfl ?_
        refine Draw.step rfl rfl rfl (StepOk.opG rfl rfl rfl rfl rfl (q_index i (L.getD i (0, 0)) rfl rfl Tryd.underlying40 ti42 (fun _ => rfl) (rfl) (getD_some _ hiL))) rfl ?_
        refine Draw.step rfl rfl rfl (StepOk.opG rfl rfl rfl rfl rfl (y_loadW rfl Tryd.underlying42 rfl ti42.siz)) rfl ?_
        refine Draw.step rfl rfl rfl (StepOk.opG rfl rfl rfl rfl rfl (y_move rfl)) rfl ?_
        refine Draw.step rfl rfl rfl (StepOk.opG rfl rfl rfl rfl rfl (Yields.bool (c := true) (q_call en20 rfl (check_fn s f hf (pth (lvls f (h - c) L) i (h - c)) (by omega) i (by omega) (lev f (h - c) L) c hTl (by omega) hTi (L.getD i (0, 0)) hxi hPi)) (chk_yes hlt hcp))) rfl ?_
        refine Draw.step rfl rfl rfl (StepOk.opG rfl rfl rfl rfl rfl (y_not rfl)) rfl ?_
        refine Draw.step rfl rfl rfl (StepOk.op rfl rfl rfl (y_pickF rfl rfl)) rfl ?_
        refine Draw.step rfl rfl rfl (StepOk.op rfl rfl rfl (y_move rfl)) rfl ?_
        refine Draw.step rfl rfl rfl (StepOk.opG rfl rfl rfl rfl rfl (y_move rfl)) rfl ?_
        refine Draw.step rfl rfl rfl (StepOk.opG rfl rfl rfl rfl rfl (y_move rfl)) rfl ?_
        refine Draw.step rfl rfl rfl (StepOk.opG rfl rfl rfl rfl rfl (y_move rfl)) rfl ?_
        refine Draw.step rfl rfl rfl (StepOk.opG rfl rfl rfl rfl rfl (y_move rfl)) rfl ?_
        refine Draw.step rfl rfl rfl (StepOk.opG rfl rfl rfl rfl rfl (y_lenS rfl Tryd.underlying40)) rfl ?_
        refine Draw.step rfl rfl rfl (StepOk.opG rfl rfl rfl rfl rfl (y_add (r := ((i + L.length : Nat) : Int)) rfl rfl (by rw [wI_in (by omega)]; omega))) rfl ?_
        refine Draw.step rfl rfl rfl (StepOk.opG rfl rfl rfl rfl rfl (y_move rfl)) rfl ?_
        refine Draw.step rfl rfl rfl (StepOk.opG rfl rfl rfl rfl rfl (y_move rfl)) rfl ?_
        refine Draw.step rfl rfl rfl (StepOk.opG rfl rfl rfl rfl rfl (q_index i (L.getD i (0, 0)) rfl rfl Tryd.underlying40 ti42 (fun _ => rfl) (rfl) (getD_some _ hiL))) rfl ?_
        refine Draw.step rfl rfl rfl (StepOk.opG rfl rfl rfl rfl rfl (y_loadW rfl Tryd.underlying42 rfl ti42.siz)) rfl ?_
        refine Draw.step rfl rfl rfl (StepOk.opG rfl rfl rfl rfl rfl (y_move rfl)) rfl ?_
        refine Draw.step rfl rfl rfl (StepOk.opG rfl rfl rfl rfl rfl (Yields.bool (c := false) (q_call en20 rfl (check_fn s f hf (pth (lvls f (h - c) L) i (h - c)) (by omega) (i + L.length) (by omega) (lev f (h - c) L) c hTl (by omega) hTi (L.getD i (0, 0)) hxi hPi)) (chk_no hno))) rfl ?_
        refine Draw.step rfl rfl rfl (StepOk.op rfl rfl rfl (y_pickF rfl rfl)) rfl ?_
        refine Draw.tail (m := 53) rfl rfl rfl ?_
        refine Run.nil ?_
        refine Run.nT ?_
        refine Run.cond0 rfl ?_
        refine Run.skip ?_
        refine Run.nT ?_
        refine Run.seq ?_
        refine Run.weaken (Incl.same (t := 0) rfl (Incl.same (t := 1) rfl (Incl.same (t := 2) rfl (Incl.same (t := 4) rfl (Incl.same (t := 5) rfl (Incl.same (t := 13) rfl (Incl.same (t := 14) rfl (Incl.same (t := 18) rfl (Incl.same (t := 19) rfl (Incl.same (t := 21) rfl (Incl.same (t := 22) rfl (Incl.same (t := 23) rfl (Incl.same (t := 24) rfl (Incl.same (t := 25) rfl (Incl.same (t := 26) rfl Incl.nil))))))))))))))) ?_
        refine q_draw2 ⟨20, 27, 42, zeros (.agg #[.int .u64 0, .int .u64 0])⟩ ?_ rfl
        refine Draw2.step rfl rfl rfl ⟨StepOk.op rfl rfl rfl (y_move rfl), fun _ => StepOk.op rfl rfl rfl (y_move rfl)⟩ rfl rfl ?_
        refine Draw2.step rfl rfl rfl ⟨StepOk.op rfl rfl rfl (y_move rfl), fun _ => StepOk.op rfl rfl rfl (y_move rfl)⟩ rfl rfl ?_
        refine Draw2.step rfl rfl rfl ⟨StepOk.op rfl rfl rfl (q_index i (L.getD i (0, 0)) rfl rfl Tryd.underlying40 ti42 (fun _ => rfl) (rfl) (getD_some _ hiL)), fun _ => StepOk.op rfl rfl rfl (q_index i (L.getD i (0, 0)) rfl rfl Tryd.underlying40 ti42 (fun _ => rfl) (rfl) (getD_some _ hiL))⟩ rfl rfl ?_
        refine Draw2.step rfl rfl rfl ⟨StepOk.op rfl rfl rfl (y_indexL (j := 0) rfl rfl Tryd.underlying42 ti33.siz rfl rfl), fun _ => StepOk.op rfl rfl rfl (y_indexL (j := 0) rfl rfl Tryd.underlying42 ti33.siz rfl rfl)⟩ rfl rfl ?_
        refine Draw2.step rfl rfl rfl ⟨StepOk.op rfl rfl rfl (y_load rfl Tryd.underlying33 rfl), fun _ => StepOk.op rfl rfl rfl (y_load rfl Tryd.underlying33 rfl)⟩ rfl rfl ?_
        refine Draw2.step rfl rfl rfl ⟨StepOk.op rfl rfl rfl (y_add rfl rfl (by first | exact wU_in (by omega) | rfl)), fun _ => StepOk.op rfl rfl rfl (y_add rfl rfl (by first | exact wU_in (by omega) | rfl))⟩ rfl rfl ?_
        refine Draw2.step rfl rfl rfl ⟨StepOk.op rfl rfl rfl (y_move rfl), fun _ => StepOk.op rfl rfl rfl (y_move rfl)⟩ rfl rfl ?_
        refine Draw2.step rfl rfl rfl ⟨StepOk.op rfl rfl rfl (y_conv Tryd.underlying5 Tryd.underlying33 rfl (by first | exact wU_in (by omega) | rfl)), fun _ => StepOk.op rfl rfl rfl (y_conv Tryd.underlying5 Tryd.underlying33 rfl (by first | exact wU_in (by omega) | rfl))⟩ rfl rfl ?_
        refine Draw2.step rfl rfl rfl ⟨StepOk.op rfl rfl rfl (y_move rfl), fun _ => StepOk.op rfl rfl rfl (y_move rfl)⟩ rfl rfl ?_
        refine Draw2.step rfl rfl rfl ⟨StepOk.op rfl rfl rfl (y_sub rfl rfl (by first | exact wU_in (by omega) | rfl)), fun _ => StepOk.op rfl rfl rfl (y_sub rfl rfl (by first | exact wU_in (by omega) | rfl))⟩ rfl rfl ?_
        refine Draw2.step rfl rfl rfl ⟨StepOk.op rfl rfl rfl (y_rem rfl rfl (by omega) (by first | exact tmod_of (by omega) | rfl)), fun _ => StepOk.op rfl rfl rfl (y_rem rfl rfl (by omega) (by first | exact tmod_of (by omega) | rfl))⟩ rfl rfl ?_
        refine Draw2.step rfl rfl rfl ⟨StepOk.op rfl rfl rfl (y_add rfl rfl (by first | exact wU_in (by omega) | rfl)), fun _ => StepOk.op rfl rfl rfl (y_add rfl rfl (by first | exact wU_in (by omega) | rfl))⟩ rfl rfl ?_
        refine Draw2.step rfl rfl rfl ⟨StepOk.op rfl rfl rfl (y_move rfl), fun _ => StepOk.op rfl rfl rfl (y_move rfl)⟩ rfl rfl ?_
        refine Draw2.step rfl rfl rfl ⟨StepOk.op rfl rfl rfl (y_rem rfl rfl (by omega) (by first | exact tmod_of (by omega) | rfl)), fun _ => StepOk.op rfl rfl rfl (y_rem rfl rfl (by omega) (by first | exact tmod_of (by omega) | rfl))⟩ rfl rfl ?_
        refine Draw2.step rfl rfl rfl ⟨StepOk.op rfl rfl rfl (y_move rfl), fun _ => StepOk.op rfl rfl rfl (y_move rfl)⟩ rfl rfl ?_
        refine Draw2.step rfl rfl rfl ⟨StepOk.op rfl rfl rfl (y_move rfl), fun _ => StepOk.op rfl rfl rfl (y_move rfl)⟩ rfl rfl ?_
        refine Draw2.step rfl rfl rfl ⟨StepOk.op rfl rfl rfl (q_index i (L.getD i (0, 0)) rfl rfl Tryd.underlying40 ti42 (fun _ => rfl) (rfl) (getD_some _ hiL)), fun _ => StepOk.op rfl rfl rfl (q_index i (L.getD i (0, 0)) rfl rfl Tryd.underlying40 ti42 (fun _ => rfl) (rfl) (getD_some _ hiL))⟩ rfl rfl ?_
        refine Draw2.step rfl rfl rfl ⟨StepOk.op rfl rfl rfl (y_indexL (j := 1) rfl rfl Tryd.underlying42 ti33.siz rfl rfl), fun _ => StepOk.op rfl rfl rfl (y_indexL (j := 1) rfl rfl Tryd.underlying42 ti33.siz rfl rfl)⟩ rfl rfl ?_
        refine Draw2.step rfl rfl rfl ⟨StepOk.op rfl rfl rfl (y_load rfl Tryd.underlying33 rfl), fun _ => StepOk.op rfl rfl rfl (y_load rfl Tryd.underlying33 rfl)⟩ rfl rfl ?_
        refine Draw2.step rfl rfl rfl ⟨StepOk.op rfl rfl rfl (q_buildA Tryd.underlying42 ti42 rfl ti33 (.cons rfl (Part.one' rfl) rfl (.cons rfl (Part.one' rfl) rfl .nil))), fun _ => StepOk.op rfl rfl rfl (q_buildA Tryd.underlying42 ti42 rfl ti33 (.cons rfl (Part.one' rfl) rfl (.cons rfl (Part.one' rfl) rfl .nil)))⟩ rfl rfl ?_
        refine Draw2.new rfl ?_
        refine q_tail2 (m := 21) rfl rfl ti42 rfl rfl rfl rfl rfl rfl ?_
        intro b27
        refine Run.storeW 27 rfl rfl rfl ti42.siz rfl ?_
        refine Run.nil ?_
        refine Run.nT ?_
        refine Run.seq ?_
        refine Run.seq ?_
        refine Run.weaken (Incl.same (t := 0) rfl (Incl.same (t := 1) rfl (Incl.same (t := 2) rfl (Incl.same (t := 4) rfl (Incl.same (t := 5) rfl (Incl.same (t := 13) rfl (Incl.same (t := 14) rfl (Incl.same (t := 18) rfl (Incl.same (t := 19) rfl (Incl.same (t := 21) rfl (Incl.same (t := 22) rfl (Incl.same (t := 23) rfl (Incl.same (t := 24) rfl (Incl.same (t := 25) rfl (Incl.same (t := 26) rfl (Incl.same (t := 27) rfl Incl.nil)))))))))))))))) ?_
        refine q_draw ?_ rfl
        refine Draw.step rfl rfl rfl (StepOk.op rfl rfl rfl (y_move rfl)) rfl ?_
        refine Draw.step rfl rfl rfl (StepOk.op rfl rfl rfl (y_move rfl)) rfl ?_
        refine Draw.step rfl rfl rfl (StepOk.op rfl rfl rfl (y_move rfl)) rfl ?_
        refine Draw.step rfl rfl rfl (StepOk.op rfl rfl rfl (y_move rfl)) rfl ?_
        refine Draw.step rfl rfl rfl (StepOk.op rfl rfl rfl (y_move rfl)) rfl ?_
        refine Draw.step rfl rfl rfl (StepOk.op rfl rfl rfl (q_index i (L.getD i (0, 0)) rfl rfl Tryd.underlying40 ti42 (fun _ => rfl) (rfl) (getD_some _ hiL))) rfl ?_
        refine Draw.step rfl rfl rfl (StepOk.op rfl rfl rfl (y_loadW rfl Tryd.underlying42 rfl ti42.siz)) rfl ?_
        refine Draw.step rfl rfl rfl (StepOk.op rfl rfl rfl (y_loadPW 27 rfl rfl Tryd.underlying42 rfl ti42.siz)) rfl ?_
        refine Draw.step rfl rfl rfl (StepOk.op rfl rfl rfl (y_move rfl)) rfl ?_
        refine Draw.step rfl rfl rfl (StepOk.op rfl rfl rfl (y_move rfl)) rfl ?_
        refine Draw.step rfl rfl rfl (StepOk.op rfl rfl rfl (Yields.bool (c := true) (q_call en21 rfl (forged_fn s f hf i (by omega) (lev f (h - c) L) c hTl hTi (L.getD i (0, 0)) (oth f by_ (L.getD i (0, 0)).1, (L.getD i (0, 0)).2) hxi ho (pth (lvls f (h - c) L) i (h - c)) (pth (lvls f (h - c) L) i (h - c)) (by omega) hPi rfl hPi hlt hcp)) (rfl))) rfl ?_
        refine Draw.step rfl rfl rfl (StepOk.op rfl rfl rfl (y_not rfl)) rfl ?_
        refine Draw.step rfl rfl rfl (StepOk.op rfl rfl rfl (y_move rfl)) rfl ?_
        refine Draw.step rfl rfl rfl (StepOk.opG rfl rfl rfl rfl rfl (y_move rfl)) rfl ?_
        refine Draw.step rfl rfl rfl (StepOk.opG rfl rfl rfl rfl rfl (y_move rfl)) rfl ?_
        refine Draw.step rfl rfl rfl (StepOk.opG rfl rfl rfl rfl rfl (y_move rfl)) rfl ?_
        refine Draw.step rfl rfl rfl (StepOk.opG rfl rfl rfl rfl rfl (y_move rfl)) rfl ?_
        refine Draw.step rfl rfl rfl (StepOk.opG rfl rfl rfl rfl rfl (y_move rfl)) rfl ?_
        refine Draw.step rfl rfl rfl (StepOk.opG rfl rfl rfl rfl rfl (q_index i (L.getD i (0, 0)) rfl rfl Tryd.underlying40 ti42 (fun _ => rfl) (rfl) (getD_some _ hiL))) rfl ?_
        refine Draw.step rfl rfl rfl (StepOk.opG rfl rfl rfl rfl rfl (y_loadW rfl Tryd.underlying42 rfl ti42.siz)) rfl ?_
        refine Draw.step rfl rfl rfl (StepOk.opG rfl rfl rfl rfl rfl (y_move rfl)) rfl ?_
        refine Draw.step rfl rfl rfl (StepOk.opG rfl rfl rfl rfl rfl (y_move rfl)) rfl ?_
        refine Draw.step rfl rfl rfl (StepOk.opG rfl rfl rfl rfl rfl (q_index i (L.getD i (0, 0)) rfl rfl Tryd.underlying40 ti42 (fun _ => rfl) (rfl) (getD_some _ hiL))) rfl ?_
        refine Draw.step rfl rfl rfl (StepOk.opG rfl rfl rfl rfl rfl (y_loadW rfl Tryd.underlying42 rfl ti42.siz)) rfl ?_
        refine Draw.step rfl rfl rfl (StepOk.opG rfl rfl rfl rfl rfl (y_move rfl)) rfl ?_
        refine Draw.step rfl rfl rfl (StepOk.opG rfl rfl rfl rfl rfl (y_move rfl)) rfl ?_
        refine Draw.step rfl rfl rfl (StepOk.opG rfl rfl rfl rfl rfl (Yields.bool (c := true) (q_call en21 rfl (forged_fn s f hf i (by omega) (lev f (h - c) L) c hTl hTi (L.getD i (0, 0)) (L.getD i (0, 0)) hxi hxi (pth (lvls f (h - c) L) i (h - c)) (pth (lvls f (h - c) L) i (h - c)) (by omega) hPi rfl hPi hlt hcp)) (rfl))) rfl ?_
        refine Draw.step rfl rfl rfl (StepOk.opG rfl rfl rfl rfl rfl (y_not rfl)) rfl ?_
        refine Draw.step rfl rfl rfl (StepOk.op rfl rfl rfl (y_pickF rfl rfl)) rfl ?_
        refine Draw.tail (m := 29) rfl rfl rfl ?_
        refine Run.nil ?_
        refine Run.nT ?_
        refine Run.cond0 rfl ?_
        refine Run.skip ?_
        refine Run.nT ?_
        refine Run.seq ?_
        refine Run.seq ?_
        refine Run.region ?_
        refine Run.op rfl rfl rfl (y_move rfl) ?_
        refine Run.op rfl rfl rfl (y_lenS rfl Tryd.underlying40) ?_
        refine Run.op rfl rfl rfl (y_gtr rfl rfl) ?_
        refine Run.nil ?_
        refine Run.nT ?_
        refine Run.cond rfl (fun hb => ?_) (fun hb => ?_)
        · have hP0 : 0 < (pth (lvls f (h - c) L) i (h - c)).length := by have := of_decide_eq_true hb; omega
          have hwk : (at_ % (pth (lvls f (h - c) L) i (h - c)).length) < (pth (lvls f (h - c) L) i (h - c)).length := Nat.mod_lt _ hP0
          have hyi := inL_get hPi hwk
          obtain ⟨hy1, hy2⟩ := hyi
          have hWl : ((pth (lvls f (h - c) L) i (h - c)).set (at_ % (pth (lvls f (h - c) L) i (h - c)).length) (((pth (lvls f (h - c) L) i (h - c)).getD (at_ % (pth (lvls f (h - c) L) i (h - c)).length) (0, 0)).1, oth f by_ ((pth (lvls f (h - c) L) i (h - c)).getD (at_ % (pth (lvls f (h - c) L) i (h - c)).length) (0, 0)).2)).length = (pth (lvls f (h - c) L) i (h - c)).length := List.length_set
          have hWi : inL (fP f) ((pth (lvls f (h - c) L) i (h - c)).set (at_ % (pth (lvls f (h - c) L) i (h - c)).length) (((pth (lvls f (h - c) L) i (h - c)).getD (at_ % (pth (lvls f (h - c) L) i (h - c)).length) (0, 0)).1, oth f by_ ((pth (lvls f (h - c) L) i (h - c)).getD (at_ % (pth (lvls f (h - c) L) i (h - c)).length) (0, 0)).2)) := inL_set (x := (((pth (lvls f (h - c) L) i (h - c)).getD (at_ % (pth (lvls f (h - c) L) i (h - c)).length) (0, 0)).1, oth f by_ ((pth (lvls f (h - c) L) i (h - c)).getD (at_ % (pth (lvls f (h - c) L) i (h - c)).length) (0, 0)).2)) hPi ⟨hy1, oth_in hf by_ _⟩ _
          refine Run.seq ?_
          refine Run.region ?_
          refine q_buildR (K := Kd) ([]) Tryd.underlying40 ti42 rfl rfl rfl rfl .nil (fun _ => rfl) rfl rfl ?_
          intro v241
          refine Run.op rfl rfl rfl (y_move rfl) ?_
          refine q_append 241 rfl rfl rfl Tryd.underlying40 ti42 rfl rfl (fun _ => rfl) (by simp; omega) rfl ?_
          intro v243
          refine Run.own (t := 241) (e' := Ent.rows Kd v243 42 2 (pth (lvls f (h - c) L) i (h - c))) rfl rfl ?_
          refine Run.op rfl rfl rfl (y_assign rfl) ?_
          refine Run.nil ?_
          refine Run.nT ?_
          refine Run.seq ?_
          refine Run.weaken (Incl.same (t := 0) rfl (Incl.same (t := 1) rfl (Incl.same (t := 2) rfl (Incl.same (t := 4) rfl (Incl.same (t := 5) rfl (Incl.same (t := 13) rfl (Incl.same (t := 14) rfl (Incl.same (t := 18) rfl (Incl.same (t := 19) rfl (Incl.same (t := 21) rfl (Incl.same (t := 22) rfl (Incl.same (t := 23) rfl (Incl.same (t := 24) rfl (Incl.same (t := 25) rfl (Incl.same (t := 26) rfl (Incl.same (t := 27) rfl (Incl.same (t := 28) rfl Incl.nil))))))))))))))))) ?_
          refine q_draw ?_ rfl
          refine Draw.step rfl rfl rfl (StepOk.op rfl rfl rfl (y_move rfl)) rfl ?_
          refine Draw.step rfl rfl rfl (StepOk.op rfl rfl rfl (y_move rfl)) rfl ?_
          refine Draw.step rfl rfl rfl (StepOk.op rfl rfl rfl (y_conv Tryd.underlying5 Tryd.underlying3 rfl (by first | exact wI_in (by omega) | rfl))) rfl ?_
          refine Draw.step rfl rfl rfl (StepOk.op rfl rfl rfl (y_move rfl)) rfl ?_
          refine Draw.step rfl rfl rfl (StepOk.op rfl rfl rfl (y_lenR 241 rfl rfl Tryd.underlying40)) rfl ?_
          refine Draw.step rfl rfl rfl (StepOk.op rfl rfl rfl (y_rem (r := ((at_ % (pth (lvls f (h - c) L) i (h - c)).length : Nat) : Int)) rfl rfl (by omega) (by rw [tmod_of (by omega)]; rfl))) rfl ?_
          refine Draw.step rfl rfl rfl (StepOk.op rfl rfl rfl (y_move rfl)) rfl ?_
          refine Draw.step rfl rfl rfl (StepOk.op rfl rfl rfl (y_move rfl)) rfl ?_
          refine Draw.step rfl rfl rfl (StepOk.op rfl rfl rfl (y_conv Tryd.underlying5 Tryd.underlying3 rfl (by first | exact wI_in (by omega) | rfl))) rfl ?_
          refine Draw.step rfl rfl rfl (StepOk.op rfl rfl rfl (y_move rfl)) rfl ?_
          refine Draw.step rfl rfl rfl (StepOk.op rfl rfl rfl (y_lenR 241 rfl rfl Tryd.underlying40)) rfl ?_
          refine Draw.step rfl rfl rfl (StepOk.op rfl rfl rfl (y_rem (r := ((at_ % (pth (lvls f (h - c) L) i (h - c)).length : Nat) : Int)) rfl rfl (by omega) (by rw [tmod_of (by omega)]; rfl))) rfl ?_
          refine Draw.step rfl rfl rfl (StepOk.op rfl rfl rfl (y_indexR 241 (at_ % (pth (lvls f (h - c) L) i (h - c)).length) rfl rfl rfl Tryd.underlying40 ti42.siz (rfl) (hwk))) rfl ?_
          refine Draw.step rfl rfl rfl (StepOk.op rfl rfl rfl (y_indexRP 1 rfl rfl Tryd.underlying42 ti33.siz rfl (by decide))) rfl ?_
          refine Draw.step rfl rfl rfl (StepOk.op rfl rfl rfl (y_loadR 241 rfl rfl (fl_get2 hwk) Tryd.underlying33 rfl)) rfl ?_
          refine Draw.step rfl rfl rfl (StepOk.op rfl rfl rfl (y_add rfl rfl (by first | exact wU_in (by omega) | rfl))) rfl ?_
          refine Draw.step rfl rfl rfl (StepOk.op rfl rfl rfl (y_move rfl)) rfl ?_
          refine Draw.step rfl rfl rfl (StepOk.op rfl rfl rfl (y_conv Tryd.underlying5 Tryd.underlying33 rfl (by first | exact wU_in (by omega) | rfl))) rfl ?_
          refine Draw.step rfl rfl rfl (StepOk.op rfl rfl rfl (y_move rfl)) rfl ?_
          refine Draw.step rfl rfl rfl (StepOk.op rfl rfl rfl (y_sub rfl rfl (by first | exact wU_in (by omega) | rfl))) rfl ?_
          refine Draw.step rfl rfl rfl (StepOk.op rfl rfl rfl (y_rem rfl rfl (by omega) (by first | exact tmod_of (by omega) | rfl))) rfl ?_
          refine Draw.step rfl rfl rfl (StepOk.op rfl rfl rfl (y_add rfl rfl (by first | exact wU_in (by omega) | rfl))) rfl ?_
          refine Draw.step rfl rfl rfl (StepOk.op rfl rfl rfl (y_move rfl)) rfl ?_
          refine Draw.step rfl rfl rfl (StepOk.op rfl rfl rfl (y_rem rfl rfl (by omega) (by first | exact tmod_of (by omega) | rfl))) rfl ?_
          refine Draw.step rfl rfl rfl (StepOk.op rfl rfl rfl (y_indexR 241 (at_ % (pth (lvls f (h - c) L) i (h - c)).length) rfl rfl rfl Tryd.underlying40 ti42.siz (rfl) (hwk))) rfl ?_
          refine Draw.step rfl rfl rfl (StepOk.op rfl rfl rfl (y_indexRP 1 rfl rfl Tryd.underlying42 ti33.siz rfl (by decide))) rfl ?_
          refine Draw.tail (m := 26) rfl rfl rfl ?_
          refine q_storeR1 241 rfl rfl rfl ti33 (by rw [flatD_len]; omega) ?_
          refine Run.own (t := 241) rfl (row_set2 (y := oth f by_ ((pth (lvls f (h - c) L) i (h - c)).getD (at_ % (pth (lvls f (h - c) L) i (h - c)).length) (0, 0)).2) hwk) ?_
          refine Run.freeze (K := Kd) (l := (pth (lvls f (h - c) L) i (h - c)).set (at_ % (pth (lvls f (h - c) L) i (h - c)).length) (((pth (lvls f (h - c) L) i (h - c)).getD (at_ % (pth (lvls f (h - c) L) i (h - c)).length) (0, 0)).1, oth f by_ ((pth (lvls f (h - c) L) i (h - c)).getD (at_ % (pth (lvls f (h - c) L) i (h - c)).length) (0, 0)).2)) 241 28 rfl rfl ?_
          refine Run.nil ?_
          refine Run.nT ?_
          refine Run.seq ?_
          refine Run.weaken (Incl.same (t := 0) rfl (Incl.same (t := 1) rfl (Incl.same (t := 2) rfl (Incl.same (t := 4) rfl (Incl.same (t := 5) rfl (Incl.same (t := 13) rfl (Incl.same (t := 14) rfl (Incl.same (t := 18) rfl (Incl.same (t := 19) rfl (Incl.same (t := 21) rfl (Incl.same (t := 22) rfl (Incl.same (t := 23) rfl (Incl.same (t := 24) rfl (Incl.same (t := 25) rfl (Incl.same (t := 26) rfl (Incl.same (t := 27) rfl (Incl.same (t := 28) rfl Incl.nil))))))))))))))))) ?_
          refine q_draw ?_ rfl
          refine Draw.step rfl rfl rfl (StepOk.op rfl rfl rfl (y_move rfl)) rfl ?_
          refine Draw.step rfl rfl rfl (StepOk.op rfl rfl rfl (y_move rfl)) rfl ?_
          refine Draw.step rfl rfl rfl (StepOk.op rfl rfl rfl (y_move rfl)) rfl ?_
          refine Draw.step rfl rfl rfl (StepOk.op rfl rfl rfl (y_move rfl)) rfl ?_
          refine Draw.step rfl rfl rfl (StepOk.op rfl rfl rfl (y_move rfl)) rfl ?_
          refine Draw.step rfl rfl rfl (StepOk.op rfl rfl rfl (q_index i (L.getD i (0, 0)) rfl rfl Tryd.underlying40 ti42 (fun _ => rfl) (rfl) (getD_some _ hiL))) rfl ?_
          refine Draw.step rfl rfl rfl (StepOk.op rfl rfl rfl (y_loadW rfl Tryd.underlying42 rfl ti42.siz)) rfl ?_
          refine Draw.step rfl rfl rfl (StepOk.op rfl rfl rfl (y_move rfl)) rfl ?_
          refine Draw.step rfl rfl rfl (StepOk.op rfl rfl rfl (y_move rfl)) rfl ?_
          refine Draw.step rfl rfl rfl (StepOk.op rfl rfl rfl (q_index i (L.getD i (0, 0)) rfl rfl Tryd.underlying40 ti42 (fun _ => rfl) (rfl) (getD_some _ hiL))) rfl ?_
          refine Draw.step rfl rfl rfl (StepOk.op rfl rfl rfl (y_loadW rfl Tryd.underlying42 rfl ti42.siz)) rfl ?_
          refine Draw.step rfl rfl rfl (StepOk.op rfl rfl rfl (y_move rfl)) rfl ?_
          refine Draw.step rfl rfl rfl (StepOk.op rfl rfl rfl (y_move rfl)) rfl ?_
          refine Draw.step rfl rfl rfl (StepOk.op rfl rfl rfl (Yields.bool (c := true) (q_call en21 rfl (forged_fn s f hf i (by omega) (lev f (h - c) L) c hTl hTi (L.getD i (0, 0)) (L.getD i (0, 0)) hxi hxi (pth (lvls f (h - c) L) i (h - c)) ((pth (lvls f (h - c) L) i (h - c)).set (at_ % (pth (lvls f (h - c) L) i (h - c)).length) (((pth (lvls f (h - c) L) i (h - c)).getD (at_ % (pth (lvls f (h - c) L) i (h - c)).length) (0, 0)).1, oth f by_ ((pth (lvls f (h - c) L) i (h - c)).getD (at_ % (pth (lvls f (h - c) L) i (h - c)).length) (0, 0)).2)) (by omega) hPi hWl hWi hlt hcp)) (rfl))) rfl ?_
          refine Draw.step rfl rfl rfl (StepOk.op rfl rfl rfl (y_not rfl)) rfl ?_
          refine Draw.tail (m := 15) rfl rfl rfl ?_
          refine Run.nil ?_
          refine Run.nT ?_
          refine Run.cond0 rfl ?_
          refine Run.skip ?_
          refine Run.nT ?_
          refine Run.seq ?_
          refine Run.region ?_
          refine q_buildR (K := Kd) ([]) Tryd.underlying40 ti42 rfl rfl rfl rfl .nil (fun _ => rfl) rfl rfl ?_
          intro v285
          refine Run.op rfl rfl rfl (y_move rfl) ?_
          refine q_append 285 rfl rfl rfl Tryd.underlying40 ti42 rfl rfl (fun _ => rfl) (by simp; omega) rfl ?_
          intro v287
          refine Run.own (t := 285) (e' := Ent.rows Kd v287 42 2 L) rfl rfl ?_
          refine Run.op rfl rfl rfl (y_assign rfl) ?_
          refine Run.nil ?_
          refine Run.nT ?_
          refine Run.seq ?_
          refine Run.region ?_
          refine Run.op rfl rfl rfl (y_move rfl) ?_
          refine Run.op rfl rfl rfl (y_move rfl) ?_
          refine Run.op rfl rfl rfl (y_loadPW 27 rfl rfl Tryd.underlying42 rfl ti42.siz) ?_
          refine Run.op rfl rfl rfl (y_indexR 285 i rfl rfl rfl Tryd.underlying40 ti42.siz (rfl) (hiL)) ?_
          refine Run.storeRA 285 rfl rfl rfl ti42.siz (by rw [flatD_len]; show _ + 2 ≤ _; omega) ?_
          refine Run.own (t := 285) rfl (row_set (x := (oth f by_ (L.getD i (0, 0)).1, (L.getD i (0, 0)).2)) hiL) ?_
          refine Run.freeze (K := Kd) (l := L.set i (oth f by_ (L.getD i (0, 0)).1, (L.getD i (0, 0)).2)) 285 29 rfl rfl ?_
          refine Run.nil ?_
          refine Run.nT ?_
          refine Run.seq ?_
          refine Run.region ?_
          refine Run.op rfl rfl rfl (y_loadPW 19 rfl rfl Tryd.underlying46 rfl ti46.siz) ?_
          refine Run.op rfl rfl rfl (y_move rfl) ?_
          refine Run.op rfl rfl rfl (y_loadPW 27 rfl rfl Tryd.underlying42 rfl ti42.siz) ?_
          refine Run.op rfl rfl rfl (q_call en22 rfl (replace_fn s f h c (lvls f (h - c) L) (okT_lvls hf hc (by omega) hLl hLi) i hi (oth f by_ (L.getD i (0, 0)).1, (L.getD i (0, 0)).2) ho)) ?_
          refine Run.op rfl rfl rfl (y_move rfl) ?_
          refine Run.op rfl rfl rfl (Yields.eq (T := tre f h c (lvls f (h - c) (L.set i (oth f by_ (L.getD i (0, 0)).1, (L.getD i (0, 0)).2)))) (y_extract rfl rfl) (by rw [mixl_lvls hLl (by omega) hi])) ?_
          refine Run.op rfl rfl rfl (y_extract rfl rfl) ?_
          refine q_alloc ti46 rfl rfl ?_
          intro b30
          refine Run.storeW 30 rfl rfl rfl ti46.siz rfl ?_
          refine Run.op rfl rfl rfl (y_assign rfl) ?_
          refine Run.nil ?_
          refine Run.nT ?_
          refine Run.seq ?_
          refine Run.weaken (Incl.same (t := 0) rfl (Incl.same (t := 1) rfl (Incl.same (t := 2) rfl (Incl.same (t := 4) rfl (Incl.same (t := 5) rfl (Incl.same (t := 13) rfl (Incl.same (t := 14) rfl (Incl.same (t := 18) rfl (Incl.same (t := 19) rfl (Incl.same (t := 21) rfl (Incl.same (t := 22) rfl (Incl.same (t := 23) rfl (Incl.same (t := 24) rfl (Incl.same (t := 25) rfl (Incl.same (t := 26) rfl (Incl.same (t := 27) rfl (Incl.same (t := 28) rfl (Incl.same (t := 29) rfl (Incl.same (t := 30) rfl Incl.nil))))))))))))))))))) ?_
          refine q_draw ?_ rfl
          refine Draw.step rfl rfl rfl (StepOk.op rfl rfl rfl (y_move rfl)) rfl ?_
          refine Draw.step rfl rfl rfl (StepOk.op rfl rfl rfl (Yields.bool (c := false) (y_neq rfl rfl) (by decide))) rfl ?_
          refine Draw.step rfl rfl rfl (StepOk.op rfl rfl rfl (y_move rfl)) rfl ?_
          refine Draw.step rfl rfl rfl (StepOk.opG rfl rfl rfl rfl rfl (y_loadPW 30 rfl rfl Tryd.underlying46 rfl ti46.siz)) rfl ?_
          refine Draw.step rfl rfl rfl (StepOk.opG rfl rfl rfl rfl rfl (y_move rfl)) rfl ?_
          refine Draw.step rfl rfl rfl (StepOk.opG rfl rfl rfl rfl rfl (y_move rfl)) rfl ?_
          refine Draw.step rfl rfl rfl (StepOk.opG rfl rfl rfl rfl rfl (y_move rfl)) rfl ?_
          refine Draw.step rfl rfl rfl (StepOk.opG rfl rfl rfl rfl rfl (q_call en13 rfl (levels_fn s f hf h c hc (by omega) (L.set i (oth f by_ (L.getD i (0, 0)).1, (L.getD i (0, 0)).2)) (by rw [List.length_set]; exact hLl) (inL_set hLi ho i)))) rfl ?_
          refine Draw.step rfl rfl rfl (StepOk.opG rfl rfl rfl rfl rfl (Yields.bool (c := true) (q_call en15 rfl (grown_fn s f h c (lvls f (h - c) (L.set i (oth f by_ (L.getD i (0, 0)).1, (L.getD i (0, 0)).2))) (okT_lvls hf hc (by omega) (by rw [List.length_set]; exact hLl) (inL_set hLi ho i)))) (rfl))) rfl ?_
          refine Draw.step rfl rfl rfl (StepOk.opG rfl rfl rfl rfl rfl (y_not rfl)) rfl ?_
          refine Draw.step rfl rfl rfl (StepOk.op rfl rfl rfl (y_pickF rfl rfl)) rfl ?_
          refine Draw.tail (m := 11) rfl rfl rfl ?_
          refine Run.nil ?_
          refine Run.nT ?_
          refine Run.cond0 rfl ?_
          refine Run.skip ?_
          refine Run.nB ?_
          refine Run.nT ?_
          refine Run.region ?_
          refine Run.op rfl rfl rfl (y_move rfl) ?_
          refine Run.op rfl rfl rfl (y_add rfl rfl (by first | exact wI_in (by omega) | rfl)) ?_
          refine Run.op rfl rfl rfl (y_assign rfl) ?_
          refine Run.nil ?_
          refine Run.nT ?_
          refine Run.drop 30 rfl ?_
          refine Run.drop 27 rfl ?_
          refine Run.round (i + 1) ?_ ?_ ?_ ?_
          · show i + 1 ≤ L.length; omega
          · show L.length - (i + 1) < L.length - i; omega
          · rfl
          · exact (Incl.same (t := 0) rfl (Incl.same (t := 1) rfl (Incl.same (t := 2) rfl (Incl.same (t := 4) rfl (Incl.same (t := 5) rfl (Incl.same (t := 13) rfl (Incl.same (t := 14) rfl (Incl.same (t := 18) rfl (Incl.same (t := 19) rfl (Incl.same (t := 21) rfl (Incl.int (t := 22) rfl (by omega) Incl.nil)))))))))))
        · clear hb
          refine Run.skip ?_
          refine Run.nT ?_
          refine Run.seq ?_
          refine Run.region ?_
          refine q_buildR (K := Kd) ([]) Tryd.underlying40 ti42 rfl rfl rfl rfl .nil (fun _ => rfl) rfl rfl ?_
          intro v285
          refine Run.op rfl rfl rfl (y_move rfl) ?_
          refine q_append 285 rfl rfl rfl Tryd.underlying40 ti42 rfl rfl (fun _ => rfl) (by simp; omega) rfl ?_
          intro v287
          refine Run.own (t := 285) (e' := Ent.rows Kd v287 42 2 L) rfl rfl ?_
          refine Run.op rfl rfl rfl (y_assign rfl) ?_
          refine Run.nil ?_
          refine Run.nT ?_
          refine Run.seq ?_
          refine Run.region ?_
          refine Run.op rfl rfl rfl (y_move rfl) ?_
          refine Run.op rfl rfl rfl (y_move rfl) ?_
          refine Run.op rfl rfl rfl (y_loadPW 27 rfl rfl Tryd.underlying42 rfl ti42.siz) ?_
          refine Run.op rfl rfl rfl (y_indexR 285 i rfl rfl rfl Tryd.underlying40 ti42.siz (rfl) (hiL)) ?_
          refine Run.storeRA 285 rfl rfl rfl ti42.siz (by rw [flatD_len]; show _ + 2 ≤ _; omega) ?_
          refine Run.own (t := 285) rfl (row_set (x := (oth f by_ (L.getD i (0, 0)).1, (L.getD i (0, 0)).2)) hiL) ?_
          refine Run.freeze (K := Kd) (l := L.set i (oth f by_ (L.getD i (0, 0)).1, (L.getD i (0, 0)).2)) 285 29 rfl rfl ?_
          refine Run.nil ?_
          refine Run.nT ?_
          refine Run.seq ?_
          refine Run.region ?_
          refine Run.op rfl rfl rfl (y_loadPW 19 rfl rfl Tryd.underlying46 rfl ti46.siz) ?_
          refine Run.op rfl rfl rfl (y_move rfl) ?_
          refine Run.op rfl rfl rfl (y_loadPW 27 rfl rfl Tryd.underlying42 rfl ti42.siz) ?_
          refine Run.op rfl rfl rfl (q_call en22 rfl (replace_fn s f h c (lvls f (h - c) L) (okT_lvls hf hc (by omega) hLl hLi) i hi (oth f by_ (L.getD i (0, 0)).1, (L.getD i (0, 0)).2) ho)) ?_
          refine Run.op rfl rfl rfl (y_move rfl) ?_
          refine Run.op rfl rfl rfl (Yields.eq (T := tre f h c (lvls f (h - c) (L.set i (oth f by_ (L.getD i (0, 0)).1, (L.getD i (0, 0)).2)))) (y_extract rfl rfl) (by rw [mixl_lvls hLl (by omega) hi])) ?_
          refine Run.op rfl rfl rfl (y_extract rfl rfl) ?_
          refine q_alloc ti46 rfl rfl ?_
          intro b30
          refine Run.storeW 30 rfl rfl rfl ti46.siz rfl ?_
          refine Run.op rfl rfl rfl (y_assign rfl) ?_
          refine Run.nil ?_
          refine Run.nT ?_
          refine Run.seq ?_
          refine Run.weaken (Incl.same (t := 0) rfl (Incl.same (t := 1) rfl (Incl.same (t := 2) rfl (Incl.same (t := 4) rfl (Incl.same (t := 5) rfl (Incl.same (t := 13) rfl (Incl.same (t := 14) rfl (Incl.same (t := 18) rfl (Incl.same (t := 19) rfl (Incl.same (t := 21) rfl (Incl.same (t := 22) rfl (Incl.same (t := 23) rfl (Incl.same (t := 24) rfl (Incl.same (t := 25) rfl (Incl.same (t := 26) rfl (Incl.same (t := 27) rfl (Incl.same (t := 29) rfl (Incl.same (t := 30) rfl Incl.nil)))))))))))))))))) ?_
          refine q_draw ?_ rfl
          refine Draw.step rfl rfl rfl (StepOk.op rfl rfl rfl (y_move rfl)) rfl ?_
          refine Draw.step rfl rfl rfl (StepOk.op rfl rfl rfl (Yields.bool (c := false) (y_neq rfl rfl) (by decide))) rfl ?_
          refine Draw.step rfl rfl rfl (StepOk.op rfl rfl rfl (y_move rfl)) rfl ?_
          refine Draw.step rfl rfl rfl (StepOk.opG rfl rfl rfl rfl rfl (y_loadPW 30 rfl rfl Tryd.underlying46 rfl ti46.siz)) rfl ?_
          refine Draw.step rfl rfl rfl (StepOk.opG rfl rfl rfl rfl rfl (y_move rfl)) rfl ?_
          refine Draw.step rfl rfl rfl (StepOk.opG rfl rfl rfl rfl rfl (y_move rfl)) rfl ?_
          refine Draw.step rfl rfl rfl (StepOk.opG rfl rfl rfl rfl rfl (y_move rfl)) rfl ?_
          refine Draw.step rfl rfl rfl (StepOk.opG rfl rfl rfl rfl rfl (q_call en13 rfl (levels_fn s f hf h c hc (by omega) (L.set i (oth f by_ (L.getD i (0, 0)).1, (L.getD i (0, 0)).2)) (by rw [List.length_set]; exact hLl) (inL_set hLi ho i)))) rfl ?_
          refine Draw.step rfl rfl rfl (StepOk.opG rfl rfl rfl rfl rfl (Yields.bool (c := true) (q_call en15 rfl (grown_fn s f h c (lvls f (h - c) (L.set i (oth f by_ (L.getD i (0, 0)).1, (L.getD i (0, 0)).2))) (okT_lvls hf hc (by omega) (by rw [List.length_set]; exact hLl) (inL_set hLi ho i)))) (rfl))) rfl ?_
          refine Draw.step rfl rfl rfl (StepOk.opG rfl rfl rfl rfl rfl (y_not rfl)) rfl ?_
          refine Draw.step rfl rfl rfl (StepOk.op rfl rfl rfl (y_pickF rfl rfl)) rfl ?_
          refine Draw.tail (m := 11) rfl rfl rfl ?_
          refine Run.nil ?_
          refine Run.nT ?_
          refine Run.cond0 rfl ?_
          refine Run.skip ?_
          refine Run.nB ?_
          refine Run.nT ?_
          refine Run.region ?_
          refine Run.op rfl rfl rfl (y_move rfl) ?_
          refine Run.op rfl rfl rfl (y_add rfl rfl (by first | exact wI_in (by omega) | rfl)) ?_
          refine Run.op rfl rfl rfl (y_assign rfl) ?_
          refine Run.nil ?_
          refine Run.nT ?_
          refine Run.drop 30 rfl ?_
          refine Run.drop 27 rfl ?_
          refine Run.round (i + 1) ?_ ?_ ?_ ?_
          · show i + 1 ≤ L.length; omega
          · show L.length - (i + 1) < L.length - i; omega
          · rfl
          · exact (Incl.same (t := 0) rfl (Incl.same (t := 1) rfl (Incl.same (t := 2) rfl (Incl.same (t := 4) rfl (Incl.same (t := 5) rfl (Incl.same (t := 13) rfl (Incl.same (t := 14) rfl (Incl.same (t := 18) rfl (Incl.same (t := 19) rfl (Incl.same (t := 21) rfl (Incl.int (t := 22) rfl (by omega) Incl.nil)))))))))))
    · clear hb
      refine Run.exit ?_
      refine Run.eT ?_
      refine Run.eT ?_
      refine Run.eB ?_
      refine Run.nT ?_
      refine Run.seq ?_
      refine Run.region ?_
      refine Run.op rfl rfl rfl (y_assign rfl) ?_
      refine Run.nil ?_
      refine Run.nT ?_
      refine Run.ret ?_
      exact Run.fin1 rfl rfl rfl (.tmp rfl) (fun _ _ h => h)

end

end Go.Vx
