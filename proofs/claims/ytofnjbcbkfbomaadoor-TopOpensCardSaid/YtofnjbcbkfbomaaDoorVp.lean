/- Walks of the program's functions: the trees. Conditions: as each says. Printed by a program of our own (wip/tools/gen.py). -/
import Derived.Test.YtofnjbcbkfbomaaDoorVo
namespace Go.Vx
open Go Go.RowKit Go.Proofs
set_option maxRecDepth 100000
attribute [local irreducible] nd
variable (s : Seat)

theorem clone_fx (l : Lv) (hl : l.length ≤ 1048576) : FnX s.env 67 [slc Kd l] [] (fun v : Value => sval v) (fun v => [Ent.rows Kd v 42 2 l]) := by
  refine FnX.of [] rfl Tryd.func67 rfl Tryd.ntmps67 rfl ?_
  intro w0 F0
  refine Run.seq ?_
  refine Run.region ?_
  refine Run.op rfl rfl rfl (y_assign rfl) ?_
  refine Run.nil ?_
  refine Run.nT ?_
  refine Run.seq ?_
  refine Run.seq ?_
  refine Run.region ?_
  refine Run.op rfl rfl rfl (y_move rfl) ?_
  refine Run.op rfl rfl rfl (y_nilS rfl Tryd.underlying40) ?_
  refine Run.nil ?_
  refine Run.nT ?_
  refine Run.condP rfl (fun hb => ?_) (fun hb => ?_)
  · obtain rfl : l = [] := hb rfl
    refine Run.seq ?_
    refine Run.region ?_
    refine Run.op rfl rfl rfl (y_assign rfl) ?_
    refine Run.nil ?_
    refine Run.nT ?_
    refine Run.ret ?_
    refine Run.rT ?_
    refine q_nilRow 2 Kd 42 2 ?_
    exact Run.finX (.slice none 0 0) [2] rfl (Outs.one rfl (.tmp rfl)) rfl (fun _ _ _ h => h)
  · clear hb
    refine Run.skip ?_
    refine Run.nT ?_
    refine Run.seq ?_
    refine Run.region ?_
    refine q_buildR (K := Kd) ([]) Tryd.underlying40 ti42 rfl rfl rfl rfl .nil (fun _ => rfl) rfl rfl ?_
    intro v5
    refine Run.op rfl rfl rfl (y_move rfl) ?_
    refine q_append 5 rfl rfl rfl Tryd.underlying40 ti42 rfl rfl (fun _ => rfl) (by first | omega | (simp; omega)) rfl ?_
    intro v7
    refine Run.op rfl rfl rfl (y_assign rfl) ?_
    refine Run.nil ?_
    refine Run.nT ?_
    refine Run.ret ?_
    exact Run.finX v7 [5] rfl (Outs.one rfl (.tmp rfl)) rfl (fun _ _ _ h => h)

theorem clone_fn (l : Lv) (hl : l.length ≤ 1048576) : Fn s.env 67 [slc Kd l] (slc Kd l) := (clone_fx s l hl).frozen

theorem clone2_fx (l : List Lv) (hl : l.length ≤ 1048576) : FnX s.env 66 [slc Kl l] [] (fun v : Value => sval v) (fun v => [Ent.rows Kl v 40 1 l]) := by
  refine FnX.of [] rfl Tryd.func66 rfl Tryd.ntmps66 rfl ?_
  intro w0 F0
  refine Run.seq ?_
  refine Run.region ?_
  refine Run.op rfl rfl rfl (y_assign rfl) ?_
  refine Run.nil ?_
  refine Run.nT ?_
  refine Run.seq ?_
  refine Run.seq ?_
  refine Run.region ?_
  refine Run.op rfl rfl rfl (y_move rfl) ?_
  refine Run.op rfl rfl rfl (y_nilS rfl Tryd.underlying43) ?_
  refine Run.nil ?_
  refine Run.nT ?_
  refine Run.condP rfl (fun hb => ?_) (fun hb => ?_)
  · obtain rfl : l = [] := hb rfl
    refine Run.seq ?_
    refine Run.region ?_
    refine Run.op rfl rfl rfl (y_assign rfl) ?_
    refine Run.nil ?_
    refine Run.nT ?_
    refine Run.ret ?_
    refine Run.rT ?_
    refine q_nilRow 2 Kl 40 1 ?_
    exact Run.finX (.slice none 0 0) [2] rfl (Outs.one rfl (.tmp rfl)) rfl (fun _ _ _ h => h)
  · clear hb
    refine Run.skip ?_
    refine Run.nT ?_
    refine Run.seq ?_
    refine Run.region ?_
    refine q_buildR (K := Kl) ([]) Tryd.underlying43 ti40 rfl rfl rfl rfl .nil (fun _ => rfl) rfl rfl ?_
    intro v5
    refine Run.op rfl rfl rfl (y_move rfl) ?_
    refine q_append 5 rfl rfl rfl Tryd.underlying43 ti40 rfl rfl (fun _ => rfl) (by first | omega | (simp; omega)) rfl ?_
    intro v7
    refine Run.op rfl rfl rfl (y_assign rfl) ?_
    refine Run.nil ?_
    refine Run.nT ?_
    refine Run.ret ?_
    exact Run.finX v7 [5] rfl (Outs.one rfl (.tmp rfl)) rfl (fun _ _ _ h => h)

theorem clone2_fn (l : List Lv) (hl : l.length ≤ 1048576) : Fn s.env 66 [slc Kl l] (slc Kl l) := (clone2_fx s l hl).frozen

section
variable [hF : HasF s]

theorem tvalid_fn (f : Int) (h c : Nat) (ls : List Lv) (H : okT f h c ls) : Fn s.env 16 [tre f h c ls] (sbool true) := by
  have hf := H.fv
  have hc := H.hc
  have h18 := H.h18
  have hlen := H.len
  have hp18 := pow18 h18
  refine Fn.of Tryd.func16 rfl Tryd.ntmps16 rfl ?_
  intro w0 F0
  refine Run.seq ?_
  refine Run.region ?_
  refine Run.boxA rfl rfl ?_
  intro b1
  refine Run.op rfl rfl rfl (y_assign rfl) ?_
  refine Run.nil ?_
  refine Run.nT ?_
  refine Run.seq ?_
  refine Run.seq ?_
  refine Run.region ?_
  refine Run.op rfl rfl rfl (y_fieldP rfl Tryd.underlying46 rfl ti3.siz) ?_
  refine Run.op rfl rfl rfl (y_loadP 1 rfl rfl (rfl) Tryd.underlying3 rfl) ?_
  refine Run.op rfl rfl rfl (Yields.bool (c := true) (q_call en58 rfl (valid_fn s _)) (hf)) ?_
  refine Run.op rfl rfl rfl (y_not rfl) ?_
  refine Run.op rfl rfl rfl (y_move rfl) ?_
  refine Run.opG rfl rfl rfl rfl rfl (y_fieldP rfl Tryd.underlying46 rfl ti3.siz) ?_
  refine Run.opG rfl rfl rfl rfl rfl (y_loadP 1 rfl rfl (rfl) Tryd.underlying3 rfl) ?_
  refine Run.opG rfl rfl rfl rfl rfl (Yields.bool (c := false) (y_lss rfl rfl) (by rw [decide_eq_false_iff_not]; omega)) ?_
  refine Run.op rfl rfl rfl (y_pickF rfl rfl) ?_
  refine Run.op rfl rfl rfl (y_move rfl) ?_
  refine Run.opG rfl rfl rfl rfl rfl (y_fieldP rfl Tryd.underlying46 rfl ti3.siz) ?_
  refine Run.opG rfl rfl rfl rfl rfl (y_loadP 1 rfl rfl (rfl) Tryd.underlying3 rfl) ?_
  refine Run.opG rfl rfl rfl rfl rfl (Yields.bool (c := false) (y_gtr rfl rfl) (by rw [decide_eq_false_iff_not]; omega)) ?_
  refine Run.op rfl rfl rfl (y_pickF rfl rfl) ?_
  refine Run.op rfl rfl rfl (y_move rfl) ?_
  refine Run.opG rfl rfl rfl rfl rfl (y_fieldP rfl Tryd.underlying46 rfl ti3.siz) ?_
  refine Run.opG rfl rfl rfl rfl rfl (y_loadP 1 rfl rfl (rfl) Tryd.underlying3 rfl) ?_
  refine Run.opG rfl rfl rfl rfl rfl (Yields.bool (c := false) (y_lss rfl rfl) (by rw [decide_eq_false_iff_not]; omega)) ?_
  refine Run.op rfl rfl rfl (y_pickF rfl rfl) ?_
  refine Run.op rfl rfl rfl (y_move rfl) ?_
  refine Run.opG rfl rfl rfl rfl rfl (y_fieldP rfl Tryd.underlying46 rfl ti3.siz) ?_
  refine Run.opG rfl rfl rfl rfl rfl (y_loadP 1 rfl rfl (rfl) Tryd.underlying3 rfl) ?_
  refine Run.opG rfl rfl rfl rfl rfl (y_fieldP rfl Tryd.underlying46 rfl ti3.siz) ?_
  refine Run.opG rfl rfl rfl rfl rfl (y_loadP 1 rfl rfl (rfl) Tryd.underlying3 rfl) ?_
  refine Run.opG rfl rfl rfl rfl rfl (Yields.bool (c := false) (y_gtr rfl rfl) (by rw [decide_eq_false_iff_not]; omega)) ?_
  refine Run.op rfl rfl rfl (y_pickF rfl rfl) ?_
  refine Run.op rfl rfl rfl (y_move rfl) ?_
  refine Run.opG rfl rfl rfl rfl rfl (y_fieldP rfl Tryd.underlying46 rfl ti43.siz) ?_
  refine Run.opG rfl rfl rfl rfl rfl (y_loadP 1 rfl rfl (rfl) Tryd.underlying43 rfl) ?_
  refine Run.opG rfl rfl rfl rfl rfl (y_lenS rfl Tryd.underlying43) ?_
  refine Run.opG rfl rfl rfl rfl rfl (y_fieldP rfl Tryd.underlying46 rfl ti3.siz) ?_
  refine Run.opG rfl rfl rfl rfl rfl (y_loadP 1 rfl rfl (rfl) Tryd.underlying3 rfl) ?_
  refine Run.opG rfl rfl rfl rfl rfl (y_fieldP rfl Tryd.underlying46 rfl ti3.siz) ?_
  refine Run.opG rfl rfl rfl rfl rfl (y_loadP 1 rfl rfl (rfl) Tryd.underlying3 rfl) ?_
  refine Run.opG rfl rfl rfl rfl rfl (y_sub rfl rfl (by first | exact wI_in (by omega) | rfl)) ?_
  refine Run.opG rfl rfl rfl rfl rfl (y_add rfl rfl (by first | exact wI_in (by omega) | rfl)) ?_
  refine Run.opG rfl rfl rfl rfl rfl (Yields.bool (c := false) (y_neq rfl rfl) (by rw [decide_eq_false_iff_not, hlen]; omega)) ?_
  refine Run.op rfl rfl rfl (y_pickF rfl rfl) ?_
  refine Run.nil ?_
  refine Run.nT ?_
  refine Run.cond0 rfl ?_
  refine Run.skip ?_
  refine Run.nT ?_
  refine Run.seq ?_
  refine Run.seq ?_
  refine Run.region ?_
  refine Run.op rfl rfl rfl (y_fieldP rfl Tryd.underlying46 rfl ti43.siz) ?_
  refine Run.op rfl rfl rfl (y_loadP 1 rfl rfl (rfl) Tryd.underlying43 rfl) ?_
  refine Run.op rfl rfl rfl (y_lenS rfl Tryd.underlying43) ?_
  refine Run.op rfl rfl rfl (y_move rfl) ?_
  refine Run.nil ?_
  refine Run.nT ?_
  refine Run.block ?_
  refine Run.loop (ι := Nat) (fun j => j ≤ ls.length) (fun j => ls.length - j) (fun j => [(1, .blk b1 46 (Kt f h c ls))]) (fun j => [(1, sval (.pointer (some ⟨b1, 0, none⟩))), (44, slc Kl ls), (45, i64 ls.length), (46, i64 j)]) 0 (by omega) rfl (Incl.same (t := 1) rfl (Incl.same (t := 44) rfl (Incl.same (t := 45) rfl (Incl.same (t := 46) rfl Incl.nil)))) ?_
  rintro j hj
  change Run _ _ [(1, .blk b1 46 (Kt f h c ls))] [(1, sval (.pointer (some ⟨b1, 0, none⟩))), (44, slc Kl ls), (45, i64 ls.length), (46, i64 j)] _
  refine Run.seq ?_
  refine Run.region ?_
  refine Run.op rfl rfl rfl (y_lss rfl rfl) ?_
  refine Run.nil ?_
  refine Run.nT ?_
  refine Run.seq ?_
  refine Run.cond rfl (fun hb => ?_) (fun hb => ?_)
  · have hjl : j < ls.length := by have := of_decide_eq_true hb; omega
    refine Run.skip ?_
    refine Run.nT ?_
    refine Run.seq ?_
    refine Run.block ?_
    refine Run.seq ?_
    refine Run.region ?_
    refine Run.op rfl rfl rfl (y_move rfl) ?_
    refine Run.op rfl rfl rfl (q_index j (ls.getD j []) rfl rfl Tryd.underlying43 ti40 (fun _ => rfl) (rfl) (getD_some _ hjl)) ?_
    refine Run.op rfl rfl rfl (y_load rfl Tryd.underlying40 rfl) ?_
    refine Run.op rfl rfl rfl (y_assign rfl) ?_
    refine Run.op rfl rfl rfl (y_assign rfl) ?_
    refine Run.nil ?_
    refine Run.nT ?_
    refine Run.seq ?_
    refine Run.region ?_
    refine Run.op rfl rfl rfl (y_move rfl) ?_
    refine Run.op rfl rfl rfl (y_lenS rfl Tryd.underlying40) ?_
    refine Run.op rfl rfl rfl (y_fieldP rfl Tryd.underlying46 rfl ti3.siz) ?_
    refine Run.op rfl rfl rfl (y_loadP 1 rfl rfl (rfl) Tryd.underlying3 rfl) ?_
    refine Run.op rfl rfl rfl (y_move rfl) ?_
    refine Run.op rfl rfl rfl (y_sub (r := ((h - j : Nat) : Int)) rfl rfl (sub_nat (by omega) (by omega))) ?_
    refine Run.op rfl rfl rfl (y_shl (r := ((2 ^ (h - j) : Nat) : Int)) rfl rfl (by omega) (shl_nat (by omega))) ?_
    refine Run.op rfl rfl rfl (Yields.bool (c := false) (y_neq rfl rfl) (by rw [decide_eq_false_iff_not, H.lens j hjl]; simp)) ?_
    refine Run.op rfl rfl rfl (y_move rfl) ?_
    refine Run.opG rfl rfl rfl rfl rfl (y_fieldP rfl Tryd.underlying46 rfl ti3.siz) ?_
    refine Run.opG rfl rfl rfl rfl rfl (y_loadP 1 rfl rfl (rfl) Tryd.underlying3 rfl) ?_
    refine Run.opG rfl rfl rfl rfl rfl (y_move rfl) ?_
    refine Run.opG rfl rfl rfl rfl rfl (Yields.bool (c := true) (q_call en59 rfl (proper_fn s f (ls.getD j []) (by have := H.bound hjl; omega))) (prp_of (H.ins j hjl))) ?_
    refine Run.opG rfl rfl rfl rfl rfl (y_not rfl) ?_
    refine Run.op rfl rfl rfl (y_pickF rfl rfl) ?_
    refine Run.nil ?_
    refine Run.nT ?_
    refine Run.cond0 rfl ?_
    refine Run.skip ?_
    refine Run.nB ?_
    refine Run.nT ?_
    refine Run.region ?_
    refine Run.op rfl rfl rfl (y_add rfl rfl (by first | exact wI_in (by omega) | rfl)) ?_
    refine Run.op rfl rfl rfl (y_move rfl) ?_
    refine Run.nil ?_
    refine Run.nT ?_
    refine Run.round (j + 1) ?_ ?_ ?_ ?_
    · show j + 1 ≤ ls.length; omega
    · show ls.length - (j + 1) < ls.length - j; omega
    · rfl
    · exact (Incl.same (t := 1) rfl (Incl.same (t := 44) rfl (Incl.same (t := 45) rfl (Incl.int (t := 46) rfl (by omega) Incl.nil))))
  · obtain rfl : j = ls.length := by have := of_decide_eq_false hb; omega
    refine Run.exit ?_
    refine Run.eT ?_
    refine Run.eT ?_
    refine Run.eB ?_
    refine Run.nT ?_
    refine Run.seq ?_
    refine Run.region ?_
    refine Run.op rfl rfl rfl (y_assign rfl) ?_
    refine Run.nil ?_
    refine Run.nT ?_
    refine Run.ret ?_
    exact Run.fin1 rfl rfl rfl (.tmp rfl) (fun _ _ h => h)

theorem cap_fn (f : Int) (h c : Nat) (ls : List Lv) (H : okT f h c ls) : Fn s.env 24 [tre f h c ls] (slc Kd (ls.getD (h - c) [])) := by
  have hf := H.fv
  have hc := H.hc
  have h18 := H.h18
  have hlen := H.len
  have hp18 := pow18 h18
  refine Fn.of Tryd.func24 rfl Tryd.ntmps24 rfl ?_
  intro w0 F0
  refine Run.seq ?_
  refine Run.region ?_
  refine Run.boxA rfl rfl ?_
  intro b1
  refine Run.op rfl rfl rfl (y_assign rfl) ?_
  refine Run.nil ?_
  refine Run.nT ?_
  refine Run.seq ?_
  refine Run.seq ?_
  refine Run.region ?_
  refine Run.op rfl rfl rfl (y_loadPW 1 rfl rfl Tryd.underlying46 rfl ti46.siz) ?_
  refine Run.op rfl rfl rfl (Yields.bool (c := true) (q_call en16 rfl (tvalid_fn s f h c ls H)) (rfl)) ?_
  refine Run.op rfl rfl rfl (y_not rfl) ?_
  refine Run.nil ?_
  refine Run.nT ?_
  refine Run.cond0 rfl ?_
  refine Run.skip ?_
  refine Run.nT ?_
  refine Run.seq ?_
  refine Run.region ?_
  refine Run.op rfl rfl rfl (y_fieldP rfl Tryd.underlying46 rfl ti43.siz) ?_
  refine Run.op rfl rfl rfl (y_loadP 1 rfl rfl (rfl) Tryd.underlying43 rfl) ?_
  refine Run.op rfl rfl rfl (y_fieldP rfl Tryd.underlying46 rfl ti43.siz) ?_
  refine Run.op rfl rfl rfl (y_loadP 1 rfl rfl (rfl) Tryd.underlying43 rfl) ?_
  refine Run.op rfl rfl rfl (y_lenS rfl Tryd.underlying43) ?_
  refine Run.op rfl rfl rfl (y_sub (r := ((h - c : Nat) : Int)) rfl rfl (by rw [hlen, wI_in (by omega)]; omega)) ?_
  refine Run.op rfl rfl rfl (q_index (h - c) (ls.getD (h - c) []) rfl rfl Tryd.underlying43 ti40 (fun _ => rfl) (rfl) (getD_some _ (by omega))) ?_
  refine Run.op rfl rfl rfl (y_load rfl Tryd.underlying40 rfl) ?_
  refine Run.op rfl rfl rfl (q_call en67 rfl (clone_fn s _ (by have := H.bound (m := h - c) (by omega); omega))) ?_
  refine Run.op rfl rfl rfl (y_assign rfl) ?_
  refine Run.nil ?_
  refine Run.nT ?_
  refine Run.ret ?_
  exact Run.fin1 rfl rfl rfl (.tmp rfl) (fun _ _ h => h)

theorem place_fn (f : Int) (h c : Nat) (ls : List Lv) (H : okT f h c ls) (i : Nat) (hi : i < 2 ^ h) : Fn s.env 61 [tre f h c ls, i64 i] (i64 0) := by
  have hf := H.fv
  have hc := H.hc
  have h18 := H.h18
  have hlen := H.len
  have hp18 := pow18 h18
  have hl0 := H.lens 0 (by omega)
  refine Fn.of Tryd.func61 rfl Tryd.ntmps61 rfl ?_
  intro w0 F0
  refine Run.seq ?_
  refine Run.region ?_
  refine Run.boxA rfl rfl ?_
  intro b2
  refine Run.op rfl rfl rfl (y_assign rfl) ?_
  refine Run.nil ?_
  refine Run.nT ?_
  refine Run.seq ?_
  refine Run.block ?_
  refine Run.seq ?_
  refine Run.region ?_
  refine Run.op rfl rfl rfl (y_loadPW 2 rfl rfl Tryd.underlying46 rfl ti46.siz) ?_
  refine Run.op rfl rfl rfl (Yields.bool (c := true) (q_call en16 rfl (tvalid_fn s f h c ls H)) (rfl)) ?_
  refine Run.op rfl rfl rfl (y_not rfl) ?_
  refine Run.op rfl rfl rfl (y_assign rfl) ?_
  refine Run.nil ?_
  refine Run.nT ?_
  refine Run.cond0 rfl ?_
  refine Run.seq ?_
  refine Run.region ?_
  refine Run.op rfl rfl rfl (y_move rfl) ?_
  refine Run.op rfl rfl rfl (Yields.bool (c := false) (y_lss rfl rfl) (by rw [decide_eq_false_iff_not]; omega)) ?_
  refine Run.op rfl rfl rfl (y_move rfl) ?_
  refine Run.opG rfl rfl rfl rfl rfl (y_move rfl) ?_
  refine Run.opG rfl rfl rfl rfl rfl (y_fieldP rfl Tryd.underlying46 rfl ti43.siz) ?_
  refine Run.opG rfl rfl rfl rfl rfl (y_loadP 2 rfl rfl (rfl) Tryd.underlying43 rfl) ?_
  refine Run.opG rfl rfl rfl rfl rfl (q_index 0 (ls.getD 0 []) rfl rfl Tryd.underlying43 ti40 (fun _ => rfl) (rfl) (getD_some _ (by omega))) ?_
  refine Run.opG rfl rfl rfl rfl rfl (y_load rfl Tryd.underlying40 rfl) ?_
  refine Run.opG rfl rfl rfl rfl rfl (y_lenS rfl Tryd.underlying40) ?_
  refine Run.opG rfl rfl rfl rfl rfl (Yields.bool (c := false) (y_geq rfl rfl) (by rw [decide_eq_false_iff_not, hl0]; simp only [Nat.sub_zero]; omega)) ?_
  refine Run.op rfl rfl rfl (y_pickF rfl rfl) ?_
  refine Run.op rfl rfl rfl (y_assign rfl) ?_
  refine Run.nil ?_
  refine Run.nT ?_
  refine Run.cond0 rfl ?_
  refine Run.skip ?_
  refine Run.nB ?_
  refine Run.nT ?_
  refine Run.seq ?_
  refine Run.region ?_
  refine Run.op rfl rfl rfl (y_assign rfl) ?_
  refine Run.nil ?_
  refine Run.nT ?_
  refine Run.ret ?_
  exact Run.fin1 rfl rfl rfl (.tmp rfl) (fun _ _ h => h)

theorem path_fn (f : Int) (h c : Nat) (ls : List Lv) (H : okT f h c ls) (i : Nat) (hi : i < 2 ^ h) : Fn s.env 17 [tre f h c ls, i64 i] (stup [slc Kd (pth ls i (h - c)), i64 0]) := by
  have hf := H.fv
  have hc := H.hc
  have h18 := H.h18
  have hlen := H.len
  have hp18 := pow18 h18
  have hi18 : i < 262144 := by omega
  refine Fn.of Tryd.func17 rfl Tryd.ntmps17 rfl ?_
  intro w0 F0
  refine Run.seq ?_
  refine Run.region ?_
  refine Run.boxA rfl rfl ?_
  intro b2
  refine Run.op rfl rfl rfl (y_assign rfl) ?_
  refine Run.op rfl rfl rfl (y_assign rfl) ?_
  refine Run.nil ?_
  refine Run.nT ?_
  refine Run.seq ?_
  refine Run.seq ?_
  refine Run.region ?_
  refine Run.op rfl rfl rfl (y_loadPW 2 rfl rfl Tryd.underlying46 rfl ti46.siz) ?_
  refine Run.op rfl rfl rfl (y_move rfl) ?_
  refine Run.op rfl rfl rfl (q_call en61 rfl (place_fn s _ _ _ _ H i hi)) ?_
  refine Run.op rfl rfl rfl (y_assign rfl) ?_
  refine Run.nil ?_
  refine Run.nT ?_
  refine Run.seq ?_
  refine Run.region ?_
  refine Run.op rfl rfl rfl (y_move rfl) ?_
  refine Run.op rfl rfl rfl (Yields.bool (c := false) (y_neq rfl rfl) (by decide)) ?_
  refine Run.nil ?_
  refine Run.nT ?_
  refine Run.cond0 rfl ?_
  refine Run.skip ?_
  refine Run.nT ?_
  refine Run.seq ?_
  refine Run.region ?_
  refine Run.op rfl rfl rfl (y_assign rfl) ?_
  refine q_nilRow 7 (Kd) 42 2 ?_
  refine Run.nil ?_
  refine Run.nT ?_
  refine Run.seq ?_
  refine Run.seq ?_
  refine Run.region ?_
  refine Run.op rfl rfl rfl (y_fieldP rfl Tryd.underlying46 rfl ti43.siz) ?_
  refine Run.op rfl rfl rfl (y_loadP 2 rfl rfl (rfl) Tryd.underlying43 rfl) ?_
  refine Run.op rfl rfl rfl (y_fieldP rfl Tryd.underlying46 rfl ti43.siz) ?_
  refine Run.op rfl rfl rfl (y_loadP 2 rfl rfl (rfl) Tryd.underlying43 rfl) ?_
  refine Run.op rfl rfl rfl (y_lenS rfl Tryd.underlying43) ?_
  refine Run.op rfl rfl rfl (y_sub (r := ((h - c : Nat) : Int)) rfl rfl (by rw [hlen, wI_in (by omega)]; omega)) ?_
  refine Run.op rfl rfl rfl (Yields.eq (T := slc Kl (ls.take (h - c))) (y_slice 0 (h - c) rfl Tryd.underlying43 ti40.siz (fun _ => rfl) (.inl ⟨rfl, rfl⟩) (.inr ⟨_, _, rfl, rfl⟩) (by omega) (by omega)) (by rw [Nat.sub_zero]; rfl)) ?_
  refine Run.op rfl rfl rfl (y_lenS rfl Tryd.underlying43) ?_
  refine Run.op rfl rfl rfl (y_move rfl) ?_
  refine Run.nil ?_
  refine Run.nT ?_
  refine Run.block ?_
  refine Run.loop (ι := Nat × Value) (fun ⟨m, v⟩ => m ≤ h - c) (fun ⟨m, v⟩ => h - c - m) (fun ⟨m, v⟩ => [(7, Ent.rows Kd v 42 2 (pth ls i m)), (2, .blk b2 46 (Kt f h c ls))]) (fun ⟨m, v⟩ => [(1, i64 ((i / 2 ^ m : Nat) : Int)), (7, sval v), (22, slc Kl (ls.take (h - c))), (23, i64 (ls.take (h - c)).length), (24, i64 m)]) (0, .slice none 0 0) (by omega) rfl (Incl.int (t := 1) rfl (by rw [Nat.pow_zero, Nat.div_one]) (Incl.same (t := 7) rfl (Incl.same (t := 22) rfl (Incl.same (t := 23) rfl (Incl.int (t := 24) rfl rfl Incl.nil))))) ?_
  rintro ⟨m, v⟩ hm
  change Run _ _ [(7, Ent.rows Kd v 42 2 (pth ls i m)), (2, .blk b2 46 (Kt f h c ls))] [(1, i64 ((i / 2 ^ m : Nat) : Int)), (7, sval v), (22, slc Kl (ls.take (h - c))), (23, i64 (ls.take (h - c)).length), (24, i64 m)] _
  have hd : i / 2 ^ m ≤ i := Nat.div_le_self _ _
  have htl : (ls.take (h - c)).length = h - c := by rw [List.length_take]; omega
  refine Run.seq ?_
  refine Run.region ?_
  refine Run.op rfl rfl rfl (y_lss rfl rfl) ?_
  refine Run.nil ?_
  refine Run.nT ?_
  refine Run.seq ?_
  refine Run.cond rfl (fun hb => ?_) (fun hb => ?_)
  · have hmc : m < h - c := by have := of_decide_eq_true hb; omega
    have hml := H.lens m (by omega)
    have hdl := div_pow_lt (m := m) hi (by omega)
    have hxl := xor_one_lt hdl (by omega)
    rw [← hml] at hxl
    have hpl := pth_len ls i m
    refine Run.skip ?_
    refine Run.nT ?_
    refine Run.seq ?_
    refine Run.block ?_
    refine Run.seq ?_
    refine Run.region ?_
    refine Run.op rfl rfl rfl (q_index m (ls.getD m []) rfl rfl Tryd.underlying43 ti40 (fun _ => rfl) (rfl) (take_get _ hmc (by omega))) ?_
    refine Run.op rfl rfl rfl (y_load rfl Tryd.underlying40 rfl) ?_
    refine Run.op rfl rfl rfl (y_assign rfl) ?_
    refine Run.nil ?_
    refine Run.nT ?_
    refine Run.seq ?_
    refine Run.region ?_
    refine Run.op rfl rfl rfl (y_move rfl) ?_
    refine Run.op rfl rfl rfl (y_move rfl) ?_
    refine Run.op rfl rfl rfl (y_move rfl) ?_
    refine Run.op rfl rfl rfl (y_xor rfl rfl (xor_one (by omega))) ?_
    refine Run.op rfl rfl rfl (q_index (i / 2 ^ m ^^^ 1) ((ls.getD m []).getD (i / 2 ^ m ^^^ 1) (0, 0)) rfl rfl Tryd.underlying40 ti42 (fun _ => rfl) (rfl) (getD_some _ hxl)) ?_
    refine Run.op rfl rfl rfl (y_loadW rfl Tryd.underlying42 rfl ti42.siz) ?_
    refine Run.op rfl rfl rfl (q_buildL (K := Kd) ([(ls.getD m []).getD (i / 2 ^ m ^^^ 1) (0, 0)]) Tryd.underlying40 ti42 rfl rfl rfl (.cons rfl (Part.agg rfl) rfl .nil) rfl) ?_
    refine q_append 7 rfl rfl rfl Tryd.underlying40 ti42 rfl rfl (fun _ => rfl) (by rw [hpl]; simp; omega) rfl ?_
    intro v35
    refine Run.op rfl rfl rfl (y_assign rfl) ?_
    refine Run.nil ?_
    refine Run.nT ?_
    refine Run.region ?_
    refine Run.op rfl rfl rfl (y_move rfl) ?_
    refine Run.op rfl rfl rfl (y_shr rfl rfl (by omega) (shr_one i m)) ?_
    refine Run.op rfl rfl rfl (y_assign rfl) ?_
    refine Run.nil ?_
    refine Run.nB ?_
    refine Run.nT ?_
    refine Run.region ?_
    refine Run.op rfl rfl rfl (y_add rfl rfl (by first | exact wI_in (by omega) | rfl)) ?_
    refine Run.op rfl rfl rfl (y_move rfl) ?_
    refine Run.nil ?_
    refine Run.nT ?_
    refine Run.round (m + 1, v35) ?_ ?_ ?_ ?_
    · show m + 1 ≤ h - c; omega
    · show h - c - (m + 1) < h - c - m; omega
    · show [(7, Ent.rows Kd v35 42 2 (pth ls i (m + 1))), _] = [(7, Ent.rows Kd v35 42 2 (pth ls i m ++ _)), _]; rw [pth_succ]
    · exact (Incl.same (t := 1) rfl (Incl.same (t := 7) rfl (Incl.same (t := 22) rfl (Incl.same (t := 23) rfl (Incl.int (t := 24) rfl (by omega) Incl.nil)))))
  · obtain rfl : m = h - c := by have := of_decide_eq_false hb; omega
    refine Run.exit ?_
    refine Run.eT ?_
    refine Run.eT ?_
    refine Run.eB ?_
    refine Run.nT ?_
    refine Run.seq ?_
    refine Run.region ?_
    refine Run.op rfl rfl rfl (y_move rfl) ?_
    refine Run.op rfl rfl rfl (y_assign rfl) ?_
    refine Run.op rfl rfl rfl (y_assign rfl) ?_
    refine Run.nil ?_
    refine Run.nT ?_
    refine Run.ret ?_
    refine Run.freeze 7 4 rfl rfl ?_
    exact Run.fin2 rfl rfl rfl (.tmp rfl) (.tmp rfl) (fun _ _ h => h) (fun _ _ h => h)

end

end Go.Vx
