/- Walks of the program's functions: the trees. Conditions: as each says. Printed by a program of our own (wip/tools/gen.py). -/
import Derived.Test.YtofnjbcbkfbomaaDoorVq
namespace Go.Vx
open Go Go.RowKit Go.Proofs
set_option maxRecDepth 100000
attribute [local irreducible] nd
variable (s : Seat)

section
variable [hF : HasF s]

theorem clash_fn (f : Int) (hf : fv f = true) (i : Nat) (hi : i < 4611686018427387904) (a : Dg) (ha : inD (fP f) a) (b : Dg) (hb0 : inD (fP f) b) (p : Lv) (hp : p.length ≤ 18) (hpi : inL (fP f) p) (q : Lv) (hq : q.length = p.length) (hqi : inL (fP f) q) : Fn s.env 65 [i64 f, i64 i, dig a, dig b, slc Kd p, slc Kd q] (stup [prs (clash f i a b p q).1, prs (clash f i a b p q).2.1, sbool (clash f i a b p q).2.2]) := by
  refine Fn.of Tryd.func65 rfl Tryd.ntmps65 rfl ?_
  intro w0 F0
  refine Run.seq ?_
  refine Run.region ?_
  refine Run.boxA rfl rfl ?_
  intro b8
  refine Run.boxA rfl rfl ?_
  intro b9
  refine q_alloc ti120 rfl rfl ?_
  intro b12
  refine q_alloc ti120 rfl rfl ?_
  intro b13
  refine Run.op rfl rfl rfl (y_assign rfl) ?_
  refine Run.nil ?_
  refine Run.nT ?_
  refine Run.seq ?_
  refine Run.seq ?_
  refine Run.region ?_
  refine Run.op rfl rfl rfl (y_move rfl) ?_
  refine Run.op rfl rfl rfl (y_lenS rfl Tryd.underlying40) ?_
  refine Run.op rfl rfl rfl (y_move rfl) ?_
  refine Run.op rfl rfl rfl (y_lenS rfl Tryd.underlying40) ?_
  refine Run.op rfl rfl rfl (Yields.bool (c := false) (y_neq rfl rfl) (by simp [hq])) ?_
  refine Run.op rfl rfl rfl (y_move rfl) ?_
  refine Run.opG rfl rfl rfl rfl rfl (y_move rfl) ?_
  refine Run.opG rfl rfl rfl rfl rfl (y_move rfl) ?_
  refine Run.opG rfl rfl rfl rfl rfl (y_loadPW 8 rfl rfl Tryd.underlying42 rfl ti42.siz) ?_
  refine Run.opG rfl rfl rfl rfl rfl (y_move rfl) ?_
  refine Run.opG rfl rfl rfl rfl rfl (q_call en62 rfl (opens_fn s f hf i a p hp ha hpi)) ?_
  refine Run.opG rfl rfl rfl rfl rfl (y_not rfl) ?_
  refine Run.op rfl rfl rfl (Yields.bool (c := false) (y_pickF rfl rfl) (rfl)) ?_
  refine Run.op rfl rfl rfl (y_move rfl) ?_
  refine Run.opG rfl rfl rfl rfl rfl (y_move rfl) ?_
  refine Run.opG rfl rfl rfl rfl rfl (y_move rfl) ?_
  refine Run.opG rfl rfl rfl rfl rfl (y_loadPW 9 rfl rfl Tryd.underlying42 rfl ti42.siz) ?_
  refine Run.opG rfl rfl rfl rfl rfl (y_move rfl) ?_
  refine Run.opG rfl rfl rfl rfl rfl (q_call en62 rfl (opens_fn s f hf i b q (by omega) hb0 hqi)) ?_
  refine Run.opG rfl rfl rfl rfl rfl (y_not rfl) ?_
  refine Run.op rfl rfl rfl (Yields.bool (c := false) (y_pickF rfl rfl) (rfl)) ?_
  refine Run.nil ?_
  refine Run.nT ?_
  refine Run.cond0 rfl ?_
  refine Run.skip ?_
  refine Run.nT ?_
  refine Run.seq ?_
  refine Run.weaken (Incl.same (t := 0) rfl (Incl.same (t := 1) rfl (Incl.same (t := 2) rfl (Incl.same (t := 3) rfl (Incl.same (t := 4) rfl (Incl.same (t := 5) rfl (Incl.same (t := 8) rfl (Incl.same (t := 9) rfl (Incl.same (t := 12) rfl (Incl.same (t := 13) rfl (Incl.same (t := 14) rfl Incl.nil))))))))))) ?_
  refine q_draw3 (β := Nat × Nat) ⟨3, 44, fun b => ([200, 201] : List Nat).zip ((fun b : Nat × Nat => [.blk b.1 42 (Kd a), .blk b.2 3 [i64 i]]) b), fun b : Nat × Nat => sfun 154 [sval (.pointer (some ⟨b.1, 0, none⟩)), sval (.pointer (some ⟨b.2, 0, none⟩)), spts [i64 f]]⟩ ?_ rfl
  refine Draw3.step rfl rfl rfl ⟨StepOk.op rfl rfl rfl (y_move rfl), fun _ => StepOk.op rfl rfl rfl (y_move rfl)⟩ rfl rfl ?_
  refine Draw3.step rfl rfl rfl ⟨StepOk.op rfl rfl rfl (y_move rfl), fun _ => StepOk.op rfl rfl rfl (y_move rfl)⟩ rfl rfl ?_
  refine Draw3.step rfl rfl rfl ⟨StepOk.op rfl rfl rfl (y_loadPW 8 rfl rfl Tryd.underlying42 rfl ti42.siz), fun _ => StepOk.op rfl rfl rfl (y_loadPW 8 rfl rfl Tryd.underlying42 rfl ti42.siz)⟩ rfl rfl ?_
  refine Draw3.new rfl ?_
  refine Draw3.step rfl rfl rfl ⟨StepOk.op rfl rfl rfl (y_move rfl), fun _ => StepOk.op rfl rfl rfl (y_move rfl)⟩ rfl rfl ?_
  refine Draw3.step rfl rfl rfl ⟨StepOk.op rfl rfl rfl (y_move rfl), fun _ => StepOk.op rfl rfl rfl (y_move rfl)⟩ rfl rfl ?_
  refine Draw3.step rfl rfl rfl ⟨StepOk.op rfl rfl rfl (y_loadPW 9 rfl rfl Tryd.underlying42 rfl ti42.siz), fun _ => StepOk.op rfl rfl rfl (y_loadPW 9 rfl rfl Tryd.underlying42 rfl ti42.siz)⟩ rfl rfl ?_
  refine Draw3.tail (m := 7) rfl rfl rfl (NewOk.call [200, 201] rfl en113 rfl (climber_fx s f i a) (fun _ => rfl) rfl) rfl rfl rfl ?_
  intro ⟨ax, ai⟩
  refine Run.callX [] [300, 301] en113 rfl (climber_fx s f i b) rfl (fun _ => rfl) rfl ?_
  intro ⟨bx, bi⟩
  refine Run.op rfl rfl rfl (y_assign rfl) ?_
  refine Run.op rfl rfl rfl (y_assign rfl) ?_
  refine Run.nil ?_
  refine Run.nT ?_
  refine Run.seq ?_
  refine Run.region ?_
  refine q_alloc ti120 rfl rfl ?_
  intro b17
  refine q_alloc ti120 rfl rfl ?_
  intro b18
  refine Run.nil ?_
  refine Run.nT ?_
  refine Run.seq ?_
  refine Run.seq ?_
  refine Run.region ?_
  refine Run.op rfl rfl rfl (y_move rfl) ?_
  refine Run.op rfl rfl rfl (y_lenS rfl Tryd.underlying40) ?_
  refine Run.op rfl rfl rfl (y_move rfl) ?_
  refine Run.nil ?_
  refine Run.nT ?_
  refine Run.block ?_
  refine Run.reorder [300, 301, 200, 201] rfl ?_
  refine Run.loop (ι := Nat × P2 × P2) (fun ⟨j, e17, e18⟩ => j ≤ p.length) (fun ⟨j, e17, e18⟩ => p.length - j) (fun ⟨j, e17, e18⟩ => [(300, .blk bx 42 (Kd (clm f i b q j))), (301, .blk bi 3 [i64 ((i / 2 ^ j : Nat) : Int)]), (200, .blk ax 42 (Kd (clm f i a p j))), (201, .blk ai 3 [i64 ((i / 2 ^ j : Nat) : Int)]), (18, .blk b18 120 (Kp2 e18)), (17, .blk b17 120 (Kp2 e17)), (13, .blk b13 120 (Kp2 (clacc f i a b p q j).2.1)), (12, .blk b12 120 (Kp2 (clacc f i a b p q j).1)), (9, .blk b9 42 (Kd (clm f i b q j))), (8, .blk b8 42 (Kd (clm f i a p j)))]) (fun ⟨j, e17, e18⟩ => [(4, slc Kd p), (5, slc Kd q), (8, sval (.pointer (some ⟨b8, 0, none⟩))), (9, sval (.pointer (some ⟨b9, 0, none⟩))), (12, sval (.pointer (some ⟨b12, 0, none⟩))), (13, sval (.pointer (some ⟨b13, 0, none⟩))), (14, sbool (clacc f i a b p q j).2.2), (15, sfun 154 [sval (.pointer (some ⟨ax, 0, none⟩)), sval (.pointer (some ⟨ai, 0, none⟩)), spts [i64 f]]), (16, sfun 154 [sval (.pointer (some ⟨bx, 0, none⟩)), sval (.pointer (some ⟨bi, 0, none⟩)), spts [i64 f]]), (17, sval (.pointer (some ⟨b17, 0, none⟩))), (18, sval (.pointer (some ⟨b18, 0, none⟩))), (50, i64 p.length), (51, i64 j)]) (0, zP, zP) (by omega) (by dsimp only; rw [clm_zero, clm_zero, Nat.pow_zero, Nat.div_one]; rfl) (Incl.same (t := 4) rfl (Incl.same (t := 5) rfl (Incl.same (t := 8) rfl (Incl.same (t := 9) rfl (Incl.same (t := 12) rfl (Incl.same (t := 13) rfl (Incl.same (t := 14) rfl (Incl.same (t := 15) rfl (Incl.same (t := 16) rfl (Incl.same (t := 17) rfl (Incl.same (t := 18) rfl (Incl.same (t := 50) rfl (Incl.same (t := 51) rfl Incl.nil))))))))))))) ?_
  rintro ⟨j, e17, e18⟩ hj
  change Run _ _ [(300, .blk bx 42 (Kd (clm f i b q j))), (301, .blk bi 3 [i64 ((i / 2 ^ j : Nat) : Int)]), (200, .blk ax 42 (Kd (clm f i a p j))), (201, .blk ai 3 [i64 ((i / 2 ^ j : Nat) : Int)]), (18, .blk b18 120 (Kp2 e18)), (17, .blk b17 120 (Kp2 e17)), (13, .blk b13 120 (Kp2 (clacc f i a b p q j).2.1)), (12, .blk b12 120 (Kp2 (clacc f i a b p q j).1)), (9, .blk b9 42 (Kd (clm f i b q j))), (8, .blk b8 42 (Kd (clm f i a p j)))] [(4, slc Kd p), (5, slc Kd q), (8, sval (.pointer (some ⟨b8, 0, none⟩))), (9, sval (.pointer (some ⟨b9, 0, none⟩))), (12, sval (.pointer (some ⟨b12, 0, none⟩))), (13, sval (.pointer (some ⟨b13, 0, none⟩))), (14, sbool (clacc f i a b p q j).2.2), (15, sfun 154 [sval (.pointer (some ⟨ax, 0, none⟩)), sval (.pointer (some ⟨ai, 0, none⟩)), spts [i64 f]]), (16, sfun 154 [sval (.pointer (some ⟨bx, 0, none⟩)), sval (.pointer (some ⟨bi, 0, none⟩)), spts [i64 f]]), (17, sval (.pointer (some ⟨b17, 0, none⟩))), (18, sval (.pointer (some ⟨b18, 0, none⟩))), (50, i64 p.length), (51, i64 j)] _
  have hd : i / 2 ^ j ≤ i := Nat.div_le_self _ _
  refine Run.seq ?_
  refine Run.region ?_
  refine Run.op rfl rfl rfl (y_lss rfl rfl) ?_
  refine Run.nil ?_
  refine Run.nT ?_
  refine Run.seq ?_
  refine Run.cond rfl (fun hb => ?_) (fun hb => ?_)
  · have hjl : j < p.length := by have := of_decide_eq_true hb; omega
    refine Run.skip ?_
    refine Run.nT ?_
    refine Run.seq ?_
    refine Run.block ?_
    refine Run.seq ?_
    refine Run.region ?_
    refine Run.op rfl rfl rfl (y_move rfl) ?_
    refine Run.op rfl rfl rfl (y_assign rfl) ?_
    refine Run.nil ?_
    refine Run.nT ?_
    refine Run.seq ?_
    refine Run.region ?_
    refine Run.op rfl rfl rfl (y_move rfl) ?_
    refine Run.op rfl rfl rfl (y_move rfl) ?_
    refine Run.op rfl rfl rfl (y_move rfl) ?_
    refine Run.op rfl rfl rfl (q_index j (p.getD j (0, 0)) rfl rfl Tryd.underlying40 ti42 (fun _ => rfl) (rfl) (getD_some _ hjl)) ?_
    refine Run.op rfl rfl rfl (y_loadW rfl Tryd.underlying42 rfl ti42.siz) ?_
    refine Run.callXV [200, 201] [200, 201] en154 rfl rfl (climber1_fx s f hf (i / 2 ^ j) (by omega) (clm f i a p j) (clm_in hf ha j) (p.getD j (0, 0)) (inL_get hpi hjl) ax ai) rfl (fun _ => rfl) rfl ?_
    intro _
    refine Run.op rfl rfl rfl (y_move rfl) ?_
    refine Run.op rfl rfl rfl (y_extract rfl rfl) ?_
    refine Run.op rfl rfl rfl (y_extract rfl rfl) ?_
    refine Run.storeW 17 rfl rfl rfl ti120.siz rfl ?_
    refine Run.storeW 8 rfl rfl rfl ti42.siz rfl ?_
    refine Run.nil ?_
    refine Run.nT ?_
    refine Run.seq ?_
    refine Run.region ?_
    refine Run.op rfl rfl rfl (y_move rfl) ?_
    refine Run.op rfl rfl rfl (y_move rfl) ?_
    refine Run.op rfl rfl rfl (y_move rfl) ?_
    refine Run.op rfl rfl rfl (q_index j (q.getD j (0, 0)) rfl rfl Tryd.underlying40 ti42 (fun _ => rfl) (rfl) (getD_some _ (by omega))) ?_
    refine Run.op rfl rfl rfl (y_loadW rfl Tryd.underlying42 rfl ti42.siz) ?_
    refine Run.callXV [300, 301] [300, 301] en154 rfl rfl (climber1_fx s f hf (i / 2 ^ j) (by omega) (clm f i b q j) (clm_in hf hb0 j) (q.getD j (0, 0)) (inL_get hqi (by omega)) bx bi) rfl (fun _ => rfl) rfl ?_
    intro _
    refine Run.op rfl rfl rfl (y_move rfl) ?_
    refine Run.op rfl rfl rfl (y_extract rfl rfl) ?_
    refine Run.op rfl rfl rfl (y_extract rfl rfl) ?_
    refine Run.storeW 18 rfl rfl rfl ti120.siz rfl ?_
    refine Run.storeW 9 rfl rfl rfl ti42.siz rfl ?_
    refine Run.nil ?_
    refine Run.nT ?_
    refine Run.seq ?_
    refine Run.region ?_
    refine Run.op rfl rfl rfl (y_loadPW 17 rfl rfl Tryd.underlying120 rfl ti120.siz) ?_
    refine Run.op rfl rfl rfl (y_loadPW 18 rfl rfl Tryd.underlying120 rfl ti120.siz) ?_
    refine Run.op rfl rfl rfl (y_neP rfl rfl rfl) ?_
    refine Run.nil ?_
    refine Run.nT ?_
    refine Run.cond rfl (fun hb => ?_) (fun hb => ?_)
    · have hne : ord (i / 2 ^ j) (clm f i a p j) (p.getD j (0, 0)) ≠ ord (i / 2 ^ j) (clm f i b q j) (q.getD j (0, 0)) := by simpa using hb
      have hcl : clacc f i a b p q (j + 1) = (ord (i / 2 ^ j) (clm f i a p j) (p.getD j (0, 0)), ord (i / 2 ^ j) (clm f i b q j) (q.getD j (0, 0)), true) := by rw [clacc, if_pos hne]
      have hca := clm_succ (f := f) (i := i) (x := a) hjl
      have hcb := clm_succ (f := f) (i := i) (x := b) (l := q) (j := j) (by omega)
      refine q_all (N := 5) rfl rfl ?_
      refine Run.any2 0 1 (by kernel_rfl) ?_ ?_
      · skip
        refine Run.opAt rfl ?_
        refine Run.op rfl rfl rfl (y_loadPW 17 rfl rfl Tryd.underlying120 rfl ti120.siz) ?_
        refine Run.nil ?_
        refine Run.nT ?_
        refine Run.any2 1 2 (by kernel_rfl) ?_ ?_
        · skip
          refine Run.opAt rfl ?_
          refine Run.op rfl rfl rfl (y_loadPW 18 rfl rfl Tryd.underlying120 rfl ti120.siz) ?_
          refine Run.nil ?_
          refine Run.nT ?_
          refine Run.any1 2 (by kernel_rfl) ?_
          refine Run.opAt rfl ?_
          refine Run.storeW 12 rfl rfl rfl ti120.siz rfl ?_
          refine Run.nil ?_
          refine Run.nT ?_
          refine Run.any1 3 (by kernel_rfl) ?_
          refine Run.opAt rfl ?_
          refine Run.storeW 13 rfl rfl rfl ti120.siz rfl ?_
          refine Run.nil ?_
          refine Run.nT ?_
          refine Run.any1 4 (by kernel_rfl) ?_
          refine Run.opAt rfl ?_
          refine Run.op rfl rfl rfl (y_assign rfl) ?_
          refine Run.nil ?_
          refine Run.nT ?_
          refine Run.any0 (by kernel_rfl) ?_
          refine Run.nB ?_
          refine Run.nT ?_
          refine Run.region ?_
          refine Run.op rfl rfl rfl (y_add rfl rfl (by first | exact wI_in (by omega) | rfl)) ?_
          refine Run.op rfl rfl rfl (y_move rfl) ?_
          refine Run.nil ?_
          refine Run.nT ?_
          refine Run.round (j + 1, ord (i / 2 ^ j) (clm f i a p j) (p.getD j (0, 0)), ord (i / 2 ^ j) (clm f i b q j) (q.getD j (0, 0))) ?_ ?_ ?_ ?_
          · show j + 1 ≤ p.length; omega
          · show p.length - (j + 1) < p.length - j; omega
          · dsimp only
            rw [hcl, hca, hcb, ← div_succ]
            rfl
          · exact (Incl.same (t := 4) rfl (Incl.same (t := 5) rfl (Incl.same (t := 8) rfl (Incl.same (t := 9) rfl (Incl.same (t := 12) rfl (Incl.same (t := 13) rfl (Incl.eq (t := 14) rfl (by rw [hcl]) (Incl.same (t := 15) rfl (Incl.same (t := 16) rfl (Incl.same (t := 17) rfl (Incl.same (t := 18) rfl (Incl.same (t := 50) rfl (Incl.int (t := 51) rfl (by omega) Incl.nil)))))))))))))
        · skip
          refine Run.opAt rfl ?_
          refine Run.storeW 12 rfl rfl rfl ti120.siz rfl ?_
          refine Run.nil ?_
          refine Run.nT ?_
          refine Run.any1 1 (by kernel_rfl) ?_
          refine Run.opAt rfl ?_
          refine Run.op rfl rfl rfl (y_loadPW 18 rfl rfl Tryd.underlying120 rfl ti120.siz) ?_
          refine Run.nil ?_
          refine Run.nT ?_
          refine Run.any1 3 (by kernel_rfl) ?_
          refine Run.opAt rfl ?_
          refine Run.storeW 13 rfl rfl rfl ti120.siz rfl ?_
          refine Run.nil ?_
          refine Run.nT ?_
          refine Run.any1 4 (by kernel_rfl) ?_
          refine Run.opAt rfl ?_
          refine Run.op rfl rfl rfl (y_assign rfl) ?_
          refine Run.nil ?_
          refine Run.nT ?_
          refine Run.any0 (by kernel_rfl) ?_
          refine Run.nB ?_
          refine Run.nT ?_
          refine Run.region ?_
          refine Run.op rfl rfl rfl (y_add rfl rfl (by first | exact wI_in (by omega) | rfl)) ?_
          refine Run.op rfl rfl rfl (y_move rfl) ?_
          refine Run.nil ?_
          refine Run.nT ?_
          refine Run.round (j + 1, ord (i / 2 ^ j) (clm f i a p j) (p.getD j (0, 0)), ord (i / 2 ^ j) (clm f i b q j) (q.getD j (0, 0))) ?_ ?_ ?_ ?_
          · show j + 1 ≤ p.length; omega
          · show p.length - (j + 1) < p.length - j; omega
          · dsimp only
            rw [hcl, hca, hcb, ← div_succ]
            rfl
          · exact (Incl.same (t := 4) rfl (Incl.same (t := 5) rfl (Incl.same (t := 8) rfl (Incl.same (t := 9) rfl (Incl.same (t := 12) rfl (Incl.same (t := 13) rfl (Incl.eq (t := 14) rfl (by rw [hcl]) (Incl.same (t := 15) rfl (Incl.same (t := 16) rfl (Incl.same (t := 17) rfl (Incl.same (t := 18) rfl (Incl.same (t := 50) rfl (Incl.int (t := 51) rfl (by omega) Incl.nil)))))))))))))
      · skip
        refine Run.opAt rfl ?_
        refine Run.op rfl rfl rfl (y_loadPW 18 rfl rfl Tryd.underlying120 rfl ti120.siz) ?_
        refine Run.nil ?_
        refine Run.nT ?_
        refine Run.any1 0 (by kernel_rfl) ?_
        refine Run.opAt rfl ?_
        refine Run.op rfl rfl rfl (y_loadPW 17 rfl rfl Tryd.underlying120 rfl ti120.siz) ?_
        refine Run.nil ?_
        refine Run.nT ?_
        refine Run.any1 2 (by kernel_rfl) ?_
        refine Run.opAt rfl ?_
        refine Run.storeW 12 rfl rfl rfl ti120.siz rfl ?_
        refine Run.nil ?_
        refine Run.nT ?_
        refine Run.any1 3 (by kernel_rfl) ?_
        refine Run.opAt rfl ?_
        refine Run.storeW 13 rfl rfl rfl ti120.siz rfl ?_
        refine Run.nil ?_
        refine Run.nT ?_
        refine Run.any1 4 (by kernel_rfl) ?_
        refine Run.opAt rfl ?_
        refine Run.op rfl rfl rfl (y_assign rfl) ?_
        refine Run.nil ?_
        refine Run.nT ?_
        refine Run.any0 (by kernel_rfl) ?_
        refine Run.nB ?_
        refine Run.nT ?_
        refine Run.region ?_
        refine Run.op rfl rfl rfl (y_add rfl rfl (by first | exact wI_in (by omega) | rfl)) ?_
        refine Run.op rfl rfl rfl (y_move rfl) ?_
        refine Run.nil ?_
        refine Run.nT ?_
        refine Run.round (j + 1, ord (i / 2 ^ j) (clm f i a p j) (p.getD j (0, 0)), ord (i / 2 ^ j) (clm f i b q j) (q.getD j (0, 0))) ?_ ?_ ?_ ?_
        · show j + 1 ≤ p.length; omega
        · show p.length - (j + 1) < p.length - j; omega
        · dsimp only
          rw [hcl, hca, hcb, ← div_succ]
          rfl
        · exact (Incl.same (t := 4) rfl (Incl.same (t := 5) rfl (Incl.same (t := 8) rfl (Incl.same (t := 9) rfl (Incl.same (t := 12) rfl (Incl.same (t := 13) rfl (Incl.eq (t := 14) rfl (by rw [hcl]) (Incl.same (t := 15) rfl (Incl.same (t := 16) rfl (Incl.same (t := 17) rfl (Incl.same (t := 18) rfl (Incl.same (t := 50) rfl (Incl.int (t := 51) rfl (by omega) Incl.nil)))))))))))))
    · have hne : ¬ (ord (i / 2 ^ j) (clm f i a p j) (p.getD j (0, 0)) ≠ ord (i / 2 ^ j) (clm f i b q j) (q.getD j (0, 0))) := by simpa using hb
      have hcl : clacc f i a b p q (j + 1) = clacc f i a b p q j := by rw [clacc, if_neg hne]
      have hca := clm_succ (f := f) (i := i) (x := a) hjl
      have hcb := clm_succ (f := f) (i := i) (x := b) (l := q) (j := j) (by omega)
      refine Run.skip ?_
      refine Run.nB ?_
      refine Run.nT ?_
      refine Run.region ?_
      refine Run.op rfl rfl rfl (y_add rfl rfl (by first | exact wI_in (by omega) | rfl)) ?_
      refine Run.op rfl rfl rfl (y_move rfl) ?_
      refine Run.nil ?_
      refine Run.nT ?_
      refine Run.round (j + 1, ord (i / 2 ^ j) (clm f i a p j) (p.getD j (0, 0)), ord (i / 2 ^ j) (clm f i b q j) (q.getD j (0, 0))) ?_ ?_ ?_ ?_
      · show j + 1 ≤ p.length; omega
      · show p.length - (j + 1) < p.length - j; omega
      · dsimp only
        rw [hcl, hca, hcb, ← div_succ]
        rfl
      · exact (Incl.same (t := 4) rfl (Incl.same (t := 5) rfl (Incl.same (t := 8) rfl (Incl.same (t := 9) rfl (Incl.same (t := 12) rfl (Incl.same (t := 13) rfl (Incl.eq (t := 14) rfl (by rw [hcl]) (Incl.same (t := 15) rfl (Incl.same (t := 16) rfl (Incl.same (t := 17) rfl (Incl.same (t := 18) rfl (Incl.same (t := 50) rfl (Incl.int (t := 51) rfl (by omega) Incl.nil)))))))))))))
  · obtain rfl : j = p.length := by have := of_decide_eq_false hb; omega
    have ea : clm f i a p p.length = climb f i a p := clm_all _ _ _ _
    have eb : clm f i b q p.length = climb f i b q := by rw [← hq]; exact clm_all _ _ _ _
    refine Run.exit ?_
    refine Run.eT ?_
    refine Run.eT ?_
    refine Run.eB ?_
    refine Run.nT ?_
    refine Run.seq ?_
    refine Run.seq ?_
    refine Run.region ?_
    refine Run.op rfl rfl rfl (y_loadPW 8 rfl rfl Tryd.underlying42 rfl ti42.siz) ?_
    refine Run.op rfl rfl rfl (y_loadPW 9 rfl rfl Tryd.underlying42 rfl ti42.siz) ?_
    refine Run.op rfl rfl rfl (y_neD rfl rfl rfl) ?_
    refine Run.nil ?_
    refine Run.nT ?_
    refine Run.cond rfl (fun hb => ?_) (fun hb => ?_)
    · have hne : clm f i a p p.length ≠ clm f i b q p.length := by simpa using hb
      have hR : clash f i a b p q = (zP, zP, false) := by unfold clash; rw [← ea, ← eb, if_pos hne]
      refine Run.seq ?_
      refine Run.region ?_
      refine Run.op rfl rfl rfl (q_buildA Tryd.underlying120 ti120 rfl ti42 .nil) ?_
      refine Run.op rfl rfl rfl (q_buildA Tryd.underlying120 ti120 rfl ti42 .nil) ?_
      refine Run.storeW 12 rfl rfl rfl ti120.siz rfl ?_
      refine Run.storeW 13 rfl rfl rfl ti120.siz rfl ?_
      refine Run.op rfl rfl rfl (y_assign rfl) ?_
      refine Run.nil ?_
      refine Run.nT ?_
      refine Run.ret ?_
      refine Run.rT ?_
      exact Run.fin3 rfl rfl rfl (.agg 12 rfl rfl Tryd.underlying120 rfl ti120.siz) (.agg 13 rfl rfl Tryd.underlying120 rfl ti120.siz) (.tmp rfl) (fun _ _ h => by rw [hR]; exact h) (fun _ _ h => by rw [hR]; exact h) (fun _ _ h => by rw [hR]; exact h)
    · have hne : ¬ (clm f i a p p.length ≠ clm f i b q p.length) := by simpa using hb
      have hR : clash f i a b p q = clacc f i a b p q p.length := by unfold clash; rw [← ea, ← eb, if_neg hne]
      refine Run.skip ?_
      refine Run.nT ?_
      refine Run.seq ?_
      refine q_all (N := 6) rfl rfl ?_
      refine Run.any3 0 1 2 (by kernel_rfl) ?_ ?_ ?_
      · skip
        refine Run.opAt rfl ?_
        refine Run.op rfl rfl rfl (y_loadPW 12 rfl rfl Tryd.underlying120 rfl ti120.siz) ?_
        refine Run.nil ?_
        refine Run.nT ?_
        refine Run.any3 1 2 3 (by kernel_rfl) ?_ ?_ ?_
        · skip
          refine Run.opAt rfl ?_
          refine Run.op rfl rfl rfl (y_loadPW 13 rfl rfl Tryd.underlying120 rfl ti120.siz) ?_
          refine Run.nil ?_
          refine Run.nT ?_
          refine Run.any2 2 3 (by kernel_rfl) ?_ ?_
          · skip
            refine Run.opAt rfl ?_
            refine Run.op rfl rfl rfl (y_move rfl) ?_
            refine Run.nil ?_
            refine Run.nT ?_
            refine Run.any1 3 (by kernel_rfl) ?_
            refine Run.opAt rfl ?_
            refine Run.storeW 12 rfl rfl rfl ti120.siz rfl ?_
            refine Run.nil ?_
            refine Run.nT ?_
            refine Run.any1 4 (by kernel_rfl) ?_
            refine Run.opAt rfl ?_
            refine Run.storeW 13 rfl rfl rfl ti120.siz rfl ?_
            refine Run.nil ?_
            refine Run.nT ?_
            refine Run.any1 5 (by kernel_rfl) ?_
            refine Run.opAt rfl ?_
            refine Run.op rfl rfl rfl (y_assign rfl) ?_
            refine Run.nil ?_
            refine Run.nT ?_
            refine Run.any0 (by kernel_rfl) ?_
            refine Run.nT ?_
            refine Run.ret ?_
            exact Run.fin3 rfl rfl rfl (.agg 12 rfl rfl Tryd.underlying120 rfl ti120.siz) (.agg 13 rfl rfl Tryd.underlying120 rfl ti120.siz) (.tmp rfl) (fun _ _ h => by rw [hR]; exact h) (fun _ _ h => by rw [hR]; exact h) (fun _ _ h => by rw [hR]; exact h)
          · skip
            refine Run.opAt rfl ?_
            refine Run.storeW 12 rfl rfl rfl ti120.siz rfl ?_
            refine Run.nil ?_
            refine Run.nT ?_
            refine Run.any2 2 4 (by kernel_rfl) ?_ ?_
            · skip
              refine Run.opAt rfl ?_
              refine Run.op rfl rfl rfl (y_move rfl) ?_
              refine Run.nil ?_
              refine Run.nT ?_
              refine Run.any1 4 (by kernel_rfl) ?_
              refine Run.opAt rfl ?_
              refine Run.storeW 13 rfl rfl rfl ti120.siz rfl ?_
              refine Run.nil ?_
              refine Run.nT ?_
              refine Run.any1 5 (by kernel_rfl) ?_
              refine Run.opAt rfl ?_
              refine Run.op rfl rfl rfl (y_assign rfl) ?_
              refine Run.nil ?_
              refine Run.nT ?_
              refine Run.any0 (by kernel_rfl) ?_
              refine Run.nT ?_
              refine Run.ret ?_
              exact Run.fin3 rfl rfl rfl (.agg 12 rfl rfl Tryd.underlying120 rfl ti120.siz) (.agg 13 rfl rfl Tryd.underlying120 rfl ti120.siz) (.tmp rfl) (fun _ _ h => by rw [hR]; exact h) (fun _ _ h => by rw [hR]; exact h) (fun _ _ h => by rw [hR]; exact h)
            · skip
              refine Run.opAt rfl ?_
              refine Run.storeW 13 rfl rfl rfl ti120.siz rfl ?_
              refine Run.nil ?_
              refine Run.nT ?_
              refine Run.any1 2 (by kernel_rfl) ?_
              refine Run.opAt rfl ?_
              refine Run.op rfl rfl rfl (y_move rfl) ?_
              refine Run.nil ?_
              refine Run.nT ?_
              refine Run.any1 5 (by kernel_rfl) ?_
              refine Run.opAt rfl ?_
              refine Run.op rfl rfl rfl (y_assign rfl) ?_
              refine Run.nil ?_
              refine Run.nT ?_
              refine Run.any0 (by kernel_rfl) ?_
              refine Run.nT ?_
              refine Run.ret ?_
              exact Run.fin3 rfl rfl rfl (.agg 12 rfl rfl Tryd.underlying120 rfl ti120.siz) (.agg 13 rfl rfl Tryd.underlying120 rfl ti120.siz) (.tmp rfl) (fun _ _ h => by rw [hR]; exact h) (fun _ _ h => by rw [hR]; exact h) (fun _ _ h => by rw [hR]; exact h)
        · skip
          refine Run.opAt rfl ?_
          refine Run.op rfl rfl rfl (y_move rfl) ?_
          refine Run.nil ?_
          refine Run.nT ?_
          refine Run.any2 1 3 (by kernel_rfl) ?_ ?_
          · skip
            refine Run.opAt rfl ?_
            refine Run.op rfl rfl rfl (y_loadPW 13 rfl rfl Tryd.underlying120 rfl ti120.siz) ?_
            refine Run.nil ?_
            refine Run.nT ?_
            refine Run.any1 3 (by kernel_rfl) ?_
            refine Run.opAt rfl ?_
            refine Run.storeW 12 rfl rfl rfl ti120.siz rfl ?_
            refine Run.nil ?_
            refine Run.nT ?_
            refine Run.any1 4 (by kernel_rfl) ?_
            refine Run.opAt rfl ?_
            refine Run.storeW 13 rfl rfl rfl ti120.siz rfl ?_
            refine Run.nil ?_
            refine Run.nT ?_
            refine Run.any1 5 (by kernel_rfl) ?_
            refine Run.opAt rfl ?_
            refine Run.op rfl rfl rfl (y_assign rfl) ?_
            refine Run.nil ?_
            refine Run.nT ?_
            refine Run.any0 (by kernel_rfl) ?_
            refine Run.nT ?_
            refine Run.ret ?_
            exact Run.fin3 rfl rfl rfl (.agg 12 rfl rfl Tryd.underlying120 rfl ti120.siz) (.agg 13 rfl rfl Tryd.underlying120 rfl ti120.siz) (.tmp rfl) (fun _ _ h => by rw [hR]; exact h) (fun _ _ h => by rw [hR]; exact h) (fun _ _ h => by rw [hR]; exact h)
          · skip
            refine Run.opAt rfl ?_
            refine Run.storeW 12 rfl rfl rfl ti120.siz rfl ?_
            refine Run.nil ?_
            refine Run.nT ?_
            refine Run.any1 1 (by kernel_rfl) ?_
            refine Run.opAt rfl ?_
            refine Run.op rfl rfl rfl (y_loadPW 13 rfl rfl Tryd.underlying120 rfl ti120.siz) ?_
            refine Run.nil ?_
            refine Run.nT ?_
            refine Run.any1 4 (by kernel_rfl) ?_
            refine Run.opAt rfl ?_
            refine Run.storeW 13 rfl rfl rfl ti120.siz rfl ?_
            refine Run.nil ?_
            refine Run.nT ?_
            refine Run.any1 5 (by kernel_rfl) ?_
            refine Run.opAt rfl ?_
            refine Run.op rfl rfl rfl (y_assign rfl) ?_
            refine Run.nil ?_
            refine Run.nT ?_
            refine Run.any0 (by kernel_rfl) ?_
            refine Run.nT ?_
            refine Run.ret ?_
            exact Run.fin3 rfl rfl rfl (.agg 12 rfl rfl Tryd.underlying120 rfl ti120.siz) (.agg 13 rfl rfl Tryd.underlying120 rfl ti120.siz) (.tmp rfl) (fun _ _ h => by rw [hR]; exact h) (fun _ _ h => by rw [hR]; exact h) (fun _ _ h => by rw [hR]; exact h)
        · skip
          refine Run.opAt rfl ?_
          refine Run.storeW 12 rfl rfl rfl ti120.siz rfl ?_
          refine Run.nil ?_
          refine Run.nT ?_
          refine Run.any2 1 2 (by kernel_rfl) ?_ ?_
          · skip
            refine Run.opAt rfl ?_
            refine Run.op rfl rfl rfl (y_loadPW 13 rfl rfl Tryd.underlying120 rfl ti120.siz) ?_
            refine Run.nil ?_
            refine Run.nT ?_
            refine Run.any2 2 4 (by kernel_rfl) ?_ ?_
            · skip
              refine Run.opAt rfl ?_
              refine Run.op rfl rfl rfl (y_move rfl) ?_
              refine Run.nil ?_
              refine Run.nT ?_
              refine Run.any1 4 (by kernel_rfl) ?_
              refine Run.opAt rfl ?_
              refine Run.storeW 13 rfl rfl rfl ti120.siz rfl ?_
              refine Run.nil ?_
              refine Run.nT ?_
              refine Run.any1 5 (by kernel_rfl) ?_
              refine Run.opAt rfl ?_
              refine Run.op rfl rfl rfl (y_assign rfl) ?_
              refine Run.nil ?_
              refine Run.nT ?_
              refine Run.any0 (by kernel_rfl) ?_
              refine Run.nT ?_
              refine Run.ret ?_
              exact Run.fin3 rfl rfl rfl (.agg 12 rfl rfl Tryd.underlying120 rfl ti120.siz) (.agg 13 rfl rfl Tryd.underlying120 rfl ti120.siz) (.tmp rfl) (fun _ _ h => by rw [hR]; exact h) (fun _ _ h => by rw [hR]; exact h) (fun _ _ h => by rw [hR]; exact h)
            · skip
              refine Run.opAt rfl ?_
              refine Run.storeW 13 rfl rfl rfl ti120.siz rfl ?_
              refine Run.nil ?_
              refine Run.nT ?_
              refine Run.any1 2 (by kernel_rfl) ?_
              refine Run.opAt rfl ?_
              refine Run.op rfl rfl rfl (y_move rfl) ?_
              refine Run.nil ?_
              refine Run.nT ?_
              refine Run.any1 5 (by kernel_rfl) ?_
              refine Run.opAt rfl ?_
              refine Run.op rfl rfl rfl (y_assign rfl) ?_
              refine Run.nil ?_
              refine Run.nT ?_
              refine Run.any0 (by kernel_rfl) ?_
              refine Run.nT ?_
              refine Run.ret ?_
              exact Run.fin3 rfl rfl rfl (.agg 12 rfl rfl Tryd.underlying120 rfl ti120.siz) (.agg 13 rfl rfl Tryd.underlying120 rfl ti120.siz) (.tmp rfl) (fun _ _ h => by rw [hR]; exact h) (fun _ _ h => by rw [hR]; exact h) (fun _ _ h => by rw [hR]; exact h)
          · skip
            refine Run.opAt rfl ?_
            refine Run.op rfl rfl rfl (y_move rfl) ?_
            refine Run.nil ?_
            refine Run.nT ?_
            refine Run.any1 1 (by kernel_rfl) ?_
            refine Run.opAt rfl ?_
            refine Run.op rfl rfl rfl (y_loadPW 13 rfl rfl Tryd.underlying120 rfl ti120.siz) ?_
            refine Run.nil ?_
            refine Run.nT ?_
            refine Run.any1 4 (by kernel_rfl) ?_
            refine Run.opAt rfl ?_
            refine Run.storeW 13 rfl rfl rfl ti120.siz rfl ?_
            refine Run.nil ?_
            refine Run.nT ?_
            refine Run.any1 5 (by kernel_rfl) ?_
            refine Run.opAt rfl ?_
            refine Run.op rfl rfl rfl (y_assign rfl) ?_
            refine Run.nil ?_
            refine Run.nT ?_
            refine Run.any0 (by kernel_rfl) ?_
            refine Run.nT ?_
            refine Run.ret ?_
            exact Run.fin3 rfl rfl rfl (.agg 12 rfl rfl Tryd.underlying120 rfl ti120.siz) (.agg 13 rfl rfl Tryd.underlying120 rfl ti120.siz) (.tmp rfl) (fun _ _ h => by rw [hR]; exact h) (fun _ _ h => by rw [hR]; exact h) (fun _ _ h => by rw [hR]; exact h)
      · skip
        refine Run.opAt rfl ?_
        refine Run.op rfl rfl rfl (y_loadPW 13 rfl rfl Tryd.underlying120 rfl ti120.siz) ?_
        refine Run.nil ?_
        refine Run.nT ?_
        refine Run.any2 0 2 (by kernel_rfl) ?_ ?_
        · skip
          refine Run.opAt rfl ?_
          refine Run.op rfl rfl rfl (y_loadPW 12 rfl rfl Tryd.underlying120 rfl ti120.siz) ?_
          refine Run.nil ?_
          refine Run.nT ?_
          refine Run.any2 2 3 (by kernel_rfl) ?_ ?_
          · skip
            refine Run.opAt rfl ?_
            refine Run.op rfl rfl rfl (y_move rfl) ?_
            refine Run.nil ?_
            refine Run.nT ?_
            refine Run.any1 3 (by kernel_rfl) ?_
            refine Run.opAt rfl ?_
            refine Run.storeW 12 rfl rfl rfl ti120.siz rfl ?_
            refine Run.nil ?_
            refine Run.nT ?_
            refine Run.any1 4 (by kernel_rfl) ?_
            refine Run.opAt rfl ?_
            refine Run.storeW 13 rfl rfl rfl ti120.siz rfl ?_
            refine Run.nil ?_
            refine Run.nT ?_
            refine Run.any1 5 (by kernel_rfl) ?_
            refine Run.opAt rfl ?_
            refine Run.op rfl rfl rfl (y_assign rfl) ?_
            refine Run.nil ?_
            refine Run.nT ?_
            refine Run.any0 (by kernel_rfl) ?_
            refine Run.nT ?_
            refine Run.ret ?_
            exact Run.fin3 rfl rfl rfl (.agg 12 rfl rfl Tryd.underlying120 rfl ti120.siz) (.agg 13 rfl rfl Tryd.underlying120 rfl ti120.siz) (.tmp rfl) (fun _ _ h => by rw [hR]; exact h) (fun _ _ h => by rw [hR]; exact h) (fun _ _ h => by rw [hR]; exact h)
          · skip
            refine Run.opAt rfl ?_
            refine Run.storeW 12 rfl rfl rfl ti120.siz rfl ?_
            refine Run.nil ?_
            refine Run.nT ?_
            refine Run.any2 2 4 (by kernel_rfl) ?_ ?_
            · skip
              refine Run.opAt rfl ?_
              refine Run.op rfl rfl rfl (y_move rfl) ?_
              refine Run.nil ?_
              refine Run.nT ?_
              refine Run.any1 4 (by kernel_rfl) ?_
              refine Run.opAt rfl ?_
              refine Run.storeW 13 rfl rfl rfl ti120.siz rfl ?_
              refine Run.nil ?_
              refine Run.nT ?_
              refine Run.any1 5 (by kernel_rfl) ?_
              refine Run.opAt rfl ?_
              refine Run.op rfl rfl rfl (y_assign rfl) ?_
              refine Run.nil ?_
              refine Run.nT ?_
              refine Run.any0 (by kernel_rfl) ?_
              refine Run.nT ?_
              refine Run.ret ?_
              exact Run.fin3 rfl rfl rfl (.agg 12 rfl rfl Tryd.underlying120 rfl ti120.siz) (.agg 13 rfl rfl Tryd.underlying120 rfl ti120.siz) (.tmp rfl) (fun _ _ h => by rw [hR]; exact h) (fun _ _ h => by rw [hR]; exact h) (fun _ _ h => by rw [hR]; exact h)
            · skip
              refine Run.opAt rfl ?_
              refine Run.storeW 13 rfl rfl rfl ti120.siz rfl ?_
              refine Run.nil ?_
              refine Run.nT ?_
              refine Run.any1 2 (by kernel_rfl) ?_
              refine Run.opAt rfl ?_
              refine Run.op rfl rfl rfl (y_move rfl) ?_
              refine Run.nil ?_
              refine Run.nT ?_
              refine Run.any1 5 (by kernel_rfl) ?_
              refine Run.opAt rfl ?_
              refine Run.op rfl rfl rfl (y_assign rfl) ?_
              refine Run.nil ?_
              refine Run.nT ?_
              refine Run.any0 (by kernel_rfl) ?_
              refine Run.nT ?_
              refine Run.ret ?_
              exact Run.fin3 rfl rfl rfl (.agg 12 rfl rfl Tryd.underlying120 rfl ti120.siz) (.agg 13 rfl rfl Tryd.underlying120 rfl ti120.siz) (.tmp rfl) (fun _ _ h => by rw [hR]; exact h) (fun _ _ h => by rw [hR]; exact h) (fun _ _ h => by rw [hR]; exact h)
        · skip
          refine Run.opAt rfl ?_
          refine Run.op rfl rfl rfl (y_move rfl) ?_
          refine Run.nil ?_
          refine Run.nT ?_
          refine Run.any1 0 (by kernel_rfl) ?_
          refine Run.opAt rfl ?_
          refine Run.op rfl rfl rfl (y_loadPW 12 rfl rfl Tryd.underlying120 rfl ti120.siz) ?_
          refine Run.nil ?_
          refine Run.nT ?_
          refine Run.any1 3 (by kernel_rfl) ?_
          refine Run.opAt rfl ?_
          refine Run.storeW 12 rfl rfl rfl ti120.siz rfl ?_
          refine Run.nil ?_
          refine Run.nT ?_
          refine Run.any1 4 (by kernel_rfl) ?_
          refine Run.opAt rfl ?_
          refine Run.storeW 13 rfl rfl rfl ti120.siz rfl ?_
          refine Run.nil ?_
          refine Run.nT ?_
          refine Run.any1 5 (by kernel_rfl) ?_
          refine Run.opAt rfl ?_
          refine Run.op rfl rfl rfl (y_assign rfl) ?_
          refine Run.nil ?_
          refine Run.nT ?_
          refine Run.any0 (by kernel_rfl) ?_
          refine Run.nT ?_
          refine Run.ret ?_
          exact Run.fin3 rfl rfl rfl (.agg 12 rfl rfl Tryd.underlying120 rfl ti120.siz) (.agg 13 rfl rfl Tryd.underlying120 rfl ti120.siz) (.tmp rfl) (fun _ _ h => by rw [hR]; exact h) (fun _ _ h => by rw [hR]; exact h) (fun _ _ h => by rw [hR]; exact h)
      · skip
        refine Run.opAt rfl ?_
        refine Run.op rfl rfl rfl (y_move rfl) ?_
        refine Run.nil ?_
        refine Run.nT ?_
        refine Run.any2 0 1 (by kernel_rfl) ?_ ?_
        · skip
          refine Run.opAt rfl ?_
          refine Run.op rfl rfl rfl (y_loadPW 12 rfl rfl Tryd.underlying120 rfl ti120.siz) ?_
          refine Run.nil ?_
          refine Run.nT ?_
          refine Run.any2 1 3 (by kernel_rfl) ?_ ?_
          · skip
            refine Run.opAt rfl ?_
            refine Run.op rfl rfl rfl (y_loadPW 13 rfl rfl Tryd.underlying120 rfl ti120.siz) ?_
            refine Run.nil ?_
            refine Run.nT ?_
            refine Run.any1 3 (by kernel_rfl) ?_
            refine Run.opAt rfl ?_
            refine Run.storeW 12 rfl rfl rfl ti120.siz rfl ?_
            refine Run.nil ?_
            refine Run.nT ?_
            refine Run.any1 4 (by kernel_rfl) ?_
            refine Run.opAt rfl ?_
            refine Run.storeW 13 rfl rfl rfl ti120.siz rfl ?_
            refine Run.nil ?_
            refine Run.nT ?_
            refine Run.any1 5 (by kernel_rfl) ?_
            refine Run.opAt rfl ?_
            refine Run.op rfl rfl rfl (y_assign rfl) ?_
            refine Run.nil ?_
            refine Run.nT ?_
            refine Run.any0 (by kernel_rfl) ?_
            refine Run.nT ?_
            refine Run.ret ?_
            exact Run.fin3 rfl rfl rfl (.agg 12 rfl rfl Tryd.underlying120 rfl ti120.siz) (.agg 13 rfl rfl Tryd.underlying120 rfl ti120.siz) (.tmp rfl) (fun _ _ h => by rw [hR]; exact h) (fun _ _ h => by rw [hR]; exact h) (fun _ _ h => by rw [hR]; exact h)
          · skip
            refine Run.opAt rfl ?_
            refine Run.storeW 12 rfl rfl rfl ti120.siz rfl ?_
            refine Run.nil ?_
            refine Run.nT ?_
            refine Run.any1 1 (by kernel_rfl) ?_
            refine Run.opAt rfl ?_
            refine Run.op rfl rfl rfl (y_loadPW 13 rfl rfl Tryd.underlying120 rfl ti120.siz) ?_
            refine Run.nil ?_
            refine Run.nT ?_
            refine Run.any1 4 (by kernel_rfl) ?_
            refine Run.opAt rfl ?_
            refine Run.storeW 13 rfl rfl rfl ti120.siz rfl ?_
            refine Run.nil ?_
            refine Run.nT ?_
            refine Run.any1 5 (by kernel_rfl) ?_
            refine Run.opAt rfl ?_
            refine Run.op rfl rfl rfl (y_assign rfl) ?_
            refine Run.nil ?_
            refine Run.nT ?_
            refine Run.any0 (by kernel_rfl) ?_
            refine Run.nT ?_
            refine Run.ret ?_
            exact Run.fin3 rfl rfl rfl (.agg 12 rfl rfl Tryd.underlying120 rfl ti120.siz) (.agg 13 rfl rfl Tryd.underlying120 rfl ti120.siz) (.tmp rfl) (fun _ _ h => by rw [hR]; exact h) (fun _ _ h => by rw [hR]; exact h) (fun _ _ h => by rw [hR]; exact h)
        · skip
          refine Run.opAt rfl ?_
          refine Run.op rfl rfl rfl (y_loadPW 13 rfl rfl Tryd.underlying120 rfl ti120.siz) ?_
          refine Run.nil ?_
          refine Run.nT ?_
          refine Run.any1 0 (by kernel_rfl) ?_
          refine Run.opAt rfl ?_
          refine Run.op rfl rfl rfl (y_loadPW 12 rfl rfl Tryd.underlying120 rfl ti120.siz) ?_
          refine Run.nil ?_
          refine Run.nT ?_
          refine Run.any1 3 (by kernel_rfl) ?_
          refine Run.opAt rfl ?_
          refine Run.storeW 12 rfl rfl rfl ti120.siz rfl ?_
          refine Run.nil ?_
          refine Run.nT ?_
          refine Run.any1 4 (by kernel_rfl) ?_
          refine Run.opAt rfl ?_
          refine Run.storeW 13 rfl rfl rfl ti120.siz rfl ?_
          refine Run.nil ?_
          refine Run.nT ?_
          refine Run.any1 5 (by kernel_rfl) ?_
          refine Run.opAt rfl ?_
          refine Run.op rfl rfl rfl (y_assign rfl) ?_
          refine Run.nil ?_
          refine Run.nT ?_
          refine Run.any0 (by kernel_rfl) ?_
          refine Run.nT ?_
          refine Run.ret ?_
          exact Run.fin3 rfl rfl rfl (.agg 12 rfl rfl Tryd.underlying120 rfl ti120.siz) (.agg 13 rfl rfl Tryd.underlying120 rfl ti120.siz) (.tmp rfl) (fun _ _ h => by rw [hR]; exact h) (fun _ _ h => by rw [hR]; exact h) (fun _ _ h => by rw [hR]; exact h)

theorem replace_fn (f : Int) (h c : Nat) (ls : List Lv) (H : okT f h c ls) (i : Nat) (hi : i < 2 ^ h) (x : Dg) (hx : inD (fP f) x) : Fn s.env 22 [tre f h c ls, i64 i, dig x] (stup [tre f h c (mixl f ls i x ls.length), i64 0]) := by
  have hf := H.fv
  have hc := H.hc
  have h18 := H.h18
  have hlen := H.len
  have hp18 := pow18 h18
  have hi18 : i < 262144 := by omega
  refine Fn.of Tryd.func22 rfl Tryd.ntmps22 rfl ?_
  intro w0 F0
  refine Run.seq ?_
  refine Run.region ?_
  refine Run.boxA rfl rfl ?_
  intro b3
  refine Run.boxA rfl rfl ?_
  intro b5
  refine q_alloc ti46 rfl rfl ?_
  intro b6
  refine Run.op rfl rfl rfl (y_assign rfl) ?_
  refine Run.nil ?_
  refine Run.nT ?_
  refine Run.seq ?_
  refine Run.seq ?_
  refine Run.region ?_
  refine Run.op rfl rfl rfl (y_loadPW 3 rfl rfl Tryd.underlying46 rfl ti46.siz) ?_
  refine Run.op rfl rfl rfl (y_move rfl) ?_
  refine Run.op rfl rfl rfl (q_call en61 rfl (place_fn s _ _ _ _ H i hi)) ?_
  refine Run.op rfl rfl rfl (y_assign rfl) ?_
  refine Run.nil ?_
  refine Run.nT ?_
  refine Run.seq ?_
  refine Run.region ?_
  refine Run.op rfl rfl rfl (y_move rfl) ?_
  refine Run.op rfl rfl rfl (Yields.bool (c := false) (y_neq rfl rfl) (by decide)) ?_
  refine Run.nil ?_
  refine Run.nT ?_
  refine Run.cond0 rfl ?_
  refine Run.skip ?_
  refine Run.nT ?_
  refine Run.seq ?_
  refine Run.seq ?_
  refine Run.region ?_
  refine Run.op rfl rfl rfl (y_fieldP rfl Tryd.underlying46 rfl ti3.siz) ?_
  refine Run.op rfl rfl rfl (y_loadP 3 rfl rfl (rfl) Tryd.underlying3 rfl) ?_
  refine Run.op rfl rfl rfl (y_loadPW 5 rfl rfl Tryd.underlying42 rfl ti42.siz) ?_
  refine Run.op rfl rfl rfl (q_buildL (K := Kd) ([x]) Tryd.underlying40 ti42 rfl rfl rfl (.cons rfl (Part.agg rfl) rfl .nil) rfl) ?_
  refine Run.op rfl rfl rfl (Yields.bool (c := true) (q_call en59 rfl (proper_fn s f [x] (by simp))) (prp_of (inL_one hx))) ?_
  refine Run.op rfl rfl rfl (y_not rfl) ?_
  refine Run.nil ?_
  refine Run.nT ?_
  refine Run.cond0 rfl ?_
  refine Run.skip ?_
  refine Run.nT ?_
  refine Run.seq ?_
  refine Run.region ?_
  refine Run.op rfl rfl rfl (y_fieldP rfl Tryd.underlying46 rfl ti43.siz) ?_
  refine Run.op rfl rfl rfl (y_loadP 3 rfl rfl (rfl) Tryd.underlying43 rfl) ?_
  refine Run.callX [] [27] en66 rfl (clone2_fx s ls (by omega)) rfl (fun _ => rfl) rfl ?_
  intro v27
  refine Run.op rfl rfl rfl (y_fieldP rfl Tryd.underlying46 rfl ti43.siz) ?_
  refine q_store1V 27 3 rfl rfl rfl rfl ti43 (Nat.le_of_ble_eq_true rfl) ?_
  refine Run.nil ?_
  refine Run.nT ?_
  refine Run.seq ?_
  refine Run.seq ?_
  refine Run.region ?_
  refine Run.op rfl rfl rfl (y_fieldP rfl Tryd.underlying46 rfl ti43.siz) ?_
  refine Run.op rfl rfl rfl (y_loadP 3 rfl rfl (rfl) Tryd.underlying43 rfl) ?_
  refine Run.op rfl rfl rfl (y_lenR 27 rfl rfl Tryd.underlying43) ?_
  refine Run.op rfl rfl rfl (y_move rfl) ?_
  refine Run.nil ?_
  refine Run.nT ?_
  refine Run.block ?_
  refine Run.loop (ι := Nat × Dg) (fun ⟨m, e⟩ => m ≤ ls.length ∧ (m = 0 → e = x)) (fun ⟨m, e⟩ => ls.length - m) (fun ⟨m, e⟩ => [(27, Ent.rows Kl v27 40 1 (mixl f ls i x m)), (6, .blk b6 46 (zeros (.agg #[.int .i64 0, .int .i64 0, .int .i64 0, .slice none 0 0]))), (5, .blk b5 42 (Kd e)), (3, .blk b3 46 [i64 f, i64 h, i64 c, sval v27])]) (fun ⟨m, e⟩ => [(1, i64 ((i / 2 ^ m : Nat) : Int)), (3, sval (.pointer (some ⟨b3, 0, none⟩))), (5, sval (.pointer (some ⟨b5, 0, none⟩))), (6, sval (.pointer (some ⟨b6, 0, none⟩))), (31, i64 ls.length), (32, i64 m)]) (0, x) ⟨by omega, fun _ => rfl⟩ (by dsimp only; rw [mixl_zero]; rfl) (Incl.int (t := 1) rfl (by rw [Nat.pow_zero, Nat.div_one]) (Incl.same (t := 3) rfl (Incl.same (t := 5) rfl (Incl.same (t := 6) rfl (Incl.same (t := 31) rfl (Incl.int (t := 32) rfl rfl Incl.nil)))))) ?_
  rintro ⟨m, e⟩ ⟨hm, he⟩
  change Run _ _ [(27, Ent.rows Kl v27 40 1 (mixl f ls i x m)), (6, .blk b6 46 (zeros (.agg #[.int .i64 0, .int .i64 0, .int .i64 0, .slice none 0 0]))), (5, .blk b5 42 (Kd e)), (3, .blk b3 46 [i64 f, i64 h, i64 c, sval v27])] [(1, i64 ((i / 2 ^ m : Nat) : Int)), (3, sval (.pointer (some ⟨b3, 0, none⟩))), (5, sval (.pointer (some ⟨b5, 0, none⟩))), (6, sval (.pointer (some ⟨b6, 0, none⟩))), (31, i64 ls.length), (32, i64 m)] _
  have hd : i / 2 ^ m ≤ i := Nat.div_le_self _ _
  refine Run.seq ?_
  refine Run.region ?_
  refine Run.op rfl rfl rfl (y_lss rfl rfl) ?_
  refine Run.nil ?_
  refine Run.nT ?_
  refine Run.seq ?_
  refine Run.cond rfl (fun hb => ?_) (fun hb => ?_)
  · have hml : m < ls.length := by have := of_decide_eq_true hb; omega
    have hll := H.lens m hml
    have hdl := div_pow_lt (m := m) hi (by omega)
    rw [← hll] at hdl
    refine Run.skip ?_
    refine Run.nT ?_
    refine Run.seq ?_
    refine Run.block ?_
    refine Run.seq ?_
    refine Run.region ?_
    refine Run.op rfl rfl rfl (y_move rfl) ?_
    refine Run.op rfl rfl rfl (y_assign rfl) ?_
    refine Run.nil ?_
    refine Run.nT ?_
    refine Run.seq ?_
    refine Run.weaken (Incl.same (t := 1) rfl (Incl.same (t := 3) rfl (Incl.same (t := 5) rfl (Incl.same (t := 6) rfl (Incl.same (t := 31) rfl (Incl.same (t := 32) rfl (Incl.same (t := 9) rfl Incl.nil))))))) ?_
    refine q_draw3 (β := Value) ⟨8, 43, fun b => ([43] : List Nat).zip ((fun v => [Ent.rows Kd v 42 2 (ls.getD m [])]) b), fun v => sval v⟩ ?_ rfl
    refine Draw3.step rfl rfl rfl ⟨StepOk.op rfl rfl rfl (y_fieldP rfl Tryd.underlying46 rfl ti43.siz), fun _ => StepOk.op rfl rfl rfl (y_fieldP rfl Tryd.underlying46 rfl ti43.siz)⟩ rfl rfl ?_
    refine Draw3.step rfl rfl rfl ⟨StepOk.op rfl rfl rfl (y_loadP 3 rfl rfl (rfl) Tryd.underlying43 rfl), fun _ => StepOk.op rfl rfl rfl (y_loadP 3 rfl rfl (rfl) Tryd.underlying43 rfl)⟩ rfl rfl ?_
    refine Draw3.step rfl rfl rfl ⟨StepOk.op rfl rfl rfl (y_move rfl), fun _ => StepOk.op rfl rfl rfl (y_move rfl)⟩ rfl rfl ?_
    refine Draw3.step rfl rfl rfl ⟨StepOk.op rfl rfl rfl (y_fieldP rfl Tryd.underlying46 rfl ti43.siz), fun _ => StepOk.op rfl rfl rfl (y_fieldP rfl Tryd.underlying46 rfl ti43.siz)⟩ rfl rfl ?_
    refine Draw3.step rfl rfl rfl ⟨StepOk.op rfl rfl rfl (y_loadP 3 rfl rfl (rfl) Tryd.underlying43 rfl), fun _ => StepOk.op rfl rfl rfl (y_loadP 3 rfl rfl (rfl) Tryd.underlying43 rfl)⟩ rfl rfl ?_
    refine Draw3.step rfl rfl rfl ⟨StepOk.op rfl rfl rfl (y_move rfl), fun _ => StepOk.op rfl rfl rfl (y_move rfl)⟩ rfl rfl ?_
    refine Draw3.step rfl rfl rfl ⟨StepOk.op rfl rfl rfl (y_indexR 27 m rfl rfl rfl Tryd.underlying43 ti40.siz (rfl) (by rw [mixl_len hm]; exact hml)), fun _ => StepOk.op rfl rfl rfl (y_indexR 27 m rfl rfl rfl Tryd.underlying43 ti40.siz (rfl) (by rw [mixl_len hm]; exact hml))⟩ rfl rfl ?_
    refine Draw3.step rfl rfl rfl ⟨StepOk.op rfl rfl rfl (y_loadR 27 rfl rfl (fl_get (mixl_hi hml)) Tryd.underlying40 rfl), fun _ => StepOk.op rfl rfl rfl (y_loadR 27 rfl rfl (fl_get (mixl_hi hml)) Tryd.underlying40 rfl)⟩ rfl rfl ?_
    refine Draw3.new rfl ?_
    refine Draw3.step rfl rfl rfl ⟨StepOk.op rfl rfl rfl (y_indexR 27 m rfl rfl rfl Tryd.underlying43 ti40.siz (rfl) (by rw [mixl_len hm]; exact hml)), fun _ => StepOk.op rfl rfl rfl (y_indexR 27 m rfl rfl rfl Tryd.underlying43 ti40.siz (rfl) (by rw [mixl_len hm]; exact hml))⟩ rfl rfl ?_
    refine Draw3.tail (m := 10) rfl rfl rfl (NewOk.call [43] rfl en67 rfl (clone_fx s (ls.getD m []) (by have := H.bound hml; omega)) (fun _ => rfl) rfl) rfl rfl rfl ?_
    intro v43
    refine q_storeR1V 43 27 rfl rfl rfl rfl ti40 (by rw [fl_len, mixl_len hm]; omega) ?_
    refine Run.nil ?_
    refine Run.nT ?_
    refine Run.seq ?_
    refine Run.seq ?_
    refine Run.region ?_
    refine Run.op rfl rfl rfl (y_move rfl) ?_
    refine Run.op rfl rfl rfl (y_gtr rfl rfl) ?_
    refine Run.nil ?_
    refine Run.nT ?_
    refine Run.cond rfl (fun hb => ?_) (fun hb => ?_)
    · have hm0 : 0 < m := by have := of_decide_eq_true hb; omega
      have hrin := rpl_in (i := i) H hx (m := m - 1) (by omega)
      have hrl : (rpl f ls i x (m - 1)).length = 2 * (ls.getD m []).length := by rw [rpl_len, H.lens _ (by omega), hll, show h - (m - 1) = (h - m) + 1 by omega, Nat.pow_succ]; omega
      have hlf : nd f ((rpl f ls i x (m - 1)).getD (2 * (i / 2 ^ m)) (0, 0)) ((rpl f ls i x (m - 1)).getD (2 * (i / 2 ^ m) + 1) (0, 0)) = rlf f ls i x m := by obtain ⟨m, rfl⟩ : ∃ k, m = k + 1 := ⟨m - 1, by omega⟩; rfl
      refine Run.seq ?_
      refine Run.region ?_
      refine Run.op rfl rfl rfl (y_fieldP rfl Tryd.underlying46 rfl ti43.siz) ?_
      refine Run.op rfl rfl rfl (y_loadP 3 rfl rfl (rfl) Tryd.underlying43 rfl) ?_
      refine Run.op rfl rfl rfl (y_move rfl) ?_
      refine Run.op rfl rfl rfl (y_sub (r := ((m - 1 : Nat) : Int)) rfl rfl (by rw [wI_in (by omega)]; omega)) ?_
      refine Run.op rfl rfl rfl (y_indexR 27 (m - 1) rfl rfl rfl Tryd.underlying43 ti40.siz (rfl) (by rw [mixl_len hm]; omega)) ?_
      refine Run.op rfl rfl rfl (y_loadR 27 rfl rfl (fl_spl_ne (by rw [mixl_len hm]; exact hml) (by omega) (mixl_lo (by omega))) Tryd.underlying40 rfl) ?_
      refine Run.op rfl rfl rfl (y_assign rfl) ?_
      refine Run.nil ?_
      refine Run.nT ?_
      refine Run.weaken (Incl.same (t := 1) rfl (Incl.same (t := 3) rfl (Incl.same (t := 5) rfl (Incl.same (t := 6) rfl (Incl.same (t := 31) rfl (Incl.same (t := 32) rfl (Incl.same (t := 9) rfl (Incl.same (t := 10) rfl Incl.nil)))))))) ?_
      refine q_draw ?_ rfl
      refine Draw.step rfl rfl rfl (StepOk.op rfl rfl rfl (y_fieldP rfl Tryd.underlying46 rfl ti3.siz)) rfl ?_
      refine Draw.step rfl rfl rfl (StepOk.op rfl rfl rfl (y_loadP 3 rfl rfl (rfl) Tryd.underlying3 rfl)) rfl ?_
      refine Draw.step rfl rfl rfl (StepOk.op rfl rfl rfl (y_move rfl)) rfl ?_
      refine Draw.step rfl rfl rfl (StepOk.op rfl rfl rfl (y_move rfl)) rfl ?_
      refine Draw.step rfl rfl rfl (StepOk.op rfl rfl rfl (y_mul (r := ((2 * (i / 2 ^ m) : Nat) : Int)) rfl rfl (mul2_nat (by omega)))) rfl ?_
      refine Draw.step rfl rfl rfl (StepOk.op rfl rfl rfl (q_index (2 * (i / 2 ^ m)) ((rpl f ls i x (m - 1)).getD (2 * (i / 2 ^ m)) (0, 0)) rfl rfl Tryd.underlying40 ti42 (fun _ => rfl) (rfl) (getD_some _ (by omega)))) rfl ?_
      refine Draw.step rfl rfl rfl (StepOk.op rfl rfl rfl (y_loadW rfl Tryd.underlying42 rfl ti42.siz)) rfl ?_
      refine Draw.step rfl rfl rfl (StepOk.op rfl rfl rfl (y_move rfl)) rfl ?_
      refine Draw.step rfl rfl rfl (StepOk.op rfl rfl rfl (y_move rfl)) rfl ?_
      refine Draw.step rfl rfl rfl (StepOk.op rfl rfl rfl (y_mul (r := ((2 * (i / 2 ^ m) : Nat) : Int)) rfl rfl (mul2_nat (by omega)))) rfl ?_
      refine Draw.step rfl rfl rfl (StepOk.op rfl rfl rfl (y_add (r := ((2 * (i / 2 ^ m) + 1 : Nat) : Int)) rfl rfl (add1_nat (by omega)))) rfl ?_
      refine Draw.step rfl rfl rfl (StepOk.op rfl rfl rfl (q_index (2 * (i / 2 ^ m) + 1) ((rpl f ls i x (m - 1)).getD (2 * (i / 2 ^ m) + 1) (0, 0)) rfl rfl Tryd.underlying40 ti42 (fun _ => rfl) (rfl) (getD_some _ (by omega)))) rfl ?_
      refine Draw.step rfl rfl rfl (StepOk.op rfl rfl rfl (y_loadW rfl Tryd.underlying42 rfl ti42.siz)) rfl ?_
      refine Draw.step rfl rfl rfl (StepOk.op rfl rfl rfl (q_call en68 rfl (Node_fn s f hf ((rpl f ls i x (m - 1)).getD (2 * (i / 2 ^ m)) (0, 0)) ((rpl f ls i x (m - 1)).getD (2 * (i / 2 ^ m) + 1) (0, 0)) (inL_get hrin (by omega)) (inL_get hrin (by omega))))) rfl ?_
      refine Draw.tail (m := 14) rfl rfl rfl ?_
      refine Run.storeW 5 rfl rfl rfl ti42.siz rfl ?_
      refine Run.own (t := 5) (e' := Ent.blk b5 42 (Kd (rlf f ls i x m))) rfl (congrArg (fun d => Ent.blk b5 42 (Kd d)) hlf) ?_
      refine Run.nil ?_
      refine Run.nT ?_
      refine Run.seq ?_
      refine Run.weaken (Incl.same (t := 1) rfl (Incl.same (t := 3) rfl (Incl.same (t := 5) rfl (Incl.same (t := 6) rfl (Incl.same (t := 31) rfl (Incl.same (t := 32) rfl (Incl.same (t := 9) rfl (Incl.same (t := 10) rfl Incl.nil)))))))) ?_
      refine q_draw ?_ rfl
      refine Draw.step rfl rfl rfl (StepOk.op rfl rfl rfl (y_fieldP rfl Tryd.underlying46 rfl ti43.siz)) rfl ?_
      refine Draw.step rfl rfl rfl (StepOk.op rfl rfl rfl (y_loadP 3 rfl rfl (rfl) Tryd.underlying43 rfl)) rfl ?_
      refine Draw.step rfl rfl rfl (StepOk.op rfl rfl rfl (y_move rfl)) rfl ?_
      refine Draw.step rfl rfl rfl (StepOk.op rfl rfl rfl (y_indexR 27 m rfl rfl rfl Tryd.underlying43 ti40.siz (rfl) (by rw [mixl_len hm]; exact hml))) rfl ?_
      refine Draw.step rfl rfl rfl (StepOk.op rfl rfl rfl (y_loadR 27 rfl rfl (fl_spl_at1 (by rw [mixl_len hm]; exact hml)) Tryd.underlying40 rfl)) rfl ?_
      refine Draw.step rfl rfl rfl (StepOk.op rfl rfl rfl (y_move rfl)) rfl ?_
      refine Draw.step rfl rfl rfl (StepOk.op rfl rfl rfl (y_loadPW 5 rfl rfl Tryd.underlying42 rfl ti42.siz)) rfl ?_
      refine Draw.step rfl rfl rfl (StepOk.op rfl rfl rfl (y_indexR 43 (i / 2 ^ m) rfl rfl rfl Tryd.underlying40 ti42.siz (rfl) (hdl))) rfl ?_
      refine Draw.tail (m := 8) rfl rfl rfl ?_
      refine Run.storeRA 43 rfl rfl rfl ti42.siz (by rw [flatD_len]; show _ + 2 ≤ _; omega) ?_
      refine Run.own (t := 43) rfl (row_rpl hdl) ?_
      refine Run.freezeIn (f0 := m) 43 27 rfl rfl (fl_spl_at (by rw [mixl_len hm]; exact hml)) ?_
      refine Run.own (t := 27) rfl (row_mixl hml) ?_
      refine Run.nil ?_
      refine Run.nT ?_
      refine Run.region ?_
      refine Run.op rfl rfl rfl (y_move rfl) ?_
      refine Run.op rfl rfl rfl (y_shr rfl rfl (by omega) (shr_one i _)) ?_
      refine Run.op rfl rfl rfl (y_assign rfl) ?_
      refine Run.nil ?_
      refine Run.nB ?_
      refine Run.nT ?_
      refine Run.region ?_
      refine Run.op rfl rfl rfl (y_add rfl rfl (by first | exact wI_in (by omega) | rfl)) ?_
      refine Run.op rfl rfl rfl (y_move rfl) ?_
      refine Run.nil ?_
      refine Run.nT ?_
      refine Run.round (m + 1, rlf f ls i x m) ?_ ?_ ?_ ?_
      · exact ⟨by omega, fun h => by omega⟩
      · show ls.length - (m + 1) < ls.length - m; omega
      · rfl
      · exact (Incl.same (t := 1) rfl (Incl.same (t := 3) rfl (Incl.same (t := 5) rfl (Incl.same (t := 6) rfl (Incl.same (t := 31) rfl (Incl.int (t := 32) rfl (by omega) Incl.nil))))))
    · have hm0 : m = 0 := by have := of_decide_eq_false hb; omega
      have he0 : e = rlf f ls i x m := by subst hm0; rw [he rfl]; rfl
      refine Run.own (t := 5) (e' := Ent.blk b5 42 (Kd (rlf f ls i x m))) rfl (congrArg (fun d => Ent.blk b5 42 (Kd d)) he0) ?_
      refine Run.skip ?_
      refine Run.nT ?_
      refine Run.seq ?_
      refine Run.weaken (Incl.same (t := 1) rfl (Incl.same (t := 3) rfl (Incl.same (t := 5) rfl (Incl.same (t := 6) rfl (Incl.same (t := 31) rfl (Incl.same (t := 32) rfl (Incl.same (t := 9) rfl Incl.nil))))))) ?_
      refine q_draw ?_ rfl
      refine Draw.step rfl rfl rfl (StepOk.op rfl rfl rfl (y_fieldP rfl Tryd.underlying46 rfl ti43.siz)) rfl ?_
      refine Draw.step rfl rfl rfl (StepOk.op rfl rfl rfl (y_loadP 3 rfl rfl (rfl) Tryd.underlying43 rfl)) rfl ?_
      refine Draw.step rfl rfl rfl (StepOk.op rfl rfl rfl (y_move rfl)) rfl ?_
      refine Draw.step rfl rfl rfl (StepOk.op rfl rfl rfl (y_indexR 27 m rfl rfl rfl Tryd.underlying43 ti40.siz (rfl) (by rw [mixl_len hm]; exact hml))) rfl ?_
      refine Draw.step rfl rfl rfl (StepOk.op rfl rfl rfl (y_loadR 27 rfl rfl (fl_spl_at1 (by rw [mixl_len hm]; exact hml)) Tryd.underlying40 rfl)) rfl ?_
      refine Draw.step rfl rfl rfl (StepOk.op rfl rfl rfl (y_move rfl)) rfl ?_
      refine Draw.step rfl rfl rfl (StepOk.op rfl rfl rfl (y_loadPW 5 rfl rfl Tryd.underlying42 rfl ti42.siz)) rfl ?_
      refine Draw.step rfl rfl rfl (StepOk.op rfl rfl rfl (y_indexR 43 (i / 2 ^ m) rfl rfl rfl Tryd.underlying40 ti42.siz (rfl) (hdl))) rfl ?_
      refine Draw.tail (m := 8) rfl rfl rfl ?_
      refine Run.storeRA 43 rfl rfl rfl ti42.siz (by rw [flatD_len]; show _ + 2 ≤ _; omega) ?_
      refine Run.own (t := 43) rfl (row_rpl hdl) ?_
      refine Run.freezeIn (f0 := m) 43 27 rfl rfl (fl_spl_at (by rw [mixl_len hm]; exact hml)) ?_
      refine Run.own (t := 27) rfl (row_mixl hml) ?_
      refine Run.nil ?_
      refine Run.nT ?_
      refine Run.region ?_
      refine Run.op rfl rfl rfl (y_move rfl) ?_
      refine Run.op rfl rfl rfl (y_shr rfl rfl (by omega) (shr_one i _)) ?_
      refine Run.op rfl rfl rfl (y_assign rfl) ?_
      refine Run.nil ?_
      refine Run.nB ?_
      refine Run.nT ?_
      refine Run.region ?_
      refine Run.op rfl rfl rfl (y_add rfl rfl (by first | exact wI_in (by omega) | rfl)) ?_
      refine Run.op rfl rfl rfl (y_move rfl) ?_
      refine Run.nil ?_
      refine Run.nT ?_
      refine Run.round (m + 1, rlf f ls i x m) ?_ ?_ ?_ ?_
      · exact ⟨by omega, fun h => by omega⟩
      · show ls.length - (m + 1) < ls.length - m; omega
      · rfl
      · exact (Incl.same (t := 1) rfl (Incl.same (t := 3) rfl (Incl.same (t := 5) rfl (Incl.same (t := 6) rfl (Incl.same (t := 31) rfl (Incl.int (t := 32) rfl (by omega) Incl.nil))))))
  · obtain rfl : m = ls.length := by have := of_decide_eq_false hb; omega
    refine Run.freezeInB (K := Kl) (l := mixl f ls i x ls.length) (f0 := 3) 27 3 rfl rfl rfl ?_
    refine Run.exit ?_
    refine Run.eT ?_
    refine Run.eT ?_
    refine Run.eB ?_
    refine Run.nT ?_
    refine Run.seq ?_
    refine Run.region ?_
    refine Run.op rfl rfl rfl (y_loadPW 3 rfl rfl Tryd.underlying46 rfl ti46.siz) ?_
    refine Run.storeW 6 rfl rfl rfl ti46.siz rfl ?_
    refine Run.op rfl rfl rfl (y_assign rfl) ?_
    refine Run.nil ?_
    refine Run.nT ?_
    refine Run.ret ?_
    exact Run.fin2 rfl rfl rfl (.agg 6 rfl rfl Tryd.underlying46 rfl ti46.siz) (.tmp rfl) (fun _ _ h => h) (fun _ _ h => h)

end

end Go.Vx
