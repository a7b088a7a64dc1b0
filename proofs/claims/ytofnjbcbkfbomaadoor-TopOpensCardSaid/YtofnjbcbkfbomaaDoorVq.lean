/- Walks of the program's functions: the trees. Conditions: as each says. Printed by a program of our own (wip/tools/gen.py). -/
import Derived.Test.YtofnjbcbkfbomaaDoorVp
namespace Go.Vx
open Go Go.RowKit Go.Proofs
set_option maxRecDepth 100000
attribute [local irreducible] nd
variable (s : Seat)

theorem climber_fx (f : Int) (i : Nat) (x : Dg) : FnX s.env 113 [i64 f, i64 i, dig x] [] (fun b : Nat × Nat => sfun 154 [sval (.pointer (some ⟨b.1, 0, none⟩)), sval (.pointer (some ⟨b.2, 0, none⟩)), spts [i64 f]]) (fun b => [.blk b.1 42 (Kd x), .blk b.2 3 [i64 i]]) := by
  refine FnX.of [] rfl Tryd.func113 rfl Tryd.ntmps113 rfl ?_
  intro w0 F0
  refine Run.seq ?_
  refine Run.region ?_
  refine q_box rfl rfl ?_
  intro b3
  refine Run.freezeB 3 3 rfl rfl ?_
  refine q_box rfl rfl ?_
  intro b4
  refine Run.boxA rfl rfl ?_
  intro b5
  refine Run.op rfl rfl rfl (y_assign rfl) ?_
  refine Run.nil ?_
  refine Run.nT ?_
  refine Run.seq ?_
  refine Run.region ?_
  refine Run.op rfl rfl rfl (q_makeFunc rfl) ?_
  refine Run.op rfl rfl rfl (y_assign rfl) ?_
  refine Run.nil ?_
  refine Run.nT ?_
  refine Run.ret ?_
  exact Run.finX (b5, b4) [5, 4] rfl (Outs.one rfl (.tmp rfl)) rfl (fun _ _ _ h => h)

section
variable [hF : HasF s]

theorem climber1_fx (f : Int) (hf : fv f = true) (i : Nat) (hi : i < 4611686018427387904) (x : Dg) (hx : inD (fP f) x) (p : Dg) (hp : inD (fP f) p) (bx bi : Nat) : FnX s.env 154 [dig p, sval (.pointer (some ⟨bx, 0, none⟩)), sval (.pointer (some ⟨bi, 0, none⟩)), spts [i64 f]] [.blk bx 42 (Kd x), .blk bi 3 [i64 i]] (fun _ : Unit => stup [prs (ord i x p), dig (stp f i x p)]) (fun _ => [.blk bx 42 (Kd (stp f i x p)), .blk bi 3 [i64 ((i / 2 : Nat) : Int)]]) := by
  refine FnX.of [1, 2] rfl Tryd.func154 rfl Tryd.ntmps154 rfl ?_
  intro w0 F0
  refine Run.seq ?_
  refine Run.region ?_
  refine Run.boxA rfl rfl ?_
  intro b4
  refine q_alloc ti120 rfl rfl ?_
  intro b5
  refine q_alloc ti42 rfl rfl ?_
  intro b6
  refine Run.nil ?_
  refine Run.nT ?_
  refine Run.seq ?_
  refine Run.region ?_
  refine Run.op rfl rfl rfl (y_loadPW 1 rfl rfl Tryd.underlying42 rfl ti42.siz) ?_
  refine Run.op rfl rfl rfl (y_loadPW 4 rfl rfl Tryd.underlying42 rfl ti42.siz) ?_
  refine Run.op rfl rfl rfl (q_buildA Tryd.underlying120 ti120 rfl ti42 (.cons rfl (Part.agg rfl) rfl (.cons rfl (Part.agg rfl) rfl .nil))) ?_
  refine q_alloc ti120 rfl rfl ?_
  intro b7
  refine Run.storeW 7 rfl rfl rfl ti120.siz rfl ?_
  refine Run.nil ?_
  refine Run.nT ?_
  refine Run.seq ?_
  refine Run.seq ?_
  refine Run.region ?_
  refine Run.op rfl rfl rfl (y_loadP 2 rfl rfl (rfl) Tryd.underlying3 rfl) ?_
  refine Run.op rfl rfl rfl (y_and rfl rfl (and_one (by omega))) ?_
  refine Run.op rfl rfl rfl (y_eql rfl rfl) ?_
  refine Run.nil ?_
  refine Run.nT ?_
  refine Run.cond rfl (fun hb => ?_) (fun hb => ?_)
  · have ho : ord i x p = (p, x) := by unfold ord; rw [if_pos (by have := of_decide_eq_true hb; omega)]
    have hs : nd f p x = stp f i x p := by unfold stp; rw [ho]
    refine Run.region ?_
    refine Run.op rfl rfl rfl (y_loadPW 4 rfl rfl Tryd.underlying42 rfl ti42.siz) ?_
    refine Run.op rfl rfl rfl (y_loadPW 1 rfl rfl Tryd.underlying42 rfl ti42.siz) ?_
    refine Run.op rfl rfl rfl (q_buildA Tryd.underlying120 ti120 rfl ti42 (.cons rfl (Part.agg rfl) rfl (.cons rfl (Part.agg rfl) rfl .nil))) ?_
    refine Run.storeW 7 rfl rfl rfl ti120.siz rfl ?_
    refine Run.nil ?_
    refine Run.nT ?_
    refine Run.seq ?_
    refine Run.region ?_
    refine Run.op rfl rfl rfl (y_loadP 2 rfl rfl (rfl) Tryd.underlying3 rfl) ?_
    refine Run.op rfl rfl rfl (y_shr rfl rfl (by omega) (shr_half i)) ?_
    refine q_store1 2 rfl rfl rfl ti3 (Nat.le_of_ble_eq_true rfl) ?_
    refine Run.nil ?_
    refine Run.nT ?_
    refine Run.seq ?_
    refine Run.region ?_
    refine Run.op rfl rfl rfl (y_load rfl Tryd.underlying3 rfl) ?_
    refine Run.op rfl rfl rfl (y_indexP 0 rfl rfl Tryd.underlying120 ti42.siz rfl (by decide)) ?_
    refine Run.op rfl rfl rfl (y_loadPA 7 rfl rfl rfl rfl Tryd.underlying42 rfl ti42.siz) ?_
    refine Run.op rfl rfl rfl (y_indexP 1 rfl rfl Tryd.underlying120 ti42.siz rfl (by decide)) ?_
    refine Run.op rfl rfl rfl (y_loadPA 7 rfl rfl rfl rfl Tryd.underlying42 rfl ti42.siz) ?_
    refine Run.op rfl rfl rfl (q_call en68 rfl (Node_fn s f hf p x hp hx)) ?_
    refine Run.storeW 1 rfl rfl rfl ti42.siz rfl ?_
    refine Run.nil ?_
    refine Run.nT ?_
    refine Run.seq ?_
    refine q_all (N := 4) rfl rfl ?_
    refine Run.any2 0 1 (by kernel_rfl) ?_ ?_
    · skip
      refine Run.opAt rfl ?_
      refine Run.op rfl rfl rfl (y_loadPW 7 rfl rfl Tryd.underlying120 rfl ti120.siz) ?_
      refine Run.nil ?_
      refine Run.nT ?_
      refine Run.any2 1 2 (by kernel_rfl) ?_ ?_
      · skip
        refine Run.opAt rfl ?_
        refine Run.op rfl rfl rfl (y_loadPW 1 rfl rfl Tryd.underlying42 rfl ti42.siz) ?_
        refine Run.nil ?_
        refine Run.nT ?_
        refine Run.any1 2 (by kernel_rfl) ?_
        refine Run.opAt rfl ?_
        refine Run.storeW 5 rfl rfl rfl ti120.siz rfl ?_
        refine Run.nil ?_
        refine Run.nT ?_
        refine Run.any1 3 (by kernel_rfl) ?_
        refine Run.opAt rfl ?_
        refine Run.storeW 6 rfl rfl rfl ti42.siz rfl ?_
        refine Run.nil ?_
        refine Run.nT ?_
        refine Run.any0 (by kernel_rfl) ?_
        refine Run.nT ?_
        refine Run.ret ?_
        exact Run.finX () [1, 2] rfl (Outs.two rfl (.agg 5 rfl rfl Tryd.underlying120 rfl ti120.siz) (.agg 6 rfl rfl Tryd.underlying42 rfl ti42.siz)) (by rw [← hs]; rfl) (fun _ _ _ h => by rw [ho, ← hs]; exact h)
      · skip
        refine Run.opAt rfl ?_
        refine Run.storeW 5 rfl rfl rfl ti120.siz rfl ?_
        refine Run.nil ?_
        refine Run.nT ?_
        refine Run.any1 1 (by kernel_rfl) ?_
        refine Run.opAt rfl ?_
        refine Run.op rfl rfl rfl (y_loadPW 1 rfl rfl Tryd.underlying42 rfl ti42.siz) ?_
        refine Run.nil ?_
        refine Run.nT ?_
        refine Run.any1 3 (by kernel_rfl) ?_
        refine Run.opAt rfl ?_
        refine Run.storeW 6 rfl rfl rfl ti42.siz rfl ?_
        refine Run.nil ?_
        refine Run.nT ?_
        refine Run.any0 (by kernel_rfl) ?_
        refine Run.nT ?_
        refine Run.ret ?_
        exact Run.finX () [1, 2] rfl (Outs.two rfl (.agg 5 rfl rfl Tryd.underlying120 rfl ti120.siz) (.agg 6 rfl rfl Tryd.underlying42 rfl ti42.siz)) (by rw [← hs]; rfl) (fun _ _ _ h => by rw [ho, ← hs]; exact h)
    · skip
      refine Run.opAt rfl ?_
      refine Run.op rfl rfl rfl (y_loadPW 1 rfl rfl Tryd.underlying42 rfl ti42.siz) ?_
      refine Run.nil ?_
      refine Run.nT ?_
      refine Run.any1 0 (by kernel_rfl) ?_
      refine Run.opAt rfl ?_
      refine Run.op rfl rfl rfl (y_loadPW 7 rfl rfl Tryd.underlying120 rfl ti120.siz) ?_
      refine Run.nil ?_
      refine Run.nT ?_
      refine Run.any1 2 (by kernel_rfl) ?_
      refine Run.opAt rfl ?_
      refine Run.storeW 5 rfl rfl rfl ti120.siz rfl ?_
      refine Run.nil ?_
      refine Run.nT ?_
      refine Run.any1 3 (by kernel_rfl) ?_
      refine Run.opAt rfl ?_
      refine Run.storeW 6 rfl rfl rfl ti42.siz rfl ?_
      refine Run.nil ?_
      refine Run.nT ?_
      refine Run.any0 (by kernel_rfl) ?_
      refine Run.nT ?_
      refine Run.ret ?_
      exact Run.finX () [1, 2] rfl (Outs.two rfl (.agg 5 rfl rfl Tryd.underlying120 rfl ti120.siz) (.agg 6 rfl rfl Tryd.underlying42 rfl ti42.siz)) (by rw [← hs]; rfl) (fun _ _ _ h => by rw [ho, ← hs]; exact h)
  · have ho : ord i x p = (x, p) := by unfold ord; rw [if_neg (by have := of_decide_eq_false hb; omega)]
    have hs : nd f x p = stp f i x p := by unfold stp; rw [ho]
    refine Run.skip ?_
    refine Run.nT ?_
    refine Run.seq ?_
    refine Run.region ?_
    refine Run.op rfl rfl rfl (y_loadP 2 rfl rfl (rfl) Tryd.underlying3 rfl) ?_
    refine Run.op rfl rfl rfl (y_shr rfl rfl (by omega) (shr_half i)) ?_
    refine q_store1 2 rfl rfl rfl ti3 (Nat.le_of_ble_eq_true rfl) ?_
    refine Run.nil ?_
    refine Run.nT ?_
    refine Run.seq ?_
    refine Run.region ?_
    refine Run.op rfl rfl rfl (y_load rfl Tryd.underlying3 rfl) ?_
    refine Run.op rfl rfl rfl (y_indexP 0 rfl rfl Tryd.underlying120 ti42.siz rfl (by decide)) ?_
    refine Run.op rfl rfl rfl (y_loadPA 7 rfl rfl rfl rfl Tryd.underlying42 rfl ti42.siz) ?_
    refine Run.op rfl rfl rfl (y_indexP 1 rfl rfl Tryd.underlying120 ti42.siz rfl (by decide)) ?_
    refine Run.op rfl rfl rfl (y_loadPA 7 rfl rfl rfl rfl Tryd.underlying42 rfl ti42.siz) ?_
    refine Run.op rfl rfl rfl (q_call en68 rfl (Node_fn s f hf x p hx hp)) ?_
    refine Run.storeW 1 rfl rfl rfl ti42.siz rfl ?_
    refine Run.nil ?_
    refine Run.nT ?_
    refine Run.seq ?_
    refine q_all (N := 4) rfl rfl ?_
    refine Run.any2 0 1 (by kernel_rfl) ?_ ?_
    · skip
      refine Run.opAt rfl ?_
      refine Run.op rfl rfl rfl (y_loadPW 7 rfl rfl Tryd.underlying120 rfl ti120.siz) ?_
      refine Run.nil ?_
      refine Run.nT ?_
      refine Run.any2 1 2 (by kernel_rfl) ?_ ?_
      · skip
        refine Run.opAt rfl ?_
        refine Run.op rfl rfl rfl (y_loadPW 1 rfl rfl Tryd.underlying42 rfl ti42.siz) ?_
        refine Run.nil ?_
        refine Run.nT ?_
        refine Run.any1 2 (by kernel_rfl) ?_
        refine Run.opAt rfl ?_
        refine Run.storeW 5 rfl rfl rfl ti120.siz rfl ?_
        refine Run.nil ?_
        refine Run.nT ?_
        refine Run.any1 3 (by kernel_rfl) ?_
        refine Run.opAt rfl ?_
        refine Run.storeW 6 rfl rfl rfl ti42.siz rfl ?_
        refine Run.nil ?_
        refine Run.nT ?_
        refine Run.any0 (by kernel_rfl) ?_
        refine Run.nT ?_
        refine Run.ret ?_
        exact Run.finX () [1, 2] rfl (Outs.two rfl (.agg 5 rfl rfl Tryd.underlying120 rfl ti120.siz) (.agg 6 rfl rfl Tryd.underlying42 rfl ti42.siz)) (by rw [← hs]; rfl) (fun _ _ _ h => by rw [ho, ← hs]; exact h)
      · skip
        refine Run.opAt rfl ?_
        refine Run.storeW 5 rfl rfl rfl ti120.siz rfl ?_
        refine Run.nil ?_
        refine Run.nT ?_
        refine Run.any1 1 (by kernel_rfl) ?_
        refine Run.opAt rfl ?_
        refine Run.op rfl rfl rfl (y_loadPW 1 rfl rfl Tryd.underlying42 rfl ti42.siz) ?_
        refine Run.nil ?_
        refine Run.nT ?_
        refine Run.any1 3 (by kernel_rfl) ?_
        refine Run.opAt rfl ?_
        refine Run.storeW 6 rfl rfl rfl ti42.siz rfl ?_
        refine Run.nil ?_
        refine Run.nT ?_
        refine Run.any0 (by kernel_rfl) ?_
        refine Run.nT ?_
        refine Run.ret ?_
        exact Run.finX () [1, 2] rfl (Outs.two rfl (.agg 5 rfl rfl Tryd.underlying120 rfl ti120.siz) (.agg 6 rfl rfl Tryd.underlying42 rfl ti42.siz)) (by rw [← hs]; rfl) (fun _ _ _ h => by rw [ho, ← hs]; exact h)
    · skip
      refine Run.opAt rfl ?_
      refine Run.op rfl rfl rfl (y_loadPW 1 rfl rfl Tryd.underlying42 rfl ti42.siz) ?_
      refine Run.nil ?_
      refine Run.nT ?_
      refine Run.any1 0 (by kernel_rfl) ?_
      refine Run.opAt rfl ?_
      refine Run.op rfl rfl rfl (y_loadPW 7 rfl rfl Tryd.underlying120 rfl ti120.siz) ?_
      refine Run.nil ?_
      refine Run.nT ?_
      refine Run.any1 2 (by kernel_rfl) ?_
      refine Run.opAt rfl ?_
      refine Run.storeW 5 rfl rfl rfl ti120.siz rfl ?_
      refine Run.nil ?_
      refine Run.nT ?_
      refine Run.any1 3 (by kernel_rfl) ?_
      refine Run.opAt rfl ?_
      refine Run.storeW 6 rfl rfl rfl ti42.siz rfl ?_
      refine Run.nil ?_
      refine Run.nT ?_
      refine Run.any0 (by kernel_rfl) ?_
      refine Run.nT ?_
      refine Run.ret ?_
      exact Run.finX () [1, 2] rfl (Outs.two rfl (.agg 5 rfl rfl Tryd.underlying120 rfl ti120.siz) (.agg 6 rfl rfl Tryd.underlying42 rfl ti42.siz)) (by rw [← hs]; rfl) (fun _ _ _ h => by rw [ho, ← hs]; exact h)

theorem climb_fn (f : Int) (hf : fv f = true) (i : Nat) (hi : i < 4611686018427387904) (x : Dg) (hx : inD (fP f) x) (l : Lv) (hl : l.length ≤ 18) (hi2 : inL (fP f) l) : Fn s.env 63 [i64 f, i64 i, dig x, slc Kd l] (dig (climb f i x l)) := by
  refine Fn.of Tryd.func63 rfl Tryd.ntmps63 rfl ?_
  intro w0 F0
  refine Run.seq ?_
  refine Run.region ?_
  refine Run.boxA rfl rfl ?_
  intro b6
  refine q_alloc ti42 rfl rfl ?_
  intro b8
  refine Run.nil ?_
  refine Run.nT ?_
  refine Run.seq ?_
  refine Run.region ?_
  refine Run.op rfl rfl rfl (y_move rfl) ?_
  refine Run.op rfl rfl rfl (y_move rfl) ?_
  refine Run.op rfl rfl rfl (y_loadPW 6 rfl rfl Tryd.underlying42 rfl ti42.siz) ?_
  refine Run.callX [] [100, 101] en113 rfl (climber_fx s f i x) rfl (fun _ => rfl) rfl ?_
  intro ⟨bx, bi⟩
  refine Run.op rfl rfl rfl (y_assign rfl) ?_
  refine Run.nil ?_
  refine Run.nT ?_
  refine Run.seq ?_
  refine Run.seq ?_
  refine Run.region ?_
  refine Run.op rfl rfl rfl (y_move rfl) ?_
  refine Run.op rfl rfl rfl (y_lenS rfl Tryd.underlying40) ?_
  refine Run.op rfl rfl rfl (y_move rfl) ?_
  refine Run.nil ?_
  refine Run.nT ?_
  refine Run.block ?_
  refine Run.loop (ι := Nat) (fun j => j ≤ l.length) (fun j => l.length - j) (fun j => [(100, .blk bx 42 (Kd (clm f i x l j))), (101, .blk bi 3 [i64 ((i / 2 ^ j : Nat) : Int)]), (8, .blk b8 42 (zeros (.agg #[.int .u64 0, .int .u64 0]))), (6, .blk b6 42 (Kd (clm f i x l j)))]) (fun j => [(6, sval (.pointer (some ⟨b6, 0, none⟩))), (8, sval (.pointer (some ⟨b8, 0, none⟩))), (9, sfun 154 [sval (.pointer (some ⟨bx, 0, none⟩)), sval (.pointer (some ⟨bi, 0, none⟩)), spts [i64 f]]), (16, slc Kd l), (17, i64 l.length), (18, i64 j)]) 0 (by omega) (by dsimp only; rw [clm_zero, Nat.pow_zero, Nat.div_one]; rfl) (Incl.same (t := 6) rfl (Incl.same (t := 8) rfl (Incl.same (t := 9) rfl (Incl.same (t := 16) rfl (Incl.same (t := 17) rfl (Incl.same (t := 18) rfl Incl.nil)))))) ?_
  rintro j hj
  change Run _ _ [(100, .blk bx 42 (Kd (clm f i x l j))), (101, .blk bi 3 [i64 ((i / 2 ^ j : Nat) : Int)]), (8, .blk b8 42 (zeros (.agg #[.int .u64 0, .int .u64 0]))), (6, .blk b6 42 (Kd (clm f i x l j)))] [(6, sval (.pointer (some ⟨b6, 0, none⟩))), (8, sval (.pointer (some ⟨b8, 0, none⟩))), (9, sfun 154 [sval (.pointer (some ⟨bx, 0, none⟩)), sval (.pointer (some ⟨bi, 0, none⟩)), spts [i64 f]]), (16, slc Kd l), (17, i64 l.length), (18, i64 j)] _
  have hd : i / 2 ^ j ≤ i := Nat.div_le_self _ _
  refine Run.seq ?_
  refine Run.region ?_
  refine Run.op rfl rfl rfl (y_lss rfl rfl) ?_
  refine Run.nil ?_
  refine Run.nT ?_
  refine Run.seq ?_
  refine Run.cond rfl (fun hb => ?_) (fun hb => ?_)
  · have hjl : j < l.length := by have := of_decide_eq_true hb; omega
    refine Run.skip ?_
    refine Run.nT ?_
    refine Run.seq ?_
    refine Run.block ?_
    refine Run.seq ?_
    refine Run.region ?_
    refine Run.op rfl rfl rfl (q_index j (l.getD j (0, 0)) rfl rfl Tryd.underlying40 ti42 (fun _ => rfl) (rfl) (getD_some _ hjl)) ?_
    refine Run.op rfl rfl rfl (y_loadW rfl Tryd.underlying42 rfl ti42.siz) ?_
    refine q_alloc ti42 rfl rfl ?_
    intro b11
    refine Run.storeW 11 rfl rfl rfl ti42.siz rfl ?_
    refine Run.nil ?_
    refine Run.nT ?_
    refine Run.region ?_
    refine Run.op rfl rfl rfl (y_move rfl) ?_
    refine Run.op rfl rfl rfl (y_loadPW 11 rfl rfl Tryd.underlying42 rfl ti42.siz) ?_
    refine Run.callXV [100, 101] [100, 101] en154 rfl rfl (climber1_fx s f hf (i / 2 ^ j) (by omega) (clm f i x l j) (clm_in hf hx j) (l.getD j (0, 0)) (inL_get hi2 hjl) bx bi) rfl (fun _ => rfl) rfl ?_
    intro _
    refine Run.op rfl rfl rfl (y_move rfl) ?_
    refine Run.op rfl rfl rfl (y_extract rfl rfl) ?_
    refine Run.op rfl rfl rfl (y_extract rfl rfl) ?_
    refine Run.storeW 6 rfl rfl rfl ti42.siz rfl ?_
    refine Run.nil ?_
    refine Run.nB ?_
    refine Run.nT ?_
    refine Run.region ?_
    refine Run.op rfl rfl rfl (y_add rfl rfl (by first | exact wI_in (by omega) | rfl)) ?_
    refine Run.op rfl rfl rfl (y_move rfl) ?_
    refine Run.nil ?_
    refine Run.nT ?_
    refine Run.drop 11 rfl ?_
    refine Run.round (j + 1) ?_ ?_ ?_ ?_
    · show j + 1 ≤ l.length; omega
    · show l.length - (j + 1) < l.length - j; omega
    · rw [clm_succ hjl, ← div_succ]
      rfl
    · exact (Incl.same (t := 6) rfl (Incl.same (t := 8) rfl (Incl.same (t := 9) rfl (Incl.same (t := 16) rfl (Incl.same (t := 17) rfl (Incl.int (t := 18) rfl (by omega) Incl.nil))))))
  · obtain rfl : j = l.length := by have := of_decide_eq_false hb; omega
    refine Run.exit ?_
    refine Run.eT ?_
    refine Run.eT ?_
    refine Run.eB ?_
    refine Run.nT ?_
    refine Run.seq ?_
    refine Run.region ?_
    refine Run.op rfl rfl rfl (y_loadPW 6 rfl rfl Tryd.underlying42 rfl ti42.siz) ?_
    refine Run.storeW 8 rfl rfl rfl ti42.siz rfl ?_
    refine Run.nil ?_
    refine Run.nT ?_
    refine Run.ret ?_
    exact Run.fin1 rfl rfl rfl (.agg 8 rfl rfl Tryd.underlying42 rfl ti42.siz) (fun _ _ h => by rw [← clm_all]; exact h)

theorem Climb_fn (f : Int) (hf : fv f = true) (i : Nat) (hi : i < 4611686018427387904) (x : Dg) (hx : inD (fP f) x) (l : Lv) (hl : l.length ≤ 18) (hi2 : inL (fP f) l) : Fn s.env 64 [i64 f, i64 i, dig x, slc Kd l] (dig (climb f i x l)) := by
  refine Fn.of Tryd.func64 rfl Tryd.ntmps64 rfl ?_
  intro w0 F0
  refine Run.seq ?_
  refine Run.region ?_
  refine Run.boxA rfl rfl ?_
  intro b6
  refine q_alloc ti42 rfl rfl ?_
  intro b8
  refine Run.nil ?_
  refine Run.nT ?_
  refine Run.seq ?_
  refine Run.seq ?_
  refine Run.region ?_
  refine Run.op rfl rfl rfl (y_move rfl) ?_
  refine Run.op rfl rfl rfl (y_move rfl) ?_
  refine Run.op rfl rfl rfl (y_loadPW 6 rfl rfl Tryd.underlying42 rfl ti42.siz) ?_
  refine Run.op rfl rfl rfl (y_move rfl) ?_
  refine Run.op rfl rfl rfl (Yields.bool (c := true) (q_call en62 rfl (opens_fn s f hf i x l hl hx hi2)) (rfl)) ?_
  refine Run.op rfl rfl rfl (y_not rfl) ?_
  refine Run.nil ?_
  refine Run.nT ?_
  refine Run.cond0 rfl ?_
  refine Run.skip ?_
  refine Run.nT ?_
  refine Run.seq ?_
  refine Run.region ?_
  refine Run.op rfl rfl rfl (y_move rfl) ?_
  refine Run.op rfl rfl rfl (y_move rfl) ?_
  refine Run.op rfl rfl rfl (y_loadPW 6 rfl rfl Tryd.underlying42 rfl ti42.siz) ?_
  refine Run.op rfl rfl rfl (y_move rfl) ?_
  refine Run.op rfl rfl rfl (q_call en63 rfl (climb_fn s f hf i hi x hx l hl hi2)) ?_
  refine Run.storeW 8 rfl rfl rfl ti42.siz rfl ?_
  refine Run.nil ?_
  refine Run.nT ?_
  refine Run.ret ?_
  exact Run.fin1 rfl rfl rfl (.agg 8 rfl rfl Tryd.underlying42 rfl ti42.siz) (fun _ _ h => h)

variable [hB : HasB s]

theorem check_fn (f : Int) (hf : fv f = true) (l : Lv) (hl : l.length ≤ 18) (i : Nat) (hi : i < 4611686018427387904) (cap : Lv) (c : Nat) (hcap : cap.length = 2 ^ c) (hcl : c + l.length ≤ 18) (hci : inL (fP f) cap) (x : Dg) (hx : inD (fP f) x)  (hi2 : inL (fP f) l) : Fn s.env 20 [i64 f, slc Kd cap, i64 i, dig x, slc Kd l] (sbool (chk f cap i x l)) := by
  have hp18 := pow18 (show c ≤ 18 by omega)
  have hd : i / 2 ^ l.length ≤ i := Nat.div_le_self _ _
  refine Fn.of Tryd.func20 rfl Tryd.ntmps20 rfl ?_
  intro w0 F0
  refine Run.seq ?_
  refine Run.region ?_
  refine Run.boxA rfl rfl ?_
  intro b8
  refine Run.op rfl rfl rfl (y_assign rfl) ?_
  refine Run.nil ?_
  refine Run.nT ?_
  refine Run.seq ?_
  refine Run.region ?_
  refine Run.op rfl rfl rfl (y_move rfl) ?_
  refine Run.op rfl rfl rfl (Yields.int (y_lenS rfl Tryd.underlying40) (show (cap.length : Int) = ((2 ^ c : Nat) : Int) by rw [hcap])) ?_
  refine Run.op rfl rfl rfl (q_call en57 rfl (height_fn s c (by omega))) ?_
  refine Run.op rfl rfl rfl (y_assign rfl) ?_
  refine Run.nil ?_
  refine Run.nT ?_
  refine Run.seq ?_
  refine Run.seq ?_
  refine Run.region ?_
  refine Run.op rfl rfl rfl (y_move rfl) ?_
  refine Run.op rfl rfl rfl (Yields.bool (c := false) (y_lss rfl rfl) (by rw [decide_eq_false_iff_not]; omega)) ?_
  refine Run.op rfl rfl rfl (y_move rfl) ?_
  refine Run.opG rfl rfl rfl rfl rfl (y_move rfl) ?_
  refine Run.opG rfl rfl rfl rfl rfl (y_move rfl) ?_
  refine Run.opG rfl rfl rfl rfl rfl (y_loadPW 8 rfl rfl Tryd.underlying42 rfl ti42.siz) ?_
  refine Run.opG rfl rfl rfl rfl rfl (y_move rfl) ?_
  refine Run.opG rfl rfl rfl rfl rfl (Yields.bool (c := true) (q_call en62 rfl (opens_fn s f hf i x l hl hx hi2)) (rfl)) ?_
  refine Run.opG rfl rfl rfl rfl rfl (y_not rfl) ?_
  refine Run.op rfl rfl rfl (y_pickF rfl rfl) ?_
  refine Run.op rfl rfl rfl (y_move rfl) ?_
  refine Run.opG rfl rfl rfl rfl rfl (y_move rfl) ?_
  refine Run.opG rfl rfl rfl rfl rfl (y_move rfl) ?_
  refine Run.opG rfl rfl rfl rfl rfl (Yields.bool (c := true) (q_call en59 rfl (proper_fn s f cap (by omega))) (prp_of hci)) ?_
  refine Run.opG rfl rfl rfl rfl rfl (y_not rfl) ?_
  refine Run.op rfl rfl rfl (y_pickF rfl rfl) ?_
  refine Run.op rfl rfl rfl (y_move rfl) ?_
  refine Run.opG rfl rfl rfl rfl rfl (y_move rfl) ?_
  refine Run.opG rfl rfl rfl rfl rfl (y_move rfl) ?_
  refine Run.opG rfl rfl rfl rfl rfl (y_lenS rfl Tryd.underlying40) ?_
  refine Run.opG rfl rfl rfl rfl rfl (y_add rfl rfl (by first | exact wI_in (by omega) | rfl)) ?_
  refine Run.opG rfl rfl rfl rfl rfl (Yields.bool (c := false) (y_gtr rfl rfl) (by rw [decide_eq_false_iff_not]; omega)) ?_
  refine Run.op rfl rfl rfl (y_pickF rfl rfl) ?_
  refine Run.op rfl rfl rfl (y_move rfl) ?_
  refine Run.opG rfl rfl rfl rfl rfl (y_move rfl) ?_
  refine Run.opG rfl rfl rfl rfl rfl (y_move rfl) ?_
  refine Run.opG rfl rfl rfl rfl rfl (y_lenS rfl Tryd.underlying40) ?_
  refine Run.opG rfl rfl rfl rfl rfl (y_shr rfl rfl (by omega) (shr_nat (by omega))) ?_
  refine Run.opG rfl rfl rfl rfl rfl (y_move rfl) ?_
  refine Run.opG rfl rfl rfl rfl rfl (y_lenS rfl Tryd.underlying40) ?_
  refine Run.opG rfl rfl rfl rfl rfl (y_geq rfl rfl) ?_
  refine Run.op rfl rfl rfl (y_pickF rfl rfl) ?_
  refine Run.nil ?_
  refine Run.nT ?_
  refine Run.cond rfl (fun hb => ?_) (fun hb => ?_)
  · have hlt : ¬ i / 2 ^ l.length < cap.length := by have := of_decide_eq_true hb; omega
    refine Run.seq ?_
    refine Run.region ?_
    refine Run.op rfl rfl rfl (y_assign rfl) ?_
    refine Run.nil ?_
    refine Run.nT ?_
    refine Run.ret ?_
    refine Run.rT ?_
    exact Run.fin1 rfl rfl rfl (.tmp rfl) (fun _ _ h => by unfold chk; rw [if_neg hlt]; exact h)
  · have hlt : i / 2 ^ l.length < cap.length := by have := of_decide_eq_false hb; omega
    refine Run.skip ?_
    refine Run.nT ?_
    refine Run.seq ?_
    refine Run.weaken (Incl.same (t := 0) rfl (Incl.same (t := 1) rfl (Incl.same (t := 2) rfl (Incl.same (t := 3) rfl (Incl.same (t := 4) rfl (Incl.same (t := 8) rfl (Incl.same (t := 11) rfl Incl.nil))))))) ?_
    refine q_draw ?_ rfl
    refine Draw.step rfl rfl rfl (StepOk.op rfl rfl rfl (y_move rfl)) rfl ?_
    refine Draw.step rfl rfl rfl (StepOk.op rfl rfl rfl (y_move rfl)) rfl ?_
    refine Draw.step rfl rfl rfl (StepOk.op rfl rfl rfl (y_loadPW 8 rfl rfl Tryd.underlying42 rfl ti42.siz)) rfl ?_
    refine Draw.step rfl rfl rfl (StepOk.op rfl rfl rfl (y_move rfl)) rfl ?_
    refine Draw.step rfl rfl rfl (StepOk.op rfl rfl rfl (q_call en63 rfl (climb_fn s f hf i hi x hx l hl hi2))) rfl ?_
    refine Draw.step rfl rfl rfl (StepOk.op rfl rfl rfl (y_move rfl)) rfl ?_
    refine Draw.step rfl rfl rfl (StepOk.op rfl rfl rfl (y_move rfl)) rfl ?_
    refine Draw.step rfl rfl rfl (StepOk.op rfl rfl rfl (y_move rfl)) rfl ?_
    refine Draw.step rfl rfl rfl (StepOk.op rfl rfl rfl (y_lenS rfl Tryd.underlying40)) rfl ?_
    refine Draw.step rfl rfl rfl (StepOk.op rfl rfl rfl (y_shr rfl rfl (by omega) (shr_nat (by omega)))) rfl ?_
    refine Draw.step rfl rfl rfl (StepOk.op rfl rfl rfl (q_index (i / 2 ^ l.length) (cap.getD (i / 2 ^ l.length) (0, 0)) rfl rfl Tryd.underlying40 ti42 (fun _ => rfl) (rfl) (getD_some _ hlt))) rfl ?_
    refine Draw.step rfl rfl rfl (StepOk.op rfl rfl rfl (y_loadW rfl Tryd.underlying42 rfl ti42.siz)) rfl ?_
    refine Draw.step rfl rfl rfl (StepOk.op rfl rfl rfl (y_eqD rfl rfl rfl)) rfl ?_
    refine Draw.step rfl rfl rfl (StepOk.op rfl rfl rfl (y_assign rfl)) rfl ?_
    refine Draw.tail (m := 14) rfl rfl rfl ?_
    refine Run.nil ?_
    refine Run.nT ?_
    refine Run.ret ?_
    exact Run.fin1 rfl rfl rfl (.tmp rfl) (fun _ _ h => by unfold chk; rw [if_pos hlt]; exact h)

end

end Go.Vx
