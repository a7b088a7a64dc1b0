/- Walks of the program's functions: the fields. Conditions: as each says. Printed by a program of our own (wip/tools/gen.py). -/
import Derived.Test.YtofnjbcbkfbomaaDoorVk
namespace Go.Vx
open Go Go.RowKit Go.Proofs
set_option maxRecDepth 100000
variable (s : Seat)

theorem valid_fn (f : Int) : Fn s.env 58 [i64 f] (sbool (fv f)) := by
  refine Fn.of Tryd.func58 rfl Tryd.ntmps58 rfl ?_
  intro w0 F0
  refine Run.seq ?_
  refine Run.region ?_
  refine Run.op rfl rfl rfl (y_assign rfl) ?_
  refine Run.nil ?_
  refine Run.nT ?_
  refine Run.seq ?_
  refine Run.region ?_
  refine Run.op rfl rfl rfl (y_move rfl) ?_
  refine Run.op rfl rfl rfl (y_geq rfl rfl) ?_
  refine Run.op rfl rfl rfl (y_move rfl) ?_
  refine Run.opC rfl rfl rfl rfl rfl (fun hg => Yields.incl (Incl.same (t := 0) rfl Incl.nil) (y_move rfl)) ?_
  refine Run.opC rfl rfl rfl rfl rfl (fun hg => Yields.incl (Incl.cond (t := 6) rfl hg Incl.nil) (y_lss rfl rfl)) ?_
  refine Run.op rfl rfl rfl (y_pickAnd rfl rfl) ?_
  refine Run.op rfl rfl rfl (y_assign rfl) ?_
  refine Run.nil ?_
  refine Run.nT ?_
  refine Run.ret ?_
  exact Run.fin1 rfl rfl rfl (.tmp rfl) (fun _ _ h => h)

variable [hF : HasF s]

theorem of_zero {F : Foot} {w : World} {us : List Value} (h : Cells F w (zeros (.agg #[.int .u64 0, .int .u64 0, .int .i64 0, .int .i64 0, .slice none 0 0])) us) : Cells F w (Kf (0, 0, 0, 0)) us := by
  match us, h with
  | [_, _, _, _, _], ⟨⟨rfl, _⟩, ⟨rfl, _⟩, ⟨rfl, _⟩, ⟨rfl, _⟩, ⟨rfl, _⟩, _⟩ => exact ⟨⟨rfl, rfl⟩, ⟨rfl, rfl⟩, ⟨rfl, rfl⟩, ⟨rfl, rfl⟩, ⟨rfl, rfl⟩, trivial⟩
theorem of_fn (f : Int) : Fn s.env 123 [i64 f] (sagg (Kf (fld f))) := by
  refine Fn.of Tryd.func123 rfl Tryd.ntmps123 rfl ?_
  intro w0 F0
  refine Run.seq ?_
  refine Run.region ?_
  refine q_alloc ti195 rfl rfl ?_
  intro b2
  refine Run.nil ?_
  refine Run.nT ?_
  refine Run.seq ?_
  refine Run.seq ?_
  refine Run.region ?_
  refine Run.op rfl rfl rfl (y_move rfl) ?_
  refine Run.op rfl rfl rfl (q_call en58 rfl (valid_fn s _)) ?_
  refine Run.op rfl rfl rfl (y_not rfl) ?_
  refine Run.nil ?_
  refine Run.nT ?_
  refine Run.cond rfl (fun hb => ?_) (fun hb => ?_)
  · have hv : fv f = false := by simpa using hb
    refine Run.seq ?_
    refine Run.region ?_
    refine Run.op rfl rfl rfl (q_buildS [(0, 1), (1, 1), (2, 1), (3, 1), (4, 1)] Tryd.underlying195 ti195 rfl (fun w => by simp [run_sizeOf ti29.siz, run_sizeOf ti3.siz, run_sizeOf ti33.siz]) .nil) ?_
    refine Run.storeW 2 rfl rfl rfl ti195.siz rfl ?_
    refine Run.nil ?_
    refine Run.nT ?_
    refine Run.ret ?_
    refine Run.rT ?_
    refine Run.fin1 rfl rfl rfl (.agg 2 rfl rfl Tryd.underlying195 rfl ti195.siz) (fun w v h => ?_)
    rw [fld_no hv]
    obtain ⟨us, h1, h2⟩ := h
    exact ⟨us, h1, of_zero h2⟩
  · have hv : fv f = true := by simpa using hb
    refine Run.skip ?_
    refine Run.nT ?_
    refine Run.seq ?_
    refine Run.region ?_
    refine Run.op rfl rfl rfl (y_move rfl) ?_
    refine Run.op rfl rfl rfl (q_indexG f.toNat (fld f) hF.mem rfl Tryd.underlying232 ti195 (fun _ => rfl) rfl (by have := fv_iff.1 hv; omega) (fld_get hv)) ?_
    refine Run.op rfl rfl rfl (y_loadW rfl Tryd.underlying195 rfl ti195.siz) ?_
    refine Run.storeW 2 rfl rfl rfl ti195.siz rfl ?_
    refine Run.nil ?_
    refine Run.nT ?_
    refine Run.ret ?_
    exact Run.fin1 rfl rfl rfl (.agg 2 rfl rfl Tryd.underlying195 rfl ti195.siz) (fun w v h => h)

theorem P_fn (f : Int) : Fn s.env 109 [i64 f] (u64 (fP f)) := by
  refine Fn.of Tryd.func109 rfl Tryd.ntmps109 rfl ?_
  intro w0 F0
  refine Run.seq ?_
  refine Run.region ?_
  refine Run.op rfl rfl rfl (y_assign rfl) ?_
  refine Run.nil ?_
  refine Run.nT ?_
  refine Run.seq ?_
  refine Run.region ?_
  refine Run.op rfl rfl rfl (y_move rfl) ?_
  refine Run.op rfl rfl rfl (q_call en123 rfl (of_fn s _)) ?_
  refine Run.op rfl rfl rfl (y_fieldV rfl Tryd.underlying195 rfl Tryd.underlying33 rfl rfl) ?_
  refine Run.op rfl rfl rfl (y_assign rfl) ?_
  refine Run.nil ?_
  refine Run.nT ?_
  refine Run.ret ?_
  exact Run.fin1 rfl rfl rfl (.tmp rfl) (fun _ _ h => h)

theorem Gen_fn (f : Int) : Fn s.env 155 [i64 f] (u64 (fG f)) := by
  refine Fn.of Tryd.func155 rfl Tryd.ntmps155 rfl ?_
  intro w0 F0
  refine Run.seq ?_
  refine Run.region ?_
  refine Run.op rfl rfl rfl (y_assign rfl) ?_
  refine Run.nil ?_
  refine Run.nT ?_
  refine Run.seq ?_
  refine Run.region ?_
  refine Run.op rfl rfl rfl (y_move rfl) ?_
  refine Run.op rfl rfl rfl (q_call en123 rfl (of_fn s _)) ?_
  refine Run.op rfl rfl rfl (y_fieldV rfl Tryd.underlying195 rfl Tryd.underlying33 rfl rfl) ?_
  refine Run.op rfl rfl rfl (y_assign rfl) ?_
  refine Run.nil ?_
  refine Run.nT ?_
  refine Run.ret ?_
  exact Run.fin1 rfl rfl rfl (.tmp rfl) (fun _ _ h => h)

theorem Twos_fn (f : Int) : Fn s.env 73 [i64 f] (i64 (fT f)) := by
  refine Fn.of Tryd.func73 rfl Tryd.ntmps73 rfl ?_
  intro w0 F0
  refine Run.seq ?_
  refine Run.region ?_
  refine Run.op rfl rfl rfl (y_assign rfl) ?_
  refine Run.nil ?_
  refine Run.nT ?_
  refine Run.seq ?_
  refine Run.region ?_
  refine Run.op rfl rfl rfl (y_move rfl) ?_
  refine Run.op rfl rfl rfl (q_call en123 rfl (of_fn s _)) ?_
  refine Run.op rfl rfl rfl (y_fieldV rfl Tryd.underlying195 rfl Tryd.underlying3 rfl rfl) ?_
  refine Run.op rfl rfl rfl (y_assign rfl) ?_
  refine Run.nil ?_
  refine Run.nT ?_
  refine Run.ret ?_
  exact Run.fin1 rfl rfl rfl (.tmp rfl) (fun _ _ h => h)

theorem Exp_fn (f : Int) : Fn s.env 156 [i64 f] (i64 (fE f)) := by
  refine Fn.of Tryd.func156 rfl Tryd.ntmps156 rfl ?_
  intro w0 F0
  refine Run.seq ?_
  refine Run.region ?_
  refine Run.op rfl rfl rfl (y_assign rfl) ?_
  refine Run.nil ?_
  refine Run.nT ?_
  refine Run.seq ?_
  refine Run.region ?_
  refine Run.op rfl rfl rfl (y_move rfl) ?_
  refine Run.op rfl rfl rfl (q_call en123 rfl (of_fn s _)) ?_
  refine Run.op rfl rfl rfl (y_fieldV rfl Tryd.underlying195 rfl Tryd.underlying3 rfl rfl) ?_
  refine Run.op rfl rfl rfl (y_assign rfl) ?_
  refine Run.nil ?_
  refine Run.nT ?_
  refine Run.ret ?_
  exact Run.fin1 rfl rfl rfl (.tmp rfl) (fun _ _ h => h)

end Go.Vx
