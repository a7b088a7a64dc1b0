/- Walks: the statement: argued at each challenge. Conditions: as each says. Printed by a program of our own (wip/tools/gen2.py). -/
import Derived.Test.YtofnjbcbkfbomaaDoorWv
namespace Go.Vx
open Go Go.RowKit Go.Proofs
set_option maxRecDepth 100000
variable (s : Seat)

section
variable [hF : HasF s]

theorem argued14_fn (k : Nat) (hk : 1 ≤ k ∧ k ≤ 3) (x : T7) (hx : okT x) (d : Int) (hd : 0 ≤ d ∧ d < 97) (P L : Bool) (hP : permB (2 ^ k) x (2 ^ k) = P) (hL : lookB14 (2 ^ k) x (2 ^ k) = L) : Fn s.env 8 [i64 (((2 ^ k) : Nat) : Int), sagg (Ktb (2 ^ k) x), u64 d] (stup [sbool true, sbool (P && L)]) := by
  have hp2 : 2 ≤ (2 ^ k) := pow2_le (k := 1) (m := k) (by omega)
  have hp8 : (2 ^ k) ≤ 8 := pow2_le (k := k) (m := 3) (by omega)
  have hho : Fn s.env 26 [sagg (Ktb (2 ^ k) x)] (stup [sbool P, sbool L]) := by
    have h := holds14_fn s (2 ^ k) ⟨hp2, hp8⟩ x (fun q => ⟨(hx q).2.2.2.2.2.1.1, by have := (hx q).2.2.2.2.2.1; omega⟩)
    rwa [hP, hL] at h
  have hhf : Fn s.env 27 [sagg (Ksys k (ttx (2 ^ k) x)), sagg (Ktr (csx (2 ^ k) x))] (stup [sbool (P && L), i64 0]) := by
    have h := holds_fn s k hk (ttx (2 ^ k) x) (rng_len _ _) (ok_rng fun q => (hx q).2.2.2.2.2.2) (csx (2 ^ k) x) rfl (ok_csx hx)
    rwa [bal_law hx, cnt_law hx, hP, hL] at h
  have hZ : ∀ c d, P = true → (nacc (2 ^ k) x c d (2 ^ k) || decide (Zc (2 ^ k) x c d (2 ^ k) = 1)) = true := fun c d h => perm_Z (by rw [hP, h])
  have hY : ∀ c d, L = true → (nacc (2 ^ k) x c d (2 ^ k) || decide (Yc (2 ^ k) x c d (2 ^ k) = 0)) = true := fun c d h => look_Y hx (by rw [hL, h])
  refine Fn.of Tryd.func8 rfl Tryd.ntmps8 rfl ?_
  intro w0 F0
  refine Run.seq ?_
  refine Run.region ?_
  refine Run.boxA rfl rfl ?_
  intro b4
  refine Run.freezeB 4 4 rfl rfl ?_
  refine Run.op rfl rfl rfl (y_assign rfl) ?_
  refine Run.op rfl rfl rfl (y_assign rfl) ?_
  refine Run.nil ?_
  refine Run.nT ?_
  refine Run.seq ?_
  refine Run.region ?_
  refine Run.op rfl rfl rfl (y_move rfl) ?_
  refine Run.op rfl rfl rfl (y_loadW rfl Tryd.underlying31 rfl ti31.siz) ?_
  refine Run.op rfl rfl rfl (q_call en25 rfl (system14_fn s k hk x)) ?_
  refine Run.op rfl rfl rfl (y_move rfl) ?_
  refine Run.op rfl rfl rfl (y_extract rfl rfl) ?_
  refine Run.op rfl rfl rfl (y_extract rfl rfl) ?_
  refine q_alloc ti66 rfl rfl ?_
  intro b8
  refine q_alloc ti68 rfl rfl ?_
  intro b9
  refine Run.storeW 8 rfl rfl rfl ti66.siz rfl ?_
  refine Run.freezeB 8 8 rfl rfl ?_
  refine Run.storeW 9 rfl rfl rfl ti68.siz rfl ?_
  refine Run.freezeB 9 9 rfl rfl ?_
  refine Run.nil ?_
  refine Run.nT ?_
  refine Run.seq ?_
  refine Run.region ?_
  refine Run.op rfl rfl rfl (y_loadW rfl Tryd.underlying31 rfl ti31.siz) ?_
  refine Run.op rfl rfl rfl (q_call en26 rfl hho) ?_
  refine Run.op rfl rfl rfl (y_move rfl) ?_
  refine Run.op rfl rfl rfl (y_extract rfl rfl) ?_
  refine Run.op rfl rfl rfl (y_extract rfl rfl) ?_
  refine Run.op rfl rfl rfl (y_assign rfl) ?_
  refine Run.op rfl rfl rfl (y_assign rfl) ?_
  refine Run.nil ?_
  refine Run.nT ?_
  refine Run.seq ?_
  refine Run.region ?_
  refine Run.op rfl rfl rfl (y_loadW rfl Tryd.underlying66 rfl ti66.siz) ?_
  refine Run.op rfl rfl rfl (y_loadW rfl Tryd.underlying68 rfl ti68.siz) ?_
  refine Run.op rfl rfl rfl (q_call en27 rfl hhf) ?_
  refine Run.op rfl rfl rfl (y_move rfl) ?_
  refine Run.op rfl rfl rfl (y_extract rfl rfl) ?_
  refine Run.op rfl rfl rfl (y_extract rfl rfl) ?_
  refine Run.op rfl rfl rfl (y_assign rfl) ?_
  refine Run.op rfl rfl rfl (y_assign rfl) ?_
  refine Run.nil ?_
  refine Run.nT ?_
  refine Run.seq ?_
  refine Run.seq ?_
  refine Run.region ?_
  refine Run.op rfl rfl rfl (y_loadW rfl Tryd.underlying66 rfl ti66.siz) ?_
  refine Run.op rfl rfl rfl (q_call en28 rfl (sysValid_fn s k hk (ttx (2 ^ k) x) (rng_len _ _) (ok_rng fun q => (hx q).2.2.2.2.2.2))) ?_
  refine Run.op rfl rfl rfl (Yields.bool (c := false) (y_not rfl) (rfl)) ?_
  refine Run.op rfl rfl rfl (y_move rfl) ?_
  refine Run.opG rfl rfl rfl rfl rfl (y_move rfl) ?_
  refine Run.opG rfl rfl rfl rfl rfl (Yields.bool (c := false) (y_neq rfl rfl) (rfl)) ?_
  refine Run.op rfl rfl rfl (Yields.bool (c := false) (y_pickF rfl rfl) (rfl)) ?_
  refine Run.op rfl rfl rfl (y_move rfl) ?_
  refine Run.opG rfl rfl rfl rfl rfl (y_move rfl) ?_
  refine Run.opG rfl rfl rfl rfl rfl (y_move rfl) ?_
  refine Run.opG rfl rfl rfl rfl rfl (y_move rfl) ?_
  refine Run.opC rfl rfl rfl rfl rfl (fun hg => Yields.incl (Incl.same (t := 11) rfl Incl.nil) (y_move rfl)) ?_
  refine Run.opG rfl rfl rfl rfl rfl (y_pickAnd rfl rfl) ?_
  refine Run.opG rfl rfl rfl rfl rfl (Yields.bool (c := false) (y_eqB true rfl rfl Tryd.underlying4) (by cases P <;> cases L <;> rfl)) ?_
  refine Run.op rfl rfl rfl (y_pickF rfl rfl) ?_
  refine Run.nil ?_
  refine Run.nT ?_
  refine Run.cond0 rfl ?_
  refine Run.skip ?_
  refine Run.nT ?_
  refine Run.seq ?_
  refine Run.seq ?_
  refine Run.region ?_
  refine Run.op rfl rfl rfl (y_assign rfl) ?_
  refine Run.nil ?_
  refine Run.nT ?_
  refine Run.block ?_
  refine Run.loopK (ι := Nat) (fun c => c ≤ 97) (fun c => 97 - c) (fun c => []) [2, 4, 8, 9, 10, 11, 12] (fun c => [(14, u64 c)]) 0 (by omega) rfl (Incl.same (t := 14) rfl (Incl.pick [2, 4, 8, 9, 10, 11, 12])) ?_
  rintro c hc
  show Run _ _ _ [(14, _), (2, _), (4, _), (8, _), (9, _), (10, _), (11, _), (12, _)] _
  refine Run.seq ?_
  refine Run.seq ?_
  refine Run.region ?_
  refine Run.op rfl rfl rfl (y_move rfl) ?_
  refine Run.op rfl rfl rfl (y_lss rfl rfl) ?_
  refine Run.nil ?_
  refine Run.nT ?_
  refine Run.cond rfl (fun hb => ?_) (fun hb => ?_)
  · have hc97 : c < 97 := by have := of_decide_eq_true hb; omega
    refine Run.skip ?_
    refine Run.nT ?_
    refine Run.seq ?_
    refine Run.block ?_
    refine Run.seq ?_
    refine Run.region ?_
    refine Run.op rfl rfl rfl (y_loadW rfl Tryd.underlying66 rfl ti66.siz) ?_
    refine Run.op rfl rfl rfl (y_loadW rfl Tryd.underlying68 rfl ti68.siz) ?_
    refine Run.op rfl rfl rfl (y_loadW rfl Tryd.underlying31 rfl ti31.siz) ?_
    refine Run.op rfl rfl rfl (y_move rfl) ?_
    refine Run.op rfl rfl rfl (y_move rfl) ?_
    refine Run.op rfl rfl rfl (q_call en29 rfl (challenged14_fn s k hk x hx c d (by omega) hd)) ?_
    refine Run.op rfl rfl rfl (y_move rfl) ?_
    refine Run.op rfl rfl rfl (y_extract rfl rfl) ?_
    refine Run.op rfl rfl rfl (y_extract rfl rfl) ?_
    refine Run.op rfl rfl rfl (y_extract rfl rfl) ?_
    refine Run.op rfl rfl rfl (y_assign rfl) ?_
    refine Run.op rfl rfl rfl (y_assign rfl) ?_
    refine Run.op rfl rfl rfl (y_assign rfl) ?_
    refine Run.nil ?_
    refine Run.nT ?_
    refine Run.seq ?_
    refine Run.region ?_
    refine Run.op rfl rfl rfl (y_move rfl) ?_
    refine Run.op rfl rfl rfl (Yields.bool (c := false) (y_not rfl) (rfl)) ?_
    refine Run.op rfl rfl rfl (y_move rfl) ?_
    refine Run.opG rfl rfl rfl rfl rfl (y_move rfl) ?_
    refine Run.opG rfl rfl rfl rfl rfl (y_move rfl) ?_
    refine Run.opC rfl rfl rfl rfl rfl (fun hg => Yields.incl (Incl.same (t := 16) rfl Incl.nil) (y_move rfl)) ?_
    refine Run.opC rfl rfl rfl rfl rfl (fun hg => Yields.incl (Incl.cond (t := 69) rfl hg Incl.nil) (y_not rfl)) ?_
    refine Run.opG rfl rfl rfl rfl rfl (Yields.bool (c := false) (y_pickAnd rfl rfl) (by clear hhf hho; cases hPb : P with | false => rfl | true => rw [hZ _ _ hPb]; rfl)) ?_
    refine Run.op rfl rfl rfl (Yields.bool (c := false) (y_pickF rfl rfl) (rfl)) ?_
    refine Run.op rfl rfl rfl (y_move rfl) ?_
    refine Run.opG rfl rfl rfl rfl rfl (y_move rfl) ?_
    refine Run.opG rfl rfl rfl rfl rfl (y_move rfl) ?_
    refine Run.opC rfl rfl rfl rfl rfl (fun hg => Yields.incl (Incl.same (t := 17) rfl Incl.nil) (y_move rfl)) ?_
    refine Run.opC rfl rfl rfl rfl rfl (fun hg => Yields.incl (Incl.cond (t := 76) rfl hg Incl.nil) (y_not rfl)) ?_
    refine Run.opG rfl rfl rfl rfl rfl (Yields.bool (c := false) (y_pickAnd rfl rfl) (by cases hLb : L with | false => rfl | true => rw [hY _ _ hLb]; rfl)) ?_
    refine Run.op rfl rfl rfl (y_pickF rfl rfl) ?_
    refine Run.nil ?_
    refine Run.nT ?_
    refine Run.cond0 rfl ?_
    refine Run.skip ?_
    refine Run.nB ?_
    refine Run.nT ?_
    refine Run.region ?_
    refine Run.op rfl rfl rfl (y_move rfl) ?_
    refine Run.op rfl rfl rfl (y_add rfl rfl (by first | exact wU_in (by omega) | rfl)) ?_
    refine Run.op rfl rfl rfl (y_assign rfl) ?_
    refine Run.nil ?_
    refine Run.nT ?_
    refine Run.round (c + 1) ?_ ?_ ?_ ?_
    · show c + 1 ≤ 97; omega
    · show 97 - (c + 1) < 97 - c; omega
    · rfl
    · exact (Incl.int (t := 14) rfl (by omega) (Incl.same (t := 2) rfl (Incl.same (t := 4) rfl (Incl.same (t := 8) rfl (Incl.same (t := 9) rfl (Incl.same (t := 10) rfl (Incl.same (t := 11) rfl (Incl.same (t := 12) rfl Incl.nil))))))))
  · obtain rfl : c = 97 := by have := of_decide_eq_false hb; omega
    refine Run.exit ?_
    refine Run.eT ?_
    refine Run.eT ?_
    refine Run.eB ?_
    refine Run.nT ?_
    refine Run.seq ?_
    refine Run.region ?_
    refine Run.op rfl rfl rfl (y_move rfl) ?_
    refine Run.op rfl rfl rfl (y_assign rfl) ?_
    refine Run.op rfl rfl rfl (y_assign rfl) ?_
    refine Run.nil ?_
    refine Run.nT ?_
    refine Run.ret ?_
    exact Run.fin2 rfl rfl rfl (.tmp rfl) (.tmp rfl) (fun _ _ h => h) (fun _ _ h => h)

end

end Go.Vx
