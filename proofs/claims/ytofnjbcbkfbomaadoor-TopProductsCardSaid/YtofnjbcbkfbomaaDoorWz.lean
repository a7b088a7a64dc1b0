/- Walks: the statement: what is known, and its whole. Conditions: as each says. Printed by a program of our own (wip/tools/gen2.py). -/
import Derived.Test.YtofnjbcbkfbomaaDoorWx
namespace Go.Vx
open Go Go.RowKit Go.Proofs
set_option maxRecDepth 100000
variable (s : Seat)

theorem shl2 {q : Nat} (h : q ≤ 2) : IntKind.i64.wrap (2 * 2 ^ (min ((q : Nat) : Int).toNat IntKind.i64.bits)) = ((2 ^ (q + 1) : Nat) : Int) := by
  have : q = 0 ∨ q = 1 ∨ q = 2 := by omega
  rcases this with rfl | rfl | rfl <;> decide
abbrev l6 : List Int := [3, 5, 3, 8, 1, 90]
theorem l6_lt : ∀ x ∈ l6, 0 ≤ x ∧ x < 256 := by decide
abbrev x4 : T7 := cols14 4 l6 true
/-- One number altered. -/
def x5 : T7 := { x4 with l := fun q => if q = 2 then (x4.l 2 + 1) % 97 else x4.l q }
theorem ok_x4 : okT x4 := ok_cols l6_lt (by omega) true
theorem ok_x5 : okT x5 := fun q => by
  have h := ok_x4 q
  refine ⟨h.1, h.2.1, ?_, h.2.2.2⟩
  show 0 ≤ (if q = 2 then (x4.l 2 + 1) % 97 else x4.l q) ∧ (if q = 2 then (x4.l 2 + 1) % 97 else x4.l q) < 97
  split
  · exact em_lt (p := 97) (by decide) _
  · exact h.2.2.1
theorem x5_perm : permB 4 x5 4 = false := by decide +kernel
theorem cols4_fn : Fn s.env 9 [i64 4, slc Kk8 l6, sbool true] (sagg (Ktb 4 x4)) := columns14s_fn s 4 (by omega) l6 l6_lt true
theorem cols5_fx : FnX s.env 9 [i64 4, slc Kk8 l6, sbool true] [] (fun v : Value => sagg [slc Ku (rng 4 x4.a), slc Ku (rng 4 x4.b), sval v, slc Ku (rng 4 x4.r), slc Ku (rng 4 x4.e), slc Ku (rng 4 x4.n), slc Ku (rng 4 x4.t)]) (fun v => [Ent.rows Ku v 33 1 (rng 4 x4.l)]) := columns14x_fn s 4 (by omega) l6 l6_lt true
theorem w34_fn : Fn s.env 32 [u64 3, u64 4, u64 10, u64 2] (u64 21) := w14_fn s 3 4 10 2 (by omega) (by omega) (by omega) (by omega)
section
variable [hF : HasF s]
theorem arg4_fn : Fn s.env 8 [i64 4, sagg (Ktb 4 x4), u64 2] (stup [sbool true, sbool true]) :=
  argued14_fn s 2 (by omega) x4 ok_x4 2 (by omega) true true (hon_perm (by omega)) (hon_look (by omega))
theorem arg5_fn : Fn s.env 8 [i64 4, sagg (Ktb 4 x5), u64 2] (stup [sbool true, sbool false]) :=
  argued14_fn s 2 (by omega) x5 ok_x5 2 (by omega) false _ x5_perm rfl
theorem wgt34_fn : Fn s.env 31 [i64 0, slc Ku [3, 4], u64 10, u64 2] (u64 21) := aweight_fn s 0 10 2 (by decide) (by omega) (by omega) [3, 4] (by decide) (by decide)
end

section
variable [hF : HasF s]

theorem known14_fn  : Fn s.env 10 [] (sbool true) := by
  have hl2 := (ok_x4 2).2.2.1
  refine Fn.of Tryd.func10 rfl Tryd.ntmps10 rfl ?_
  intro w0 F0
  refine Run.seq ?_
  refine Run.region ?_
  refine Run.op rfl rfl rfl (y_assign rfl) ?_
  refine Run.nil ?_
  refine Run.nT ?_
  refine Run.seq ?_
  refine Run.region ?_
  refine Run.op rfl rfl rfl (q_buildL (K := Kk8) (l6) Tryd.underlying26 ti5 rfl rfl rfl (.cons rfl (Part.one' rfl) rfl (.cons rfl (Part.one' rfl) rfl (.cons rfl (Part.one' rfl) rfl (.cons rfl (Part.one' rfl) rfl (.cons rfl (Part.one' rfl) rfl (.cons rfl (Part.one' rfl) rfl .nil)))))) rfl) ?_
  refine Run.op rfl rfl rfl (q_call en9 rfl (cols4_fn s)) ?_
  refine Run.op rfl rfl rfl (q_call en8 rfl (arg4_fn s)) ?_
  refine Run.op rfl rfl rfl (y_move rfl) ?_
  refine Run.op rfl rfl rfl (y_extract rfl rfl) ?_
  refine Run.op rfl rfl rfl (y_extract rfl rfl) ?_
  refine Run.op rfl rfl rfl (y_assign rfl) ?_
  refine Run.op rfl rfl rfl (y_assign rfl) ?_
  refine Run.nil ?_
  refine Run.nT ?_
  refine Run.seq ?_
  refine Run.region ?_
  refine Run.op rfl rfl rfl (q_buildL (K := Kk8) (l6) Tryd.underlying26 ti5 rfl rfl rfl (.cons rfl (Part.one' rfl) rfl (.cons rfl (Part.one' rfl) rfl (.cons rfl (Part.one' rfl) rfl (.cons rfl (Part.one' rfl) rfl (.cons rfl (Part.one' rfl) rfl (.cons rfl (Part.one' rfl) rfl .nil)))))) rfl) ?_
  refine Run.callX [] [900] en9 rfl (cols5_fx s) rfl (fun _ => rfl) rfl ?_
  intro vl
  refine q_alloc ti31 rfl rfl ?_
  intro b3
  refine Run.storeW 3 rfl rfl rfl ti31.siz rfl ?_
  refine Run.nil ?_
  refine Run.nT ?_
  refine Run.seq ?_
  refine Run.weaken (Incl.same (t := 0) rfl (Incl.same (t := 1) rfl (Incl.same (t := 2) rfl (Incl.same (t := 3) rfl Incl.nil)))) ?_
  refine q_draw ?_ rfl
  refine Draw.step rfl rfl rfl (StepOk.op rfl rfl rfl (y_fieldP rfl Tryd.underlying31 rfl ti29.siz)) rfl ?_
  refine Draw.step rfl rfl rfl (StepOk.op rfl rfl rfl (y_loadP 3 rfl rfl (rfl) Tryd.underlying29 rfl)) rfl ?_
  refine Draw.step rfl rfl rfl (StepOk.op rfl rfl rfl (y_fieldP rfl Tryd.underlying31 rfl ti29.siz)) rfl ?_
  refine Draw.step rfl rfl rfl (StepOk.op rfl rfl rfl (y_loadP 3 rfl rfl (rfl) Tryd.underlying29 rfl)) rfl ?_
  refine Draw.step rfl rfl rfl (StepOk.op rfl rfl rfl (y_indexR 900 (2) rfl rfl rfl Tryd.underlying29 ti33.siz (rfl) (by rw [rng_len]; omega))) rfl ?_
  refine Draw.step rfl rfl rfl (StepOk.op rfl rfl rfl (y_loadR 900 rfl rfl (row_is (x := x4.l 2) (rng_get (by omega))) Tryd.underlying33 rfl)) rfl ?_
  refine Draw.step rfl rfl rfl (StepOk.op rfl rfl rfl (y_add rfl rfl (by first | exact wU_in (by omega) | rfl))) rfl ?_
  refine Draw.step rfl rfl rfl (StepOk.op rfl rfl rfl (y_rem rfl rfl (by omega) (by first | exact tmod_of (by omega) | rfl))) rfl ?_
  refine Draw.step rfl rfl rfl (StepOk.op rfl rfl rfl (y_indexR 900 (2) rfl rfl rfl Tryd.underlying29 ti33.siz (rfl) (by rw [rng_len]; omega))) rfl ?_
  refine Draw.tail (m := 9) rfl rfl rfl ?_
  refine q_storeR1 900 rfl rfl rfl ti33 (by rw [flatKu]; simp) ?_
  refine Run.own (t := 900) (e' := Ent.rows Ku vl 33 1 (rng 4 x5.l)) rfl (row_put' (j := 2) (by rw [rng_len]; omega) (rng_set (n := 4) (g := x4.l) (g' := x5.l) (by omega) fun q hne _ => (if_neg hne).symm) (by simp)) ?_
  refine Run.freezeInB (K := Ku) (l := rng 4 x5.l) (f0 := 2) 900 3 rfl rfl rfl ?_
  refine Run.nil ?_
  refine Run.nT ?_
  refine Run.seq ?_
  refine Run.region ?_
  refine Run.op rfl rfl rfl (y_loadPW 3 rfl rfl Tryd.underlying31 rfl ti31.siz) ?_
  refine Run.op rfl rfl rfl (q_call en8 rfl (arg5_fn s)) ?_
  refine Run.op rfl rfl rfl (y_move rfl) ?_
  refine Run.op rfl rfl rfl (y_extract rfl rfl) ?_
  refine Run.op rfl rfl rfl (y_extract rfl rfl) ?_
  refine Run.op rfl rfl rfl (y_assign rfl) ?_
  refine Run.op rfl rfl rfl (y_assign rfl) ?_
  refine Run.nil ?_
  refine Run.nT ?_
  refine Run.seq ?_
  refine Run.region ?_
  refine Run.op rfl rfl rfl (Yields.bool (c := true) (y_move rfl) (rfl)) ?_
  refine Run.op rfl rfl rfl (y_move rfl) ?_
  refine Run.opG rfl rfl rfl rfl rfl (Yields.bool (c := true) (y_move rfl) (rfl)) ?_
  refine Run.op rfl rfl rfl (y_pickT rfl rfl) ?_
  refine Run.op rfl rfl rfl (y_move rfl) ?_
  refine Run.opG rfl rfl rfl rfl rfl (Yields.bool (c := true) (y_move rfl) (rfl)) ?_
  refine Run.op rfl rfl rfl (y_pickT rfl rfl) ?_
  refine Run.op rfl rfl rfl (y_move rfl) ?_
  refine Run.opG rfl rfl rfl rfl rfl (y_move rfl) ?_
  refine Run.opG rfl rfl rfl rfl rfl (Yields.bool (c := true) (y_not rfl) (rfl)) ?_
  refine Run.op rfl rfl rfl (y_pickT rfl rfl) ?_
  refine Run.op rfl rfl rfl (y_move rfl) ?_
  refine Run.opG rfl rfl rfl rfl rfl (q_buildL (K := Ku) ([3, 4]) Tryd.underlying29 ti33 rfl rfl rfl (.cons rfl (Part.one' rfl) rfl (.cons rfl (Part.one' rfl) rfl .nil)) rfl) ?_
  refine Run.opG rfl rfl rfl rfl rfl (q_call en31 rfl (wgt34_fn s)) ?_
  refine Run.opG rfl rfl rfl rfl rfl (Yields.bool (c := true) (y_eql rfl rfl) (rfl)) ?_
  refine Run.op rfl rfl rfl (y_pickT rfl rfl) ?_
  refine Run.op rfl rfl rfl (y_move rfl) ?_
  refine Run.opG rfl rfl rfl rfl rfl (q_call en32 rfl (w34_fn s)) ?_
  refine Run.opG rfl rfl rfl rfl rfl (Yields.bool (c := true) (y_eql rfl rfl) (rfl)) ?_
  refine Run.op rfl rfl rfl (y_pickT rfl rfl) ?_
  refine Run.op rfl rfl rfl (y_assign rfl) ?_
  refine Run.nil ?_
  refine Run.nT ?_
  refine Run.ret ?_
  exact Run.fin1 rfl rfl rfl (.tmp rfl) (fun _ _ h => h)

theorem products_fn (q m : Nat) (hq : q = m % 3) (l : List Int) (hl : ∀ x ∈ l, 0 ≤ x ∧ x < 256) (honest : Bool) (e : Int) (he : 0 ≤ e ∧ e < 256) : Fn s.env 4 [u8 m, slc Kk8 l, sbool honest, u8 e] (sbool true) := by
  have hq2 : q ≤ 2 := by omega
  have hp2 : 2 ≤ 2 ^ (q + 1) := pow2_le (k := 1) (m := q + 1) (by omega)
  have hp8 : 2 ^ (q + 1) ≤ 8 := pow2_le (k := q + 1) (m := 3) (by omega)
  have hok := ok_cols hl hp8 honest
  have hP : honest = true → permB (2 ^ (q + 1)) (cols14 (2 ^ (q + 1)) l honest) (2 ^ (q + 1)) = true := fun h => by subst h; exact hon_perm (by omega)
  have hL : honest = true → lookB14 (2 ^ (q + 1)) (cols14 (2 ^ (q + 1)) l honest) (2 ^ (q + 1)) = true := fun h => by subst h; exact hon_look (by omega)
  refine Fn.of Tryd.func4 rfl Tryd.ntmps4 rfl ?_
  intro w0 F0
  refine Run.seq ?_
  refine Run.region ?_
  refine Run.op rfl rfl rfl (y_assign rfl) ?_
  refine Run.nil ?_
  refine Run.nT ?_
  refine Run.seq ?_
  refine Run.region ?_
  refine Run.op rfl rfl rfl (y_move rfl) ?_
  refine Run.op rfl rfl rfl (y_rem (r := ((q : Nat) : Int)) rfl rfl (by omega) (by rw [tmod_of (by omega)]; omega)) ?_
  refine Run.op rfl rfl rfl (y_shl (r := ((2 ^ (q + 1) : Nat) : Int)) rfl rfl (by omega) (shl2 hq2)) ?_
  refine Run.op rfl rfl rfl (y_assign rfl) ?_
  refine Run.nil ?_
  refine Run.nT ?_
  refine Run.seq ?_
  refine Run.region ?_
  refine Run.op rfl rfl rfl (y_move rfl) ?_
  refine Run.op rfl rfl rfl (y_move rfl) ?_
  refine Run.op rfl rfl rfl (y_move rfl) ?_
  refine Run.op rfl rfl rfl (y_move rfl) ?_
  refine Run.op rfl rfl rfl (q_call en9 rfl (columns14s_fn s (2 ^ (q + 1)) ⟨hp2, hp8⟩ l hl honest)) ?_
  refine Run.op rfl rfl rfl (y_move rfl) ?_
  refine Run.op rfl rfl rfl (y_conv Tryd.underlying5 Tryd.underlying33 rfl (by first | exact wU_in (by omega) | rfl)) ?_
  refine Run.op rfl rfl rfl (y_rem rfl rfl (by omega) (by first | exact tmod_of (by omega) | rfl)) ?_
  refine Run.op rfl rfl rfl (q_call en8 rfl (argued14_fn s (q + 1) (by omega) (cols14 (2 ^ (q + 1)) l honest) hok (e % 97) (em_lt (by decide) _) _ _ rfl rfl)) ?_
  refine Run.op rfl rfl rfl (y_move rfl) ?_
  refine Run.op rfl rfl rfl (y_extract rfl rfl) ?_
  refine Run.op rfl rfl rfl (y_extract rfl rfl) ?_
  refine Run.op rfl rfl rfl (y_assign rfl) ?_
  refine Run.op rfl rfl rfl (y_assign rfl) ?_
  refine Run.nil ?_
  refine Run.nT ?_
  refine Run.seq ?_
  refine Run.region ?_
  refine Run.op rfl rfl rfl (Yields.bool (c := true) (y_move rfl) (rfl)) ?_
  refine Run.op rfl rfl rfl (y_move rfl) ?_
  refine Run.opG rfl rfl rfl rfl rfl (y_move rfl) ?_
  refine Run.opG rfl rfl rfl rfl rfl (y_move rfl) ?_
  refine Run.opC rfl rfl rfl rfl rfl (fun hg => Yields.incl (Incl.same (t := 2) rfl Incl.nil) (y_move rfl)) ?_
  refine Run.opC rfl rfl rfl rfl rfl (fun hg => Yields.incl (Incl.cond (t := 31) rfl hg Incl.nil) (y_not rfl)) ?_
  refine Run.opG rfl rfl rfl rfl rfl (Yields.bool (c := true) (y_pickOr rfl rfl) (by rcases Bool.eq_false_or_eq_true honest with hh | hh; (· rw [hP hh, hL hh]; rfl); (· rw [hh]; simp))) ?_
  refine Run.op rfl rfl rfl (y_pickT rfl rfl) ?_
  refine Run.op rfl rfl rfl (y_move rfl) ?_
  refine Run.opG rfl rfl rfl rfl rfl (Yields.bool (c := true) (q_call en10 rfl (known14_fn s)) (rfl)) ?_
  refine Run.op rfl rfl rfl (y_pickT rfl rfl) ?_
  refine Run.op rfl rfl rfl (y_assign rfl) ?_
  refine Run.nil ?_
  refine Run.nT ?_
  refine Run.ret ?_
  exact Run.fin1 rfl rfl rfl (.tmp rfl) (fun _ _ h => h)

end

end Go.Vx
