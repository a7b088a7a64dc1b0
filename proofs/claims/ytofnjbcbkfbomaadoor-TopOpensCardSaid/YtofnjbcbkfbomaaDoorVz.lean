/- The statement of TopOpens: the row's step, the row, the tied card. Conditions: none. -/
import Derived.Test.YtofnjbcbkfbomaaDoorVy
import Derived.Test.YtofnjbcbkfbomaaDoorTie
import Derived.Test.YtofnjbcbkfbomaaDoorCards
import Derived.SevenTiedAt
namespace Go.Proofs.YtofnjbcbkfbomaaDoor
open Go Go.ChangeShapes Go.WideShapes Go.ChangeAt Go.RowKit
set_option linter.unusedVariables false

theorem own : ownKnob Tryd.prog.godebug = none := by kernel_rfl
theorem laidOut : laidOutB Tryd.prog = true := by kernel_rfl

/-- What came in as a list of numbers holds them. -/
theorem sd_holds {w : World} {a : Option Addr} {len cap : Nat} {zs : List Int} (hsp : ∀ x, a = some x → x.spot = none)
    (h : (a = none ∧ len = 0 ∧ cap = 0 ∧ zs = []) ∨ ∃ x, a = some x ∧ len ≤ cap ∧ zs.length = cap ∧ (∀ i, i < zs.length → w.cell? (x.add i) = some (.int .u32 (zs.getD i 0)))) :
    (Go.Vx.slc Go.Vx.K32 (zs.take len)).holds (fun _ => True) w (.slice a len cap) := by
  have cells : ∀ l : List Int, Go.Vx.Cells (fun _ => True) w (l.flatMap Go.Vx.K32) (l.map fun z => Value.int .u32 z) := by
    intro l
    induction l with
    | nil => trivial
    | cons z l ih => exact ⟨⟨rfl, rfl⟩, ih⟩
  rcases h with ⟨rfl, rfl, rfl, rfl⟩ | ⟨x, rfl, hl, hz, hc⟩
  · exact ⟨none, 0, [], rfl, trivial, rfl, rfl⟩
  · have hlen : (zs.take len).length = len := by simp; omega
    refine ⟨some x, cap, (zs.take len).map fun z => Value.int .u32 z, by rw [hlen], cells _, hsp x rfl, by rw [hlen]; exact hl, fun _ => trivial, fun j u hj => ?_⟩
    rw [List.getElem?_map, Option.map_eq_some_iff] at hj
    obtain ⟨z, hz1, rfl⟩ := hj
    have hjl : j < len := by have := (List.getElem?_eq_some_iff.1 hz1).1; omega
    rw [List.getElem?_take_of_lt hjl] at hz1
    have := hc j (by omega)
    obtain ⟨b, o, sp⟩ := x
    have hs := hsp _ rfl
    simp only at hs
    subst hs
    rw [Addr.add_lit] at this
    rw [this, List.getD_eq_getElem?_getD, hz1]; rfl

theorem wf_u8 {n : Int} (h : (Lit.int .u8 n).wf = true) : ∃ k : Nat, n = (k : Int) ∧ k < 256 := by
  have e1 : IntKind.u8.min = 0 := by decide
  have e2 : IntKind.u8.max = 255 := by decide
  simp [Lit.wf] at h
  exact ⟨n.toNat, by omega, by omega⟩
theorem wf_u32 {n : Int} (h : (Lit.int .u32 n).wf = true) : 0 ≤ n ∧ n < 4294967296 := by
  have e1 : IntKind.u32.min = 0 := by decide
  have e2 : IntKind.u32.max = 4294967295 := by decide
  simp [Lit.wf] at h
  omega

/-- The door's own heap meets the condition. -/
theorem door_met (os : Os) (args : Array Value) : laidMetH Tryd.prog Rows.topOpensRow.laid ((World.doorLaid Tryd.prog 54 os).forCall (fun _ _ => 0) ⟨#[], args, []⟩).memory :=
  laidMetH_of_parts3 (fuel := 8) (laidMet_of_run' 8 (by kernel_rfl) (by kernel_rfl)) (by kernel_rfl) (by kernel_rfl)

theorem heap5 {W : World} (h : laidMetH Tryd.prog Rows.topOpensRow.laid W) : 5 ≤ W.heap.size := by
  obtain ⟨us, hc, hat⟩ := Go.Vx.gO h (4, Go.Vx.deB.flatMap Go.Vx.K8) (by simp [Go.Vx.sO])
  obtain ⟨u, hu, -⟩ := hc.get (i := 0) (S := Go.Vx.u8 0) rfl
  have := Go.Vx.lt_of_cell (hat 0 u hu)
  exact this

set_option maxRecDepth 100000 in
theorem lifted (os : Os) (started : os.Started) (H : Type) (enc : TypeId × Value → H) :
    ReturnsInHanded {} Tryd.checked os 3 .any (fun w args => (Rows.topOpensSpec.pre enc Tryd.prog Tryd.f3 [] false w args ∧ laidMetH Tryd.prog Rows.topOpensRow.laid w) ∧ sizedMet enc Tryd.prog Tryd.f3 (OpenSpec.ofChange Rows.topOpensSpec) false w args)
      (Rows.topOpensSpec.post enc Tryd.prog Tryd.f3 false true false false) := by
  refine returnsInHanded_of_change_and (C := Tryd.checked) (X := fun w _ => laidMetH Tryd.prog Rows.topOpensRow.laid w) (fun _ _ _ hh h => h.of_heap hh) own started (by kernel_rfl) Tryd.func3
    (ChangeSpec.witness_shaped (enc := enc) (C := Tryd.checked) (os := os) (X := fun w _ => laidMetH Tryd.prog Rows.topOpensRow.laid w) false (World.doorLaid Tryd.prog 54 os) #[.int .u8 0, .int .u8 0, .int .u8 0, .slice none 0 0, .int .u8 0, .int .u8 0] 8 rfl (World.shaped_of_RefB (by kernel_rfl) (by kernel_rfl)) (by kernel_rfl) (by kernel_rfl) (by kernel_rfl) (door_met os _)) ?_
  intro W base args ds gs before hval0 hW _ _ hL _
  have hval : ∀ (j : Nat) t v, Tryd.f3.params[j]? = some t → args[j]? = some v → Value.okWide Tryd.prog W .any base t v := hval0
  have hW' := hW
  obtain ⟨p, q, hA0, hV, rfl, hfz, hnd⟩ := hW
  have hA : DataW.TrodAll enc Tryd.prog W 0 (fun _ => true) true Tryd.f3.params.toList args.toList ds p := hA0
  rw [Tryd.params3] at hA hval
  obtain ⟨v0, vs0, d0, ds0, p0, q0, hargs, rfl, rfl, h0, r0⟩ := trodAll_cons hA
  obtain ⟨v1, vs1, d1, ds1, p1, q1, rfl, rfl, rfl, h1, r1⟩ := trodAll_cons r0
  obtain ⟨v2, vs2, d2, ds2, p2, q2, rfl, rfl, rfl, h2, r2⟩ := trodAll_cons r1
  obtain ⟨v3, vs3, d3, ds3, p3, q3, rfl, rfl, rfl, h3, r3⟩ := trodAll_cons r2
  obtain ⟨v4, vs4, d4, ds4, p4, q4, rfl, rfl, rfl, h4, r4⟩ := trodAll_cons r3
  obtain ⟨v5, vs5, d5, ds5, p5, q5, rfl, rfl, rfl, h5, r5⟩ := trodAll_cons r4
  obtain ⟨rfl, rfl, rfl⟩ := trodAll_nil r5
  obtain rfl : args = #[v0, v1, v2, v3, v4, v5] := by cases args; simp_all
  obtain ⟨rfl, rfl⟩ := trodVars_none hV
  obtain ⟨a0, rfl, rfl, rfl, w0⟩ := open_int Tryd.underlying5 (hval 0 5 v0 rfl rfl) h0
  obtain ⟨a1, rfl, rfl, rfl, w1⟩ := open_int Tryd.underlying5 (hval 1 5 v1 rfl rfl) h1
  obtain ⟨a2, rfl, rfl, rfl, w2⟩ := open_int Tryd.underlying5 (hval 2 5 v2 rfl rfl) h2
  obtain ⟨a3, len3, cap3, rfl⟩ := okWide_slice Tryd.underlying22 (hval 3 22 v3 rfl rfl)
  have k3 := h3
  have lt3 : ∀ x ∈ p3, x.block < W.heap.size := by obtain ⟨m, hm⟩ := k3; exact DataW.trod_lt m _ _ _ hm
  have hsp : ∀ x, a3 = some x → x.spot = none := fun x hx => by
    subst hx
    have := hval 3 22 _ rfl rfl
    simp only [Value.okWide, Tryd.underlying22, Cell.okWide, Cell.ok, World.has] at this
    exact this.2.2.2.1
  obtain ⟨zs, hz, hzw⟩ : ∃ zs : List Int, ((a3 = none ∧ len3 = 0 ∧ cap3 = 0 ∧ zs = []) ∨ ∃ x, a3 = some x ∧ len3 ≤ cap3 ∧ zs.length = cap3 ∧ (∀ i, i < zs.length → W.cell? (x.add i) = some (.int .u32 (zs.getD i 0)))) ∧ ∀ n ∈ zs, (Lit.int .u32 n).wf = true := by
    obtain ⟨fuel, hf⟩ := h3
    rcases open_ints Tryd.underlying22 Tryd.underlying35 (by kernel_rfl) hf with ⟨hcs, _⟩ | ⟨x, l, c, zs, hcs, _, hl, hm, hz, _, hcell, hwz⟩
    · simp [Value.cells] at hcs
      obtain ⟨rfl, rfl, rfl⟩ := hcs
      exact ⟨[], .inl ⟨rfl, rfl, rfl, rfl⟩, fun n hn => by simp at hn⟩
    · simp [Value.cells] at hcs
      obtain ⟨rfl, rfl, rfl⟩ := hcs
      exact ⟨zs, .inr ⟨_, rfl, hl, by simpa using hz, hcell⟩, hwz⟩
  obtain ⟨a4, rfl, rfl, rfl, w4⟩ := open_int Tryd.underlying5 (hval 4 5 v4 rfl rfl) h4
  obtain ⟨a5, rfl, rfl, rfl, w5⟩ := open_int Tryd.underlying5 (hval 5 5 v5 rfl rfl) h5
  clear hA0 hval0
  obtain ⟨k0, rfl, b0⟩ := wf_u8 w0
  obtain ⟨k1, rfl, b1⟩ := wf_u8 w1
  obtain ⟨k2, rfl, b2⟩ := wf_u8 w2
  obtain ⟨k4, rfl, b4⟩ := wf_u8 w4
  obtain ⟨k5, rfl, b5⟩ := wf_u8 w5
  have C := Go.Vx.top_fn Go.Vx.sO k0 k1 k2 b0 b1 b2 (zs.take len3) (fun x hx => wf_u32 (hzw x (List.mem_of_mem_take hx))) k4 k5 b4 b5
  have hcall := C (fun _ => True) W [.int .u8 k0, .int .u8 k1, .int .u8 k2, .slice a3 len3 cap3, .int .u8 k4, .int .u8 k5] (Go.Vx.gO hL) (heap5 hL) (fun _ _ => trivial) ⟨rfl, rfl, rfl, sd_holds hsp hz, rfl, rfl, trivial⟩
  refine Calls.mono hcall fun e W' he => ?_
  obtain ⟨v, rfl, bel, hv⟩ := he
  have hv : v = .bool true := hv
  subst hv
  exact ⟨_, rfl, _, _, _, [], _, [], hW', trodAll_mk1 (shut_bool Tryd.underlying4 _), (trodAll_cons_mk (shut_int Tryd.underlying5 w0) (trodAll_cons_mk (shut_int Tryd.underlying5 w1) (trodAll_cons_mk (shut_int Tryd.underlying5 w2) (trodAll_cons_mk (Below.trod laidOut (by kernel_rfl) (of_decide_eq_true (by kernel_rfl)) k3 bel lt3) (trodAll_cons_mk (shut_int Tryd.underlying5 w4) (trodAll_cons_mk (shut_int Tryd.underlying5 w5) trodAll_mk0)))))), rfl, bel.frame _, fun h => by cases h⟩

theorem topOpens_holds : Rows.TopOpensSaid :=
  OpenClaim.holds_of_wide 3 Tryd.f3 rfl rfl rfl rfl rfl rfl rfl ⟨rfl, rfl, rfl, rfl, rfl⟩ rfl rfl rfl rfl rfl (by kernel_rfl) Tryd.func3 (by kernel_rfl)
    (of_decide_eq_true (by kernel_rfl)) (by unfold Func.isWrapper; first | (rw [if_pos (by decide +kernel)]; kernel_rfl) | (rw [if_neg (by decide +kernel)]; exact ⟨rfl, rfl⟩))
    (fun os started H enc _ => lifted os started H enc)
#print axioms topOpens_holds

/-- THE TIED CARD. -/
theorem topOpens_card : Rows.TopOpensCardSaid :=
  Claim7.holds_tied_plain_at .later [] [.widerDeep, .data, .data, .data] true (true, "45ee26f13c3c0979ee814f42bd331db7e6c76dadfe91ed096c6f95f68b885c5a") false
    topOpens_holds (fun _ h => by cases h) (by kernel_rfl) (fun _ h => by cases h) topOpens_row_tie rfl ⟨rfl, rfl⟩ (by kernel_rfl) rfl
    (fun f fn hf hfn => by
      obtain rfl : f = 3 := Option.some.inj ((show Tryd.prog.funcNamed "attestor/attestortop.TopOpens" = some 3 by kernel_rfl).symm.trans hf) |>.symm
      obtain rfl : fn = Tryd.f3 := (Option.some.inj (Tryd.func3.symm.trans hfn)).symm
      exact ⟨by kernel_rfl, fun j t ht => by
        rw [Tryd.params3] at ht
        have h3 : t = 5 ∨ t = 22 := by
          match j, ht with
          | 0, ht => left; simpa using ht.symm
          | 1, ht => left; simpa using ht.symm
          | 2, ht => left; simpa using ht.symm
          | 3, ht => right; simpa using ht.symm
          | 4, ht => left; simpa using ht.symm
          | 5, ht => left; simpa using ht.symm
          | j + 6, ht => simp at ht
        rcases h3 with rfl | rfl
        · exact (show Tryd.prog.wantsStandIn 5 = false by kernel_rfl)
        · exact (show Tryd.prog.wantsStandIn 22 = false by kernel_rfl)⟩)
    (by kernel_rfl)
#print axioms topOpens_card
end Go.Proofs.YtofnjbcbkfbomaaDoor
