/- The statement of TopProducts: the row's step, the row, the tied card. Conditions: none. -/
import Derived.Test.YtofnjbcbkfbomaaDoorXa
import Derived.Test.YtofnjbcbkfbomaaDoorTie
import Derived.Test.YtofnjbcbkfbomaaDoorCards
import Derived.SevenTiedAt
namespace Go.Proofs.YtofnjbcbkfbomaaDoor
open Go Go.ChangeShapes Go.WideShapes Go.ChangeAt Go.RowKit
set_option linter.unusedVariables false

theorem own : ownKnob Tryd.prog.godebug = none := by kernel_rfl
theorem laidOut : laidOutB Tryd.prog = true := by kernel_rfl

/-- What came in as a list of numbers holds them. -/
theorem sd_holds {w : World} {a : Option Addr} {len cap : Nat} {zs : List Int} (hsp : ∀ x, a = some x → x.spot = none)
    (h : (a = none ∧ len = 0 ∧ cap = 0 ∧ zs = []) ∨ ∃ x, a = some x ∧ len ≤ cap ∧ zs.length = cap ∧ (∀ i, i < zs.length → w.cell? (x.add i) = some (.int .u8 (zs.getD i 0)))) :
    (Go.Vx.slc Go.Vx.Kk8 (zs.take len)).holds (fun _ => True) w (.slice a len cap) := by
  have cells : ∀ l : List Int, Go.Vx.Cells (fun _ => True) w (l.flatMap Go.Vx.Kk8) (l.map fun z => Value.int .u8 z) := by
    intro l
    induction l with
    | nil => trivial
    | cons z l ih => exact ⟨⟨rfl, rfl⟩, ih⟩
  rcases h with ⟨rfl, rfl, rfl, rfl⟩ | ⟨x, rfl, hl, hz, hc⟩
  · exact ⟨none, 0, [], rfl, trivial, rfl, rfl⟩
  · have hlen : (zs.take len).length = len := by simp; omega
    refine ⟨some x, cap, (zs.take len).map fun z => Value.int .u8 z, by rw [hlen], cells _, hsp x rfl, by rw [hlen]; exact hl, fun _ => trivial, fun j u hj => ?_⟩
    rw [List.getElem?_map, Option.map_eq_some_iff] at hj
    obtain ⟨z, hz1, rfl⟩ := hj
    have hjl : j < len := by have := (List.getElem?_eq_some_iff.1 hz1).1; omega
    rw [List.getElem?_take_of_lt hjl] at hz1
    have := hc j (by omega)
    obtain ⟨b, o, sp⟩ := x
    have hs := hsp _ rfl
    simp only at hs
    subst hs
    rw [Addr.add_lit] at this
    rw [this, List.getD_eq_getElem?_getD, hz1]; rfl

theorem wf_u8 {n : Int} (h : (Lit.int .u8 n).wf = true) : ∃ k : Nat, n = (k : Int) ∧ k < 256 := by
  have e1 : IntKind.u8.min = 0 := by decide
  have e2 : IntKind.u8.max = 255 := by decide
  simp [Lit.wf] at h
  exact ⟨n.toNat, by omega, by omega⟩
theorem wf_b {n : Int} (h : (Lit.int .u8 n).wf = true) : 0 ≤ n ∧ n < 256 := by
  obtain ⟨k, rfl, hk⟩ := wf_u8 h
  omega

/-- The door's own heap meets the condition. -/
theorem door_met (os : Os) (args : Array Value) : laidMetH Tryd.prog Rows.topProductsRow.laid ((World.doorLaid Tryd.prog 54 os).forCall (fun _ _ => 0) ⟨#[], args, []⟩).memory :=
  laidMetH_of_parts3 (fuel := 8) (laidMet_of_run' 8 (by kernel_rfl) (by kernel_rfl)) (by kernel_rfl) (by kernel_rfl)

theorem heap3 {W : World} (h : laidMetH Tryd.prog Rows.topProductsRow.laid W) : 3 ≤ W.heap.size := by
  obtain ⟨us, hc, hat⟩ := Go.Vx.gP h (2, Go.Vx.fldT.flatMap Go.Vx.Kf) (by simp [Go.Vx.sP])
  obtain ⟨u, hu, -⟩ := hc.get (i := 0) (S := Go.Vx.u64 97) rfl
  have := Go.Vx.lt_of_cell (hat 0 u hu)
  exact this

set_option maxRecDepth 100000 in
theorem lifted (os : Os) (started : os.Started) (H : Type) (enc : TypeId × Value → H) :
    ReturnsInHanded {} Tryd.checked os 4 .any (fun w args => (Rows.topProductsSpec.pre enc Tryd.prog Tryd.f4 [] false w args ∧ laidMetH Tryd.prog Rows.topProductsRow.laid w) ∧ sizedMet enc Tryd.prog Tryd.f4 (OpenSpec.ofChange Rows.topProductsSpec) false w args)
      (Rows.topProductsSpec.post enc Tryd.prog Tryd.f4 false true false false) := by
  refine returnsInHanded_of_change_and (C := Tryd.checked) (X := fun w _ => laidMetH Tryd.prog Rows.topProductsRow.laid w) (fun _ _ _ hh h => h.of_heap hh) own started (by kernel_rfl) Tryd.func4
    (ChangeSpec.witness_shaped (enc := enc) (C := Tryd.checked) (os := os) (X := fun w _ => laidMetH Tryd.prog Rows.topProductsRow.laid w) false (World.doorLaid Tryd.prog 54 os) #[.int .u8 0, .slice none 0 0, .bool false, .int .u8 0] 8 rfl (World.shaped_of_RefB (by kernel_rfl) (by kernel_rfl)) (by kernel_rfl) (by kernel_rfl) (by kernel_rfl) (door_met os _)) ?_
  intro W base args ds gs before hval0 hW _ _ hL _
  have hval : ∀ (j : Nat) t v, Tryd.f4.params[j]? = some t → args[j]? = some v → Value.okWide Tryd.prog W .any base t v := hval0
  have hW' := hW
  obtain ⟨p, q, hA0, hV, rfl, hfz, hnd⟩ := hW
  have hA : DataW.TrodAll enc Tryd.prog W 0 (fun _ => true) true Tryd.f4.params.toList args.toList ds p := hA0
  rw [Tryd.params4] at hA hval
  obtain ⟨v0, vs0, d0, ds0, p0, q0, hargs, rfl, rfl, h0, r0⟩ := trodAll_cons hA
  obtain ⟨v1, vs1, d1, ds1, p1, q1, rfl, rfl, rfl, h1, r1⟩ := trodAll_cons r0
  obtain ⟨v2, vs2, d2, ds2, p2, q2, rfl, rfl, rfl, h2, r2⟩ := trodAll_cons r1
  obtain ⟨v3, vs3, d3, ds3, p3, q3, rfl, rfl, rfl, h3, r3⟩ := trodAll_cons r2
  obtain ⟨rfl, rfl, rfl⟩ := trodAll_nil r3
  obtain rfl : args = #[v0, v1, v2, v3] := by cases args; simp_all
  obtain ⟨rfl, rfl⟩ := trodVars_none hV
  obtain ⟨a0, rfl, rfl, rfl, w0⟩ := open_int Tryd.underlying5 (hval 0 5 v0 rfl rfl) h0
  obtain ⟨a1, len1, cap1, rfl⟩ := okWide_slice Tryd.underlying26 (hval 1 26 v1 rfl rfl)
  have k1 := h1
  have lt1 : ∀ x ∈ p1, x.block < W.heap.size := by obtain ⟨m, hm⟩ := k1; exact DataW.trod_lt m _ _ _ hm
  have hsp : ∀ x, a1 = some x → x.spot = none := fun x hx => by
    subst hx
    have := hval 1 26 _ rfl rfl
    simp only [Value.okWide, Tryd.underlying26, Cell.okWide, Cell.ok, World.has] at this
    exact this.2.2.2.1
  obtain ⟨zs, hz, hzw⟩ : ∃ zs : List Int, ((a1 = none ∧ len1 = 0 ∧ cap1 = 0 ∧ zs = []) ∨ ∃ x, a1 = some x ∧ len1 ≤ cap1 ∧ zs.length = cap1 ∧ (∀ i, i < zs.length → W.cell? (x.add i) = some (.int .u8 (zs.getD i 0)))) ∧ ∀ n ∈ zs, (Lit.int .u8 n).wf = true := by
    obtain ⟨fuel, hf⟩ := h1
    rcases open_ints Tryd.underlying26 Tryd.underlying5 (by kernel_rfl) hf with ⟨hcs, _⟩ | ⟨x, l, c, zs, hcs, _, hl, hm, hz, _, hcell, hwz⟩
    · simp [Value.cells] at hcs
      obtain ⟨rfl, rfl, rfl⟩ := hcs
      exact ⟨[], .inl ⟨rfl, rfl, rfl, rfl⟩, fun n hn => by simp at hn⟩
    · simp [Value.cells] at hcs
      obtain ⟨rfl, rfl, rfl⟩ := hcs
      exact ⟨zs, .inr ⟨_, rfl, hl, by simpa using hz, hcell⟩, hwz⟩
  obtain ⟨a2, rfl, rfl, rfl⟩ := open_bool Tryd.underlying4 (hval 2 4 v2 rfl rfl) h2
  obtain ⟨a3, rfl, rfl, rfl, w3⟩ := open_int Tryd.underlying5 (hval 3 5 v3 rfl rfl) h3
  clear hA0 hval0
  obtain ⟨m0, rfl, b0⟩ := wf_u8 w0
  have C := Go.Vx.products_fn Go.Vx.sP (m0 % 3) m0 rfl (zs.take len1) (fun x hx => wf_b (hzw x (List.mem_of_mem_take hx))) a2 a3 (wf_b w3)
  have hcall := C (fun _ => True) W [.int .u8 m0, .slice a1 len1 cap1, .bool a2, .int .u8 a3] (Go.Vx.gP hL) (heap3 hL) (fun _ _ => trivial) ⟨rfl, sd_holds hsp hz, rfl, rfl, trivial⟩
  refine Calls.mono hcall fun e W' he => ?_
  obtain ⟨v, rfl, bel, hv⟩ := he
  have hv : v = .bool true := hv
  subst hv
  exact ⟨_, rfl, _, _, _, [], _, [], hW', trodAll_mk1 (shut_bool Tryd.underlying4 _), (trodAll_cons_mk (shut_int Tryd.underlying5 w0) (trodAll_cons_mk (Below.trod laidOut (by kernel_rfl) (of_decide_eq_true (by kernel_rfl)) k1 bel lt1) (trodAll_cons_mk (shut_bool Tryd.underlying4 _) (trodAll_cons_mk (shut_int Tryd.underlying5 w3) trodAll_mk0)))), rfl, bel.frame _, fun h => by cases h⟩

theorem topProducts_holds : Rows.TopProductsSaid :=
  OpenClaim.holds_of_wide 4 Tryd.f4 rfl rfl rfl rfl rfl rfl rfl ⟨rfl, rfl, rfl, rfl, rfl⟩ rfl rfl rfl rfl rfl (by kernel_rfl) Tryd.func4 (by kernel_rfl)
    (of_decide_eq_true (by kernel_rfl)) (by unfold Func.isWrapper; first | (rw [if_pos (by decide +kernel)]; kernel_rfl) | (rw [if_neg (by decide +kernel)]; exact ⟨rfl, rfl⟩))
    (fun os started H enc _ => lifted os started H enc)
#print axioms topProducts_holds

/-- THE TIED CARD. -/
theorem topProducts_card : Rows.TopProductsCardSaid :=
  Claim7.holds_tied_plain_at .later [] [.widerDeep] true (true, "45ee26f13c3c0979ee814f42bd331db7e6c76dadfe91ed096c6f95f68b885c5a") false
    topProducts_holds (fun _ h => by cases h) (by kernel_rfl) (fun _ h => by cases h) topProducts_row_tie rfl ⟨rfl, rfl⟩ (by kernel_rfl) rfl
    (fun f fn hf hfn => by
      obtain rfl : f = 4 := Option.some.inj ((show Tryd.prog.funcNamed "attestor/attestortop.TopProducts" = some 4 by kernel_rfl).symm.trans hf) |>.symm
      obtain rfl : fn = Tryd.f4 := (Option.some.inj (Tryd.func4.symm.trans hfn)).symm
      exact ⟨by kernel_rfl, fun j t ht => by
        rw [Tryd.params4] at ht
        have h3 : t = 5 ∨ t = 26 ∨ t = 4 := by
          match j, ht with
          | 0, ht => left; simpa using ht.symm
          | 1, ht => right; left; simpa using ht.symm
          | 2, ht => right; right; simpa using ht.symm
          | 3, ht => left; simpa using ht.symm
          | j + 4, ht => simp at ht
        rcases h3 with rfl | rfl | rfl
        · exact (show Tryd.prog.wantsStandIn 5 = false by kernel_rfl)
        · exact (show Tryd.prog.wantsStandIn 26 = false by kernel_rfl)
        · exact (show Tryd.prog.wantsStandIn 4 = false by kernel_rfl)⟩)
    (by kernel_rfl)
#print axioms topProducts_card
end Go.Proofs.YtofnjbcbkfbomaaDoor
