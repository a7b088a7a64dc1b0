/- From a variable's reading to its cells, for the assertions of Va: arrays and structs of numbers, of arrays, of slices. Conditions: each law states what it asks. -/
import Derived.Test.YtofnjbcbkfbomaaDoorV4
import Derived.Lib.LaidTab
import Derived.MakeChecks
namespace Go.Vx
open Go Go.RowKit

/-- Whatever reads as d holds the cells l. -/
def Rd (P : Program) (t : TypeId) (d : DataW Unit) (l : List Spec) : Prop :=
  ∀ (w : World) (fuel : Nat) (cs : List Value) (p : List MemPlace), DataW.trod (fun _ => ()) P w 0 (fun _ => true) false fuel t cs = some (d, p) → Cells (fun _ => True) w l cs

theorem Rd.int {P : Program} {t : TypeId} {k : IntKind} {n : Int} (ht : P.underlying t = some (.int k)) : Rd P t (.lit (.int k n)) [sval (.int k n)] := fun w fuel cs p h => by
  obtain ⟨m, rfl, e, -⟩ := DataW.trod_int ht h
  have e1 := congrArg Prod.fst e
  simp only [DataW.lit.injEq, Lit.int.injEq, true_and] at e1
  subst e1
  exact ⟨⟨rfl, rfl⟩, trivial⟩
theorem Rd.slice {P : Program} {t e : TypeId} {d : DataW Unit} (ht : P.underlying t = some (.slice e)) : Rd P t d [sone] := fun w fuel cs p h => by
  rcases DataW.trod_slice ht h with ⟨rfl, -⟩ | ⟨a, len, cap, elems, rest, n, -, rfl, -⟩
  · exact ⟨⟨rfl, rfl⟩, trivial⟩
  · exact ⟨⟨rfl, rfl⟩, trivial⟩
theorem cells_cat {F : Foot} {w : World} {m : Nat} : ∀ {ls : List (List Spec)} {cs : List Value}, cs.length = ls.length * m → (∀ i l, ls[i]? = some l → Cells F w l ((cs.drop (i * m)).take m)) → Cells F w ls.flatten cs
  | [], cs, hl, _ => by
    have : cs = [] := List.eq_nil_of_length_eq_zero (by simpa using hl)
    subst this
    trivial
  | l :: ls, cs, hl, h => by
    have h0 := h 0 l rfl
    rw [Nat.zero_mul, List.drop_zero] at h0
    have hr : Cells F w ls.flatten (cs.drop m) := cells_cat (m := m) (by rw [List.length_drop, hl, List.length_cons, Nat.add_mul]; omega) fun i x hx => by
      have := h (i + 1) x hx
      rwa [show (i + 1) * m = m + i * m by rw [Nat.add_mul]; omega, ← List.drop_drop] at this
    have := h0.append hr
    rwa [List.take_append_drop] at this
theorem Rd.arr {P : Program} {t e : TypeId} {n m : Nat} {ds : List (DataW Unit)} {ls : List (List Spec)} (ht : P.underlying t = some (.array n e)) (hce : P.cellsOf e = m) (hct : P.cellsOf t = n * m) (hl : ls.length = n)
    (h : ∀ (i : Nat) (d : DataW Unit) (l : List Spec), ds[i]? = some d → ls[i]? = some l → Rd P e d l) : Rd P t (.agg ds) ls.flatten := fun w fuel cs p h0 => by
  cases fuel with
  | zero => simp [DataW.trod] at h0
  | succ fuel =>
    simp only [DataW.trod, ht, hce, hct] at h0
    split at h0
    · rename_i hlen
      obtain ⟨xs, hm, hx⟩ := Option.map_eq_some_iff.1 h0
      have hxs : xs.map (·.1) = ds := by
        have := congrArg Prod.fst hx
        simpa using this
      refine cells_cat (m := m) (by rw [hlen, hl]) fun i l hi => ?_
      have hin : i < n := by rw [← hl]; exact (List.getElem?_eq_some_iff.1 hi).1
      obtain ⟨b, hb, hf⟩ := Lib.mapM_at hm i i (by simp [hin])
      have hd : ds[i]? = some b.1 := by rw [← hxs, List.getElem?_map, hb]; rfl
      exact h i b.1 l hd hi w fuel _ b.2 hf
    · cases h0
theorem Rd.struct {P : Program} {t : TypeId} {fs : Array Field} {ds : List (DataW Unit)} {ls : List (List Spec)} (ht : P.underlying t = some (.struct fs)) (hct : P.cellsOf t = ls.length) (hl : fs.toList.length = ls.length)
    (h : ∀ (i : Nat) (f : Field) (d : DataW Unit) (l : List Spec), fs.toList[i]? = some f → ds[i]? = some d → ls[i]? = some l → f.offset = i ∧ P.cellsOf f.type = 1 ∧ Rd P f.type d l) : Rd P t (.agg ds) ls.flatten := fun w fuel cs p h0 => by
  cases fuel with
  | zero => simp [DataW.trod] at h0
  | succ fuel =>
    simp only [DataW.trod, ht, hct] at h0
    split at h0
    · rename_i hlen
      obtain ⟨xs, hm, hx⟩ := Option.map_eq_some_iff.1 h0
      have hxs : xs.map (·.1) = ds := by
        have := congrArg Prod.fst hx
        simpa using this
      refine cells_cat (m := 1) (by rw [hlen, Nat.mul_one]) fun i l hi => ?_
      have hin : i < fs.toList.length := by rw [hl]; exact (List.getElem?_eq_some_iff.1 hi).1
      obtain ⟨b, hb, hf⟩ := Lib.mapM_at hm i _ (List.getElem?_eq_getElem hin)
      have hd : ds[i]? = some b.1 := by rw [← hxs, List.getElem?_map, hb]; rfl
      obtain ⟨g1, g2, g3⟩ := h i _ b.1 l (List.getElem?_eq_getElem hin) hd hi
      rw [g1, g2] at hf
      rw [Nat.mul_one]
      exact g3 w fuel _ b.2 hf
    · cases h0

/-- All that is listed. -/
theorem laid_cells {P : Program} {w : World} : ∀ {l : List (String × DataW Unit)} {ps : List MemPlace}, DataW.LaidVars P w l ps → ∀ {n : String} {d : DataW Unit} {g : Nat} {t : TypeId} {S : List Spec}, (n, d) ∈ l → P.globalNamed n = some g → (P.globals[g]?).map (·.type) = some t → Rd P t d S →
    ∃ us, Cells (fun _ => True) w S us ∧ ∀ j u, us[j]? = some u → w.cell? ⟨g, j, none⟩ = some u
  | [], _, _, _, _, _, _, _, hm, _, _, _ => by simp at hm
  | (n', d') :: l, ps, ⟨g', t', cs, fuel, p, q, h1, h2, h3, h4, h5, _⟩, n, d, g, t, S, hm, hg, ht, hr => by
    rcases List.mem_cons.1 hm with e | hm
    · cases e
      obtain rfl := Option.some.inj (hg.symm.trans h1)
      obtain rfl := Option.some.inj (ht.symm.trans h2)
      refine ⟨cs.toList, hr w fuel _ p h4, fun j u hj => ?_⟩
      rw [World.var?_cell hg h3 j]
      simpa using hj
    · exact laid_cells h5 hm hg ht hr
end Go.Vx
