/- The row of TopOpens: what it lists read as cells, the arguments opened, the walk, the row. Conditions: none. -/
import Derived.Test.YtofnjbcbkfbomaaDoorVx
import Derived.Test.YtofnjbcbkfbomaaDoorV5
import Derived.Test.YtofnjbcbkfbomaaDoorRows
import Derived.WalkKit
import Derived.ProofKit
import Derived.OpenShut
import Derived.ShutString
import Derived.ChangeOld
import Derived.Below
import Derived.LaidMore
import Derived.Stop.Joined
namespace Go.Vx
open Go Go.RowKit Go.Proofs
set_option maxRecDepth 100000

theorem free_u {k : IntKind} {n : Int} : Free (sval (.int k n)) := free_val _
/-- The seat of the row: what it lists, as cells. -/
def sO : Seat where
  GT := [(2, fldT.flatMap Kf), (1, tab7.flatMap K3), (4, deB.flatMap K8)]
  gn := 5
  lt := fun p hp => by
    simp only [List.mem_cons, List.not_mem_nil, or_false] at hp
    rcases hp with rfl | rfl | rfl <;> decide
  free := fun p hp => by
    simp only [List.mem_cons, List.not_mem_nil, or_false] at hp
    rcases hp with rfl | rfl | rfl
    · intro S hS
      obtain ⟨x, -, hS⟩ := List.mem_flatMap.1 hS
      simp only [Kf, List.mem_cons, List.not_mem_nil, or_false] at hS
      rcases hS with rfl | rfl | rfl | rfl | rfl
      · exact free_u
      · exact free_u
      · exact free_u
      · exact free_u
      · exact free_one
    · intro S hS
      obtain ⟨x, -, hS⟩ := List.mem_flatMap.1 hS
      simp only [K3, List.mem_cons, List.not_mem_nil, or_false] at hS
      rcases hS with rfl | rfl | rfl <;> exact free_u
    · intro S hS
      obtain ⟨x, -, hS⟩ := List.mem_flatMap.1 hS
      simp only [K8, List.mem_cons, List.not_mem_nil, or_false] at hS
      subst hS
      exact free_u
instance : HasF sO := ⟨by simp [sO]⟩
instance : HasT7 sO := ⟨by simp [sO]⟩
instance : HasB sO := ⟨by simp [sO]⟩

theorem rd_row3 (a b c : Int) : Rd Tryd.prog 36 (.agg [.lit (.int .u64 a), .lit (.int .u64 b), .lit (.int .u64 c)]) [u64 a, u64 b, u64 c] :=
  Rd.arr (ls := [[u64 a], [u64 b], [u64 c]]) (m := 1) Tryd.underlying36 (by kernel_rfl) (by kernel_rfl) rfl fun i d l hd hl => by
    match i, hd, hl with
    | 0, hd, hl => cases hd; cases hl; exact Rd.int Tryd.underlying33
    | 1, hd, hl => cases hd; cases hl; exact Rd.int Tryd.underlying33
    | 2, hd, hl => cases hd; cases hl; exact Rd.int Tryd.underlying33
    | i + 3, hd, _ => simp at hd
theorem rd_tab7 : Rd Tryd.prog 37 YtofnjbcbkfbomaaDoor.Rows.laid_attestor_attestortop_table07 (tab7.flatMap K3) :=
  Rd.arr (ls := [[u64 97, u64 5, u64 5], [u64 257, u64 3, u64 3], [u64 12289, u64 11, u64 5], [u64 998244353, u64 3, u64 3]]) (m := 3) Tryd.underlying37 (by kernel_rfl) (by kernel_rfl) rfl fun i d l hd hl => by
    match i, hd, hl with
    | 0, hd, hl => cases hd; cases hl; exact rd_row3 _ _ _
    | 1, hd, hl => cases hd; cases hl; exact rd_row3 _ _ _
    | 2, hd, hl => cases hd; cases hl; exact rd_row3 _ _ _
    | 3, hd, hl => cases hd; cases hl; exact rd_row3 _ _ _
    | i + 4, hd, _ => simp at hd
theorem rd_field (a b c e : Int) (x : DataW Unit) : Rd Tryd.prog 195 (.agg [.lit (.int .u64 a), .lit (.int .u64 b), .lit (.int .i64 c), .lit (.int .i64 e), x]) [u64 a, u64 b, i64 c, i64 e, sone] :=
  Rd.struct (ls := [[u64 a], [u64 b], [i64 c], [i64 e], [sone]]) Tryd.underlying195 (by kernel_rfl) (by kernel_rfl) fun i f d l hf hd hl => by
    match i, hf, hd, hl with
    | 0, hf, hd, hl => cases hf; cases hd; cases hl; exact ⟨rfl, by kernel_rfl, Rd.int Tryd.underlying33⟩
    | 1, hf, hd, hl => cases hf; cases hd; cases hl; exact ⟨rfl, by kernel_rfl, Rd.int Tryd.underlying33⟩
    | 2, hf, hd, hl => cases hf; cases hd; cases hl; exact ⟨rfl, by kernel_rfl, Rd.int Tryd.underlying3⟩
    | 3, hf, hd, hl => cases hf; cases hd; cases hl; exact ⟨rfl, by kernel_rfl, Rd.int Tryd.underlying3⟩
    | 4, hf, hd, hl => cases hf; cases hd; cases hl; exact ⟨rfl, by kernel_rfl, Rd.slice Tryd.underlying29⟩
    | i + 5, _, hd, _ => simp at hd
theorem rd_fields : Rd Tryd.prog 232 YtofnjbcbkfbomaaDoor.Rows.laid_attestor_field_fields (fldT.flatMap Kf) :=
  Rd.arr (ls := [[u64 97, u64 5, i64 5, i64 5, sone], [u64 257, u64 3, i64 8, i64 3, sone], [u64 12289, u64 11, i64 12, i64 5, sone], [u64 998244353, u64 3, i64 23, i64 3, sone]]) (m := 5) Tryd.underlying232 (by kernel_rfl) (by kernel_rfl) rfl fun i d l hd hl => by
    match i, hd, hl with
    | 0, hd, hl => cases hd; cases hl; exact rd_field _ _ _ _ _
    | 1, hd, hl => cases hd; cases hl; exact rd_field _ _ _ _ _
    | 2, hd, hl => cases hd; cases hl; exact rd_field _ _ _ _ _
    | 3, hd, hl => cases hd; cases hl; exact rd_field _ _ _ _ _
    | i + 4, hd, _ => simp at hd
theorem rd_ints {t e : TypeId} {k : IntKind} {n : Nat} (zs : List Int) (ht : Tryd.prog.underlying t = some (.array n e)) (he : Tryd.prog.underlying e = some (.int k)) (hce : Tryd.prog.cellsOf e = 1) (hct : Tryd.prog.cellsOf t = n * 1) (hl : zs.length = n) :
    Rd Tryd.prog t (.agg (zs.map fun z => .lit (.int k z))) (zs.flatMap fun z => [sval (.int k z)]) := by
  have := Rd.arr (ds := zs.map fun z => .lit (.int k z)) (ls := zs.map fun z => [sval (.int k z)]) (m := 1) ht hce hct (by simpa using hl) fun i d l hd hl => by
    rw [List.getElem?_map, Option.map_eq_some_iff] at hd hl
    obtain ⟨z, hz, rfl⟩ := hd
    obtain ⟨z', hz', rfl⟩ := hl
    rw [hz] at hz'
    cases hz'
    exact Rd.int he
  rwa [← List.flatMap_def] at this
theorem rd_deB : Rd Tryd.prog 250 YtofnjbcbkfbomaaDoor.Rows.laid_math_bits_deBruijn64tab (deB.flatMap K8) := rd_ints deB Tryd.underlying250 Tryd.underlying5 (by kernel_rfl) (by kernel_rfl) rfl

theorem gO {w : World} (h : laidMetH Tryd.prog YtofnjbcbkfbomaaDoor.Rows.topOpensRow.laid w) : sO.env.G w := by
  rw [MakeChecks.laidMetH_plain _ _ _ (by kernel_rfl)] at h
  obtain ⟨ps, hv, -⟩ := h
  intro p hp
  have hp' : p ∈ [(2, fldT.flatMap Kf), (1, tab7.flatMap K3), (4, deB.flatMap K8)] := hp
  simp only [List.mem_cons, List.not_mem_nil, or_false] at hp'
  rcases hp' with rfl | rfl | rfl
  · exact laid_cells hv (n := "attestor/field.fields") (d := YtofnjbcbkfbomaaDoor.Rows.laid_attestor_field_fields) (by simp [YtofnjbcbkfbomaaDoor.Rows.topOpensRow]) (by kernel_rfl) (by kernel_rfl) rd_fields
  · exact laid_cells hv (n := "attestor/attestortop.table07") (d := YtofnjbcbkfbomaaDoor.Rows.laid_attestor_attestortop_table07) (by simp [YtofnjbcbkfbomaaDoor.Rows.topOpensRow]) (by kernel_rfl) (by kernel_rfl) rd_tab7
  · exact laid_cells hv (n := "math/bits.deBruijn64tab") (d := YtofnjbcbkfbomaaDoor.Rows.laid_math_bits_deBruijn64tab) (by simp [YtofnjbcbkfbomaaDoor.Rows.topOpensRow]) (by kernel_rfl) (by kernel_rfl) rd_deB
end Go.Vx
