/- The row of TopProducts: what it lists read as cells. Conditions: none. -/
import Derived.Test.YtofnjbcbkfbomaaDoorWz
import Derived.Test.YtofnjbcbkfbomaaDoorV5
import Derived.Test.YtofnjbcbkfbomaaDoorRows
import Derived.WalkKit
import Derived.ProofKit
import Derived.OpenShut
import Derived.ShutString
import Derived.ChangeOld
import Derived.Below
import Derived.LaidMore
import Derived.Stop.Joined
namespace Go.Vx
open Go Go.RowKit Go.Proofs
set_option maxRecDepth 100000

theorem free_u {k : IntKind} {n : Int} : Free (sval (.int k n)) := free_val _
/-- The seat of the row: what it lists, as cells. -/
def sP : Seat where
  GT := [(2, fldT.flatMap Kf)]
  gn := 3
  lt := fun p hp => by
    simp only [List.mem_cons, List.not_mem_nil, or_false] at hp
    rcases hp with rfl; decide
  free := fun p hp => by
    simp only [List.mem_cons, List.not_mem_nil, or_false] at hp
    rcases hp with rfl
    intro S hS
    obtain ⟨x, -, hS⟩ := List.mem_flatMap.1 hS
    simp only [Kf, List.mem_cons, List.not_mem_nil, or_false] at hS
    rcases hS with rfl | rfl | rfl | rfl | rfl
    · exact free_u
    · exact free_u
    · exact free_u
    · exact free_u
    · exact free_one
instance : HasF sP := ⟨by simp [sP]⟩

theorem rd_field (a b c e : Int) (x : DataW Unit) : Rd Tryd.prog 195 (.agg [.lit (.int .u64 a), .lit (.int .u64 b), .lit (.int .i64 c), .lit (.int .i64 e), x]) [u64 a, u64 b, i64 c, i64 e, sone] :=
  Rd.struct (ls := [[u64 a], [u64 b], [i64 c], [i64 e], [sone]]) Tryd.underlying195 (by kernel_rfl) (by kernel_rfl) fun i f d l hf hd hl => by
    match i, hf, hd, hl with
    | 0, hf, hd, hl => cases hf; cases hd; cases hl; exact ⟨rfl, by kernel_rfl, Rd.int Tryd.underlying33⟩
    | 1, hf, hd, hl => cases hf; cases hd; cases hl; exact ⟨rfl, by kernel_rfl, Rd.int Tryd.underlying33⟩
    | 2, hf, hd, hl => cases hf; cases hd; cases hl; exact ⟨rfl, by kernel_rfl, Rd.int Tryd.underlying3⟩
    | 3, hf, hd, hl => cases hf; cases hd; cases hl; exact ⟨rfl, by kernel_rfl, Rd.int Tryd.underlying3⟩
    | 4, hf, hd, hl => cases hf; cases hd; cases hl; exact ⟨rfl, by kernel_rfl, Rd.slice Tryd.underlying29⟩
    | i + 5, _, hd, _ => simp at hd
theorem rd_fields : Rd Tryd.prog 232 YtofnjbcbkfbomaaDoor.Rows.laid_attestor_field_fields (fldT.flatMap Kf) :=
  Rd.arr (ls := [[u64 97, u64 5, i64 5, i64 5, sone], [u64 257, u64 3, i64 8, i64 3, sone], [u64 12289, u64 11, i64 12, i64 5, sone], [u64 998244353, u64 3, i64 23, i64 3, sone]]) (m := 5) Tryd.underlying232 (by kernel_rfl) (by kernel_rfl) rfl fun i d l hd hl => by
    match i, hd, hl with
    | 0, hd, hl => cases hd; cases hl; exact rd_field _ _ _ _ _
    | 1, hd, hl => cases hd; cases hl; exact rd_field _ _ _ _ _
    | 2, hd, hl => cases hd; cases hl; exact rd_field _ _ _ _ _
    | 3, hd, hl => cases hd; cases hl; exact rd_field _ _ _ _ _
    | i + 4, hd, _ => simp at hd
theorem gP {w : World} (h : laidMetH Tryd.prog YtofnjbcbkfbomaaDoor.Rows.topProductsRow.laid w) : sP.env.G w := by
  rw [MakeChecks.laidMetH_plain _ _ _ (by kernel_rfl)] at h
  obtain ⟨ps, hv, -⟩ := h
  intro p hp
  have hp' : p ∈ [(2, fldT.flatMap Kf)] := hp
  simp only [List.mem_cons, List.not_mem_nil, or_false] at hp'
  rcases hp' with rfl
  exact laid_cells hv (n := "attestor/field.fields") (d := YtofnjbcbkfbomaaDoor.Rows.laid_attestor_field_fields) (by simp [YtofnjbcbkfbomaaDoor.Rows.topProductsRow]) (by kernel_rfl) (by kernel_rfl) rd_fields
end Go.Vx
