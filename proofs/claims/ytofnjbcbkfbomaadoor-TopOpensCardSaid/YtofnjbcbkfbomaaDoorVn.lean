/- The words in which the walks of the trees are told. Conditions: none. -/
import Derived.Test.YtofnjbcbkfbomaaDoorVm
import Derived.Test.YtofnjbcbkfbomaaDoorV4
namespace Go.Vx
open Go Go.RowKit Go.Proofs
theorem nd_in {f : Int} (hf : Go.Vx.fv f = true) (l r : Dg) : inD (fP f) (nd f l r) := by
  obtain ⟨⟨h2, _⟩, _⟩ := okf hf
  exact ⟨em_lt (by omega) _, em_lt (by omega) _⟩
attribute [local irreducible] nd

/-! bits -/
theorem pow_pos_ (j : Nat) : (0 : Int) ≤ 2 ^ j := Int.le_of_lt (Int.pow_pos (by decide))
theorem shr_nat {i j : Nat} (hj : j < 64) : ((i : Nat) : Int).fdiv (2 ^ (min ((j : Nat) : Int).toNat IntKind.i64.bits)) = ((i / 2 ^ j : Nat) : Int) := by
  have e : min ((j : Nat) : Int).toNat IntKind.i64.bits = j := by simp [IntKind.bits]; omega
  rw [e, Int.fdiv_eq_ediv_of_nonneg _ (pow_pos_ j)]
  simp
theorem shl_nat {j : Nat} (hj : j < 62) : IntKind.i64.wrap (1 * 2 ^ (min ((j : Nat) : Int).toNat IntKind.i64.bits)) = ((2 ^ j : Nat) : Int) := by
  have e : min ((j : Nat) : Int).toNat IntKind.i64.bits = j := by simp [IntKind.bits]; omega
  have h : (2 : Nat) ^ j < 2 ^ 62 := Nat.pow_lt_pow_right (by decide) hj
  rw [e, Int.one_mul, wI_in]
  · simp
  · have h2 : ((2 ^ j : Nat) : Int) < ((2 ^ 62 : Nat) : Int) := Int.ofNat_lt.2 h
    have h3 : ((2 ^ j : Nat) : Int) = (2 : Int) ^ j := by simp
    rw [h3] at h2
    have := pow_pos_ j
    constructor
    · omega
    · have h4 : ((2 ^ 62 : Nat) : Int) = 4611686018427387904 := by decide
      omega
theorem ofInt_nat (n i : Nat) : (BitVec.ofInt n ((i : Nat) : Int)) = BitVec.ofNat n i := by simp
theorem bits_nat {op : BinOp} {i j r : Nat} (hr : r < 2 ^ 63) (h : match op with
    | .and => i &&& j = r
    | .or => i ||| j = r
    | .xor => i ^^^ j = r
    | _ => False) (hi : i < 2 ^ 63) (hj : j < 2 ^ 63) : bits op .i64 (i : Int) (j : Int) = (r : Int) := by
  unfold bits
  have h64 : IntKind.i64.bits = 64 := rfl
  simp only [ofInt_nat]
  have ei : i % 2 ^ IntKind.i64.bits = i := Nat.mod_eq_of_lt (by rw [h64]; omega)
  have ej : j % 2 ^ IntKind.i64.bits = j := Nat.mod_eq_of_lt (by rw [h64]; omega)
  cases op <;> simp only at h <;> simp only [BitVec.toNat_and, BitVec.toNat_or, BitVec.toNat_xor, BitVec.toNat_ofNat, ei, ej, h] <;> (rw [wI_in]; constructor <;> omega)
theorem and_one {i : Nat} (hi : i < 2 ^ 63) : bits .and .i64 (i : Int) 1 = ((i % 2 : Nat) : Int) :=
  bits_nat (op := .and) (j := 1) (by omega) (by simp only; exact Nat.and_one_is_mod i) hi (by decide)
theorem xor_one {i : Nat} (hi : i < 2 ^ 62) : bits .xor .i64 (i : Int) 1 = ((i ^^^ 1 : Nat) : Int) :=
  bits_nat (op := .xor) (j := 1) (by
    have : i ^^^ 1 < 2 ^ 63 := Nat.xor_lt_two_pow (by omega) (by decide)
    exact this) (by simp only) (by omega) (by decide)

/-! the height -/
def deB : List Int := [0, 1, 56, 2, 57, 49, 28, 3, 61, 58, 42, 50, 38, 29, 17, 4, 62, 47, 59, 36, 45, 43, 51, 22, 53, 39, 33, 30, 24, 18, 12, 5, 63, 55, 48, 27, 60, 41, 37, 16, 46, 35, 44, 21, 52, 32, 23, 11, 54, 26, 40, 15, 34, 20, 31, 10, 25, 14, 19, 9, 13, 8, 7, 6]
abbrev K8 (x : Int) : List Spec := [u8 x]
class HasB (s : Seat) : Prop where
  mem : (4, deB.flatMap K8) ∈ s.GT
def tzi (k : Nat) : Nat := 2 ^ k * 285870213051353865 % 18446744073709551616 / 288230376151711744
def tzm (k : Nat) : Int := ((2 ^ k * 285870213051353865 % 18446744073709551616 : Nat) : Int)
theorem hgt_facts : ∀ k : Fin 19, bits .and .i64 ((2 ^ k.1 : Nat) : Int) (((2 ^ k.1 : Nat) : Int) - 1) = 0 ∧ IntKind.u64.wrap (0 - ((2 ^ k.1 : Nat) : Int)) = 18446744073709551616 - ((2 ^ k.1 : Nat) : Int) ∧
    bits .and .u64 ((2 ^ k.1 : Nat) : Int) (18446744073709551616 - ((2 ^ k.1 : Nat) : Int)) = ((2 ^ k.1 : Nat) : Int) ∧ IntKind.u64.wrap (((2 ^ k.1 : Nat) : Int) * 285870213051353865) = tzm k.1 ∧
    (tzm k.1).fdiv (2 ^ (min (58 : Int).toNat IntKind.u64.bits)) = ((tzi k.1 : Nat) : Int) ∧ deB[tzi k.1]? = some ((k.1 : Nat) : Int) ∧ ((2 ^ k.1 : Nat) : Int) ≤ 262144 ∧ 1 ≤ ((2 ^ k.1 : Nat) : Int) := by decide

/-! levels, trees -/
abbrev Lv := List Dg
abbrev Kl (l : Lv) : List Spec := [slc Kd l]
abbrev Kt (f h c : Int) (ls : List Lv) : List Spec := [i64 f, i64 h, i64 c, slc Kl ls]
abbrev tre (f h c : Int) (ls : List Lv) : Spec := sagg (Kt f h c ls)
def bad (p : Int) (d : Dg) : Bool := decide (p ≤ d.1) || decide (p ≤ d.2)
def prp (f : Int) (l : Lv) : Bool := !(l.any (bad (fP f)))
def inL (p : Int) (l : Lv) : Prop := ∀ d ∈ l, inD p d
theorem prp_of {f : Int} {l : Lv} (h : inL (fP f) l) : prp f l = true := by
  unfold prp
  have : l.any (bad (fP f)) = false := by
    rw [List.any_eq_false]
    intro d hd
    have := h d hd
    unfold bad inD at *
    simp; omega
  rw [this]; rfl
theorem inL_nil (p : Int) : inL p [] := fun d h => by cases h
theorem inL_one {p : Int} {d : Dg} (h : inD p d) : inL p [d] := fun e he => by simp at he; subst he; exact h
theorem inL_get {p : Int} {l : Lv} (h : inL p l) {j : Nat} (hj : j < l.length) : inD p (l.getD j (0, 0)) := by
  rw [List.getD_eq_getElem?_getD, List.getElem?_eq_getElem hj]; exact h _ (List.getElem_mem _)
theorem getD_some {α : Type} {l : List α} {j : Nat} (d : α) (h : j < l.length) : l[j]? = some (l.getD j d) := by
  rw [List.getD_eq_getElem?_getD, List.getElem?_eq_getElem h]; rfl
/-- The first place of which q holds; -1: none. -/
def fidx (q : Dg → Bool) (l : Lv) : Int := if l.any q = true then ((l.findIdx q : Nat) : Int) else -1
theorem fidx_any (q : Dg → Bool) (l : Lv) : decide (0 ≤ fidx q l) = l.any q := by
  unfold fidx
  split
  · rename_i h; rw [h]; simp
  · rename_i h; rw [Bool.not_eq_true] at h; rw [h]; rfl
theorem fidx_found {q : Dg → Bool} {l : Lv} {j : Nat} (hj : j < l.length) (h : ∀ i, i < j → q (l.getD i (0, 0)) = false) (hq : q (l.getD j (0, 0)) = true) : (j : Int) = fidx q l := by
  have g : ∀ {i : Nat} (hi : i < l.length), l.getD i (0, 0) = l[i] := fun hi => by rw [List.getD_eq_getElem?_getD, List.getElem?_eq_getElem hi]; rfl
  have e : l.findIdx q = j := by
    rw [List.findIdx_eq hj]
    exact ⟨by rw [← g hj]; exact hq, fun i hi => by rw [← g (by omega)]; exact h i hi⟩
  unfold fidx
  rw [if_pos, e]
  rw [List.any_eq_true]
  exact ⟨_, List.getElem_mem hj, by rw [← g hj]; exact hq⟩
theorem fidx_none {q : Dg → Bool} {l : Lv} (h : ∀ i, i < l.length → q (l.getD i (0, 0)) = false) : (-1 : Int) = fidx q l := by
  unfold fidx
  rw [if_neg]
  intro hh
  rw [List.any_eq_true] at hh
  obtain ⟨d, hd, hq⟩ := hh
  obtain ⟨i, hi, rfl⟩ := List.getElem_of_mem hd
  have := h i hi
  rw [List.getD_eq_getElem?_getD, List.getElem?_eq_getElem hi] at this
  simp [hq] at this

/-- A tree that is one. -/
structure okT (f : Int) (h c : Nat) (ls : List Lv) : Prop where
  fv : fv f = true
  hc : c ≤ h
  h18 : h ≤ 18
  len : ls.length = h - c + 1
  lens : ∀ m, m < ls.length → (ls.getD m []).length = 2 ^ (h - m)
  ins : ∀ m, m < ls.length → inL (fP f) (ls.getD m [])

theorem okT.bound {f : Int} {h c : Nat} {ls : List Lv} (H : okT f h c ls) {m : Nat} (hm : m < ls.length) : (ls.getD m []).length ≤ 262144 := by
  rw [H.lens m hm]
  exact Nat.pow_le_pow_right (by decide) (show h - m ≤ 18 by have := H.h18; omega)
theorem shr_one (i m : Nat) : ((i / 2 ^ m : Nat) : Int).fdiv (2 ^ (min (1 : Int).toNat IntKind.i64.bits)) = ((i / 2 ^ (m + 1) : Nat) : Int) := by
  have := shr_nat (i := i / 2 ^ m) (j := 1) (by decide)
  rw [Nat.div_div_eq_div_mul, ← Nat.pow_succ] at this
  exact this
theorem sub_nat {a b : Nat} (hab : b ≤ a) (ha : a < 2 ^ 62) : IntKind.i64.wrap ((a : Int) - (b : Int)) = ((a - b : Nat) : Int) := by
  rw [wI_in] <;> omega
theorem mul2_nat {k : Nat} (h : k < 2 ^ 60) : IntKind.i64.wrap (2 * ((k : Nat) : Int)) = ((2 * k : Nat) : Int) := by rw [wI_in] <;> omega
theorem add1_nat {k : Nat} (h : k < 2 ^ 61) : IntKind.i64.wrap (((k : Nat) : Int) + 1) = ((k + 1 : Nat) : Int) := by rw [wI_in] <;> omega
theorem div_pow_lt {i h m : Nat} (hi : i < 2 ^ h) (hm : m ≤ h) : i / 2 ^ m < 2 ^ (h - m) := by
  apply Nat.div_lt_of_lt_mul
  rw [← Nat.pow_add, show m + (h - m) = h by omega]
  exact hi
theorem pow18 {h : Nat} (h18 : h ≤ 18) : 2 ^ h ≤ 262144 := Nat.pow_le_pow_right (n := 2) (by decide) h18
theorem take_get {α : Type} {l : List α} {n j : Nat} (d : α) (hj : j < n) (hl : j < l.length) : (l.take n)[j]? = some (l.getD j d) := by
  rw [List.getElem?_take_of_lt hj]; exact getD_some d hl

/-- The pairs' nodes. -/
def pairs (f : Int) : Lv → Lv
  | a :: b :: l => nd f a b :: pairs f l
  | _ => []
/-- The level so many above. -/
def lev (f : Int) : Nat → Lv → Lv
  | 0, l => l
  | m + 1, l => pairs f (lev f m l)
/-- So many levels above the leaves, and these. -/
def lvls (f : Int) (n : Nat) (l : Lv) : List Lv := (List.range (n + 1)).map fun m => lev f m l
theorem lvls_len (f : Int) (n : Nat) (l : Lv) : (lvls f n l).length = n + 1 := by simp [lvls]
theorem lvls_get {f : Int} {n m : Nat} {l : Lv} (h : m ≤ n) : (lvls f n l).getD m [] = lev f m l := by
  rw [List.getD_eq_getElem?_getD, List.getElem?_eq_getElem (by rw [lvls_len]; omega)]; simp [lvls]
theorem lvls_succ (f : Int) (n : Nat) (l : Lv) : lvls f (n + 1) l = lvls f n l ++ [lev f (n + 1) l] := by
  simp [lvls, List.range_succ]
theorem pairs_len (f : Int) : ∀ l : Lv, (pairs f l).length = l.length / 2
  | [] => rfl
  | [_] => by simp [pairs]
  | a :: b :: l => by simp [pairs, pairs_len f l]; omega
theorem pairs_get {f : Int} : ∀ {l : Lv} {j : Nat}, 2 * j + 1 < l.length → (pairs f l).getD j (0, 0) = nd f (l.getD (2 * j) (0, 0)) (l.getD (2 * j + 1) (0, 0))
  | [], j, h => by simp at h
  | [_], j, h => by simp at h
  | a :: b :: l, 0, _ => by simp only [pairs, Nat.mul_zero, List.getD_cons_zero, Nat.zero_add, List.getD_cons_succ]
  | a :: b :: l, j + 1, h => by
    have := pairs_get (f := f) (l := l) (j := j) (by simp at h; omega)
    simp only [pairs, List.getD_cons_succ, this]
    rw [show 2 * (j + 1) = 2 * j + 1 + 1 by omega]
    simp only [List.getD_cons_succ]
theorem lev_len {f : Int} {h : Nat} {l : Lv} (hl : l.length = 2 ^ h) : ∀ {m : Nat}, m ≤ h → (lev f m l).length = 2 ^ (h - m)
  | 0, _ => hl
  | m + 1, hm => by
    rw [lev, pairs_len, lev_len hl (by omega), show h - m = (h - (m + 1)) + 1 by omega, Nat.pow_succ]
    omega
theorem pairs_in {f : Int} (hf : Go.Vx.fv f = true) : ∀ l : Lv, inL (fP f) (pairs f l)
  | [] => inL_nil _
  | [_] => inL_nil _
  | a :: b :: l => fun d hd => by
    rcases List.mem_cons.1 hd with rfl | hd
    · exact nd_in hf _ _
    · exact pairs_in hf l d hd
theorem lev_in {f : Int} (hf : Go.Vx.fv f = true) {l : Lv} (hl : inL (fP f) l) : ∀ m, inL (fP f) (lev f m l)
  | 0 => hl
  | _ + 1 => pairs_in hf _
theorem okT_lvls {f : Int} {h c : Nat} {l : Lv} (hf : Go.Vx.fv f = true) (hc : c ≤ h) (h18 : h ≤ 18) (hl : l.length = 2 ^ h) (hi : inL (fP f) l) : okT f h c (lvls f (h - c) l) :=
  { fv := hf, hc := hc, h18 := h18, len := lvls_len _ _ _,
    lens := fun m hm => by rw [lvls_len] at hm; rw [lvls_get (by omega), lev_len hl (by omega)],
    ins := fun m hm => by rw [lvls_len] at hm; rw [lvls_get (by omega)]; exact lev_in hf hi m }

/-- A pair in order, its node. -/
abbrev P2 := Dg × Dg
def ord (i : Nat) (x p : Dg) : P2 := if i % 2 = 1 then (p, x) else (x, p)
def stp (f : Int) (i : Nat) (x p : Dg) : Dg := nd f (ord i x p).1 (ord i x p).2
theorem stp_in {f : Int} (hf : Go.Vx.fv f = true) (i : Nat) (x p : Dg) : inD (fP f) (stp f i x p) := nd_in hf _ _
/-- What is reached along a path. -/
def climb (f : Int) : Nat → Dg → Lv → Dg
  | _, x, [] => x
  | i, x, p :: l => climb f (i / 2) (stp f i x p) l
theorem climb_in {f : Int} (hf : Go.Vx.fv f = true) : ∀ (l : Lv) (i : Nat) {x : Dg}, inD (fP f) x → inD (fP f) (climb f i x l)
  | [], _, _, hx => hx
  | _ :: l, i, _, _ => climb_in hf l (i / 2) (stp_in hf _ _ _)
theorem climb_snoc (f : Int) : ∀ (l : Lv) (i : Nat) (x p : Dg), climb f i x (l ++ [p]) = stp f (i / 2 ^ l.length) (climb f i x l) p
  | [], i, x, p => by simp [climb]
  | q :: l, i, x, p => by
    simp only [List.cons_append, climb, climb_snoc f l, List.length_cons]
    rw [Nat.div_div_eq_div_mul, Nat.pow_succ, Nat.mul_comm 2]
theorem take_snoc {l : Lv} {j : Nat} (h : j < l.length) : l.take (j + 1) = l.take j ++ [l.getD j (0, 0)] := by
  rw [List.take_add_one, List.getD_eq_getElem?_getD, List.getElem?_eq_getElem h]; rfl
/-- what is reached behind j steps -/
def clm (f : Int) (i : Nat) (x : Dg) (l : Lv) (j : Nat) : Dg := climb f i x (l.take j)
theorem clm_zero (f : Int) (i : Nat) (x : Dg) (l : Lv) : clm f i x l 0 = x := by simp [clm, climb]
theorem clm_all (f : Int) (i : Nat) (x : Dg) (l : Lv) : clm f i x l l.length = climb f i x l := by simp [clm]
theorem clm_succ {f : Int} {i : Nat} {x : Dg} {l : Lv} {j : Nat} (h : j < l.length) : clm f i x l (j + 1) = stp f (i / 2 ^ j) (clm f i x l j) (l.getD j (0, 0)) := by
  unfold clm
  rw [take_snoc h, climb_snoc, List.length_take, Nat.min_eq_left (by omega)]
theorem clm_in {f : Int} (hf : Go.Vx.fv f = true) {l : Lv} {i : Nat} {x : Dg} (hx : inD (fP f) x) (j : Nat) : inD (fP f) (clm f i x l j) := climb_in hf _ _ hx
theorem shr_half (i : Nat) : ((i : Nat) : Int).fdiv (2 ^ (min (1 : Int).toNat IntKind.i64.bits)) = ((i / 2 : Nat) : Int) := by
  have := shr_nat (i := i) (j := 1) (by decide)
  rwa [Nat.pow_one] at this
theorem div_succ (i j : Nat) : i / 2 ^ j / 2 = i / 2 ^ (j + 1) := by rw [Nat.div_div_eq_div_mul, Nat.pow_succ]
/-- Two pairs with one node, behind j steps. -/
abbrev zP : P2 := ((0, 0), (0, 0))
def clacc (f : Int) (i : Nat) (a b : Dg) (p q : Lv) : Nat → P2 × P2 × Bool
  | 0 => (zP, zP, false)
  | j + 1 => if ord (i / 2 ^ j) (clm f i a p j) (p.getD j (0, 0)) ≠ ord (i / 2 ^ j) (clm f i b q j) (q.getD j (0, 0)) then (ord (i / 2 ^ j) (clm f i a p j) (p.getD j (0, 0)), ord (i / 2 ^ j) (clm f i b q j) (q.getD j (0, 0)), true) else clacc f i a b p q j
def clash (f : Int) (i : Nat) (a b : Dg) (p q : Lv) : P2 × P2 × Bool := if climb f i a p ≠ climb f i b q then (zP, zP, false) else clacc f i a b p q p.length
/-- What an opening is answered. -/
def chk (f : Int) (cap : Lv) (i : Nat) (x : Dg) (l : Lv) : Bool := if i / 2 ^ l.length < cap.length then decide (climb f i x l = cap.getD (i / 2 ^ l.length) (0, 0)) else false
/-- The path of a place. -/
def pth (ls : List Lv) (i : Nat) (n : Nat) : Lv := (List.range n).map fun m => (ls.getD m []).getD (i / 2 ^ m ^^^ 1) (0, 0)
theorem pth_succ (ls : List Lv) (i n : Nat) : pth ls i (n + 1) = pth ls i n ++ [(ls.getD n []).getD (i / 2 ^ n ^^^ 1) (0, 0)] := by
  simp [pth, List.range_succ]
theorem pth_len (ls : List Lv) (i n : Nat) : (pth ls i n).length = n := by simp [pth]
theorem xor_one_lt {i n : Nat} (h : i < 2 ^ n) (hn : 1 ≤ n) : i ^^^ 1 < 2 ^ n := Nat.xor_lt_two_pow h (Nat.one_lt_two_pow (by omega))

/-- The levels over leaves one of which is replaced. -/
def lf (f : Int) (below : Lv) (k : Nat) : Dg := nd f (below.getD (2 * k) (0, 0)) (below.getD (2 * k + 1) (0, 0))
def rpl (f : Int) (ls : List Lv) (i : Nat) (x : Dg) : Nat → Lv
  | 0 => (ls.getD 0 []).set i x
  | m + 1 => (ls.getD (m + 1) []).set (i / 2 ^ (m + 1)) (lf f (rpl f ls i x m) (i / 2 ^ (m + 1)))
/-- the leaf of a level -/
def rlf (f : Int) (ls : List Lv) (i : Nat) (x : Dg) : Nat → Dg
  | 0 => x
  | m + 1 => lf f (rpl f ls i x m) (i / 2 ^ (m + 1))
theorem rpl_eq (f : Int) (ls : List Lv) (i : Nat) (x : Dg) (m : Nat) : rpl f ls i x m = (ls.getD m []).set (i / 2 ^ m) (rlf f ls i x m) := by
  cases m with
  | zero => simp [rpl, rlf]
  | succ m => rfl
def mixl (f : Int) (ls : List Lv) (i : Nat) (x : Dg) (m : Nat) : List Lv := (List.range m).map (rpl f ls i x) ++ ls.drop m
theorem mixl_zero (f : Int) (ls : List Lv) (i : Nat) (x : Dg) : mixl f ls i x 0 = ls := by simp [mixl]
theorem mixl_len {f : Int} {ls : List Lv} {i : Nat} {x : Dg} {m : Nat} (h : m ≤ ls.length) : (mixl f ls i x m).length = ls.length := by simp [mixl]; omega
theorem mixl_lo {f : Int} {ls : List Lv} {i : Nat} {x : Dg} {m j : Nat} (h : j < m) : (mixl f ls i x m)[j]? = some (rpl f ls i x j) := by
  unfold mixl
  rw [List.getElem?_append_left (by simpa using h)]
  simp [h]
theorem mixl_hi {f : Int} {ls : List Lv} {i : Nat} {x : Dg} {m : Nat} (h : m < ls.length) : (mixl f ls i x m)[m]? = some (ls.getD m []) := by
  unfold mixl
  rw [List.getElem?_append_right (by simp)]
  simp [List.getElem?_eq_getElem h]
theorem mixl_set {f : Int} {ls : List Lv} {i : Nat} {x : Dg} {m : Nat} (h : m < ls.length) : (mixl f ls i x m).set m (rpl f ls i x m) = mixl f ls i x (m + 1) := by
  unfold mixl
  rw [List.set_append_right _ _ (by simp)]
  rw [List.range_succ, List.map_append, List.append_assoc]
  congr 1
  rw [List.length_map, List.length_range, Nat.sub_self, List.drop_eq_getElem_cons h]
  rfl
theorem fl_one {α : Type} (K : α → Spec) (l : List α) : (l.flatMap fun x => [K x]) = l.map K := by
  induction l with
  | nil => rfl
  | cons x l ih => simp [ih]
theorem fl_get {ls : List Lv} {j : Nat} {l : Lv} (h : ls[j]? = some l) : (ls.flatMap Kl)[j * 1]? = some (slc Kd l) := by
  rw [Nat.mul_one, show ls.flatMap Kl = ls.map (fun l => slc Kd l) from fl_one _ ls, List.getElem?_map, h]; rfl
theorem fl_len (ls : List Lv) : (ls.flatMap Kl).length = ls.length := by
  rw [show ls.flatMap Kl = ls.map (fun l => slc Kd l) from fl_one _ ls, List.length_map]
theorem spl_one {l : List Spec} {j : Nat} {S : Spec} (h : j < l.length) : spl l j [S] = l.set j S := by
  unfold spl
  rw [List.set_eq_take_append_cons_drop, if_pos h]; simp
theorem fl_spl {ls : List Lv} {j : Nat} {l : Lv} {S : Spec} (h : j < ls.length) : (spl (ls.flatMap Kl) (j * 1) [S]).set j (slc Kd l) = (ls.set j l).flatMap Kl := by
  rw [Nat.mul_one, spl_one (by rw [fl_len]; exact h), List.set_set, show ls.flatMap Kl = ls.map (fun l => slc Kd l) from fl_one _ ls, show (ls.set j l).flatMap Kl = (ls.set j l).map (fun l => slc Kd l) from fl_one _ _, List.map_set]
theorem fl_spl_at {ls : List Lv} {j : Nat} {S : Spec} (h : j < ls.length) : (spl (ls.flatMap Kl) (j * 1) [S])[j]? = some S := by
  rw [Nat.mul_one, spl_one (by rw [fl_len]; exact h), List.getElem?_set_self (by rw [fl_len]; exact h)]
theorem fl_spl_at1 {ls : List Lv} {j : Nat} {S : Spec} (h : j < ls.length) : (spl (ls.flatMap Kl) (j * 1) [S])[j * 1]? = some S := by
  have := fl_spl_at (S := S) h
  rw [Nat.mul_one] at this ⊢
  exact this
theorem fl_spl_ne {ls : List Lv} {j k : Nat} {S : Spec} {l : Lv} (h : j < ls.length) (hk : k ≠ j) (hl : ls[k]? = some l) : (spl (ls.flatMap Kl) (j * 1) [S])[k * 1]? = some (slc Kd l) := by
  rw [Nat.mul_one j, spl_one (by rw [fl_len]; exact h), List.getElem?_set_ne (by omega)]; exact fl_get hl
theorem flatD_len (l : Lv) : (l.flatMap Kd).length = l.length * 2 := by
  induction l with
  | nil => rfl
  | cons x l ih => simp [List.flatMap_cons, ih]; omega
theorem fl_splD : ∀ {l : Lv} {k : Nat} {x : Dg}, k < l.length → spl (l.flatMap Kd) (k * 2) (Kd x) = (l.set k x).flatMap Kd
  | [], _, _, h => by simp at h
  | y :: l, 0, x, _ => by simp [spl, List.flatMap_cons]
  | y :: l, k + 1, x, h => by
    have := fl_splD (l := l) (k := k) (x := x) (by simpa using h)
    rw [List.set_cons_succ, List.flatMap_cons, List.flatMap_cons, ← this]
    unfold spl
    rw [show (k + 1) * 2 = k * 2 + 1 + 1 by omega]
    rfl

theorem inL_set {p : Int} {l : Lv} {x : Dg} (h : inL p l) (hx : inD p x) (k : Nat) : inL p (l.set k x) := fun d hd => by
  rcases List.mem_or_eq_of_mem_set hd with h1 | rfl
  · exact h d h1
  · exact hx
theorem rpl_in {f : Int} {h c : Nat} {ls : List Lv} (H : okT f h c ls) {i : Nat} {x : Dg} (hx : inD (fP f) x) {m : Nat} (hm : m < ls.length) : inL (fP f) (rpl f ls i x m) := by
  rw [rpl_eq]
  refine inL_set (H.ins m hm) ?_ _
  cases m with
  | zero => exact hx
  | succ m => exact nd_in H.fv _ _
theorem rpl_len {f : Int} {ls : List Lv} {i : Nat} {x : Dg} (m : Nat) : (rpl f ls i x m).length = (ls.getD m []).length := by rw [rpl_eq, List.length_set]
theorem row_rpl {f : Int} {ls : List Lv} {i : Nat} {x : Dg} {m : Nat} {v : Value} (h : i / 2 ^ m < (ls.getD m []).length) :
    Ent.row v 42 2 (ls.getD m []).length (spl ((ls.getD m []).flatMap Kd) (i / 2 ^ m * 2) (Kd (rlf f ls i x m))) = Ent.rows Kd v 42 2 (rpl f ls i x m) := by
  show _ = Ent.row v 42 2 (rpl f ls i x m).length ((rpl f ls i x m).flatMap Kd)
  rw [rpl_eq, List.length_set, fl_splD h]
theorem row_mixl {f : Int} {ls : List Lv} {i : Nat} {x : Dg} {m : Nat} {v u : Value} (h : m < ls.length) :
    Ent.row v 40 1 (mixl f ls i x m).length ((spl ((mixl f ls i x m).flatMap Kl) (m * 1) [sval u]).set m (slc Kd (rpl f ls i x m))) = Ent.rows Kl v 40 1 (mixl f ls i x (m + 1)) := by
  show _ = Ent.row v 40 1 (mixl f ls i x (m + 1)).length ((mixl f ls i x (m + 1)).flatMap Kl)
  rw [fl_spl (by rw [mixl_len (by omega)]; exact h), mixl_set h, mixl_len (by omega), mixl_len (by omega)]

/-- so many levels -/
def lvp (f : Int) (l : Lv) (j : Nat) : List Lv := (List.range j).map fun m => lev f m l
theorem lvp_succ (f : Int) (l : Lv) (j : Nat) : lvp f l (j + 1) = lvp f l j ++ [lev f j l] := by simp [lvp, List.range_succ]
theorem lvp_len (f : Int) (l : Lv) (j : Nat) : (lvp f l j).length = j := by simp [lvp]
/-- what is owned in the rounds of Build -/
abbrev bst (l D bt : Nat) (r : Loop) (f h c : Int) (leaves : Lv) (j : Nat) (v : Value) : List Ent := [.obj l (.loop r), .obj D (.deferred (some [])), .blk bt 46 [i64 f, i64 h, i64 c, sval v], Ent.rows Kl v 40 1 (lvp f leaves j)]
/-- a level that is being filled -/
def fill (f : Int) (l : Lv) (m : Nat) : Lv := (pairs f l).take m ++ List.replicate ((pairs f l).length - m) (0, 0)
theorem fill_zero (f : Int) (l : Lv) : fill f l 0 = List.replicate (pairs f l).length (0, 0) := by simp [fill]
theorem fill_all (f : Int) (l : Lv) : fill f l (pairs f l).length = pairs f l := by simp [fill]
theorem fill_len {f : Int} {l : Lv} {m : Nat} (h : m ≤ (pairs f l).length) : (fill f l m).length = (pairs f l).length := by simp [fill]; omega
theorem fill_set {f : Int} {l : Lv} {m : Nat} (h : m < (pairs f l).length) : (fill f l m).set m ((pairs f l).getD m (0, 0)) = fill f l (m + 1) := by
  unfold fill
  have hl : ((pairs f l).take m).length = m := by simp; omega
  rw [List.set_append_right _ _ (by omega), hl, Nat.sub_self, take_snoc h, List.append_assoc]
  congr 1
  obtain ⟨k, hk⟩ : ∃ k, (pairs f l).length - m = k + 1 := ⟨(pairs f l).length - m - 1, by omega⟩
  rw [hk, show (pairs f l).length - (m + 1) = k by omega]
  rfl
theorem row_fill {f : Int} {l : Lv} {m : Nat} {v : Value} (h : m < (pairs f l).length) : Ent.row v 42 2 (fill f l m).length (spl ((fill f l m).flatMap Kd) (m * 2) (Kd (nd f (l.getD (2 * m) (0, 0)) (l.getD (2 * m + 1) (0, 0))))) = Ent.rows Kd v 42 2 (fill f l (m + 1)) := by
  show _ = Ent.row v 42 2 (fill f l (m + 1)).length ((fill f l (m + 1)).flatMap Kd)
  have hl := pairs_len f l
  rw [← pairs_get (by omega), fl_splD (by rw [fill_len (by omega)]; exact h), fill_set h, fill_len (by omega), fill_len (by omega)]
theorem row_all {f : Int} {l : Lv} {j : Nat} {v : Value} : Ent.rows Kd v 42 2 (fill f (lev f j l) (pairs f (lev f j l)).length) = Ent.rows Kd v 42 2 (lev f (j + 1) l) := by rw [fill_all]; rfl
theorem row_take {f : Int} {l : Lv} {j : Nat} {v : Value} : Ent.rows Kd v 42 2 ((pairs f (lev f j l)).take (pairs f (lev f j l)).length) = Ent.rows Kd v 42 2 (lev f (j + 1) l) := by rw [List.take_length]; rfl
theorem pow_lt_ {a b : Nat} (h : 2 ^ a < 2 ^ b) : a < b := (Nat.pow_lt_pow_iff_right (by decide)).1 h
theorem pow_le_ {a b : Nat} (h : 2 ^ a ≤ 2 ^ b) : a ≤ b := (Nat.pow_le_pow_iff_right (by decide)).1 h
theorem lf_one {L : List (Nat × Spec)} {t0 : Nat} {v : Value} (h : look L t0 = some (sval v)) : ∀ t T, look [(t0, sval v)] t = some T → Free T ∧ look L t = some T := fun t T hT => by
  rw [look_cons] at hT
  by_cases e : t0 = t
  · rw [if_pos e] at hT
    cases hT
    subst e
    exact ⟨free_val v, h⟩
  · rw [if_neg e] at hT; cases hT
theorem same_iff {a b : Lv} (h : a.length = b.length) (hh : ∀ i, i < a.length → a.getD i (0, 0) = b.getD i (0, 0)) : a = b := by
  refine List.ext_getElem h fun i h1 h2 => ?_
  have := hh i h1
  rwa [List.getD_eq_getElem?_getD, List.getD_eq_getElem?_getD, List.getElem?_eq_getElem h1, List.getElem?_eq_getElem h2] at this

/-! equality -/
section
variable {n : Nat} {Γ : Ctx} {M : Owns} {L : List (Nat × Spec)} {dst : Option Nat} {ty : TypeId} {pos : String} {after : Array Edge} {guard : Option (Nat × Bool)}
variable {t2 : TypeId} {x y : Operand}
theorem eqG42 : Tryd.prog.eqGuardType Tryd.prog.depth 42 = false := by kernel_rfl
theorem eqG120 : Tryd.prog.eqGuardType Tryd.prog.depth 120 = false := by kernel_rfl
theorem eq2 (d e : Dg) : decide ([d.1, d.2] = [e.1, e.2]) = decide (d = e) := by
  rw [decide_eq_decide]
  obtain ⟨a, b⟩ := d
  obtain ⟨a', b'⟩ := e
  simp
abbrev Kp2 (p : P2) : List Spec := [u64 p.1.1, u64 p.1.2, u64 p.2.1, u64 p.2.2]
abbrev prs (p : P2) : Spec := sagg (Kp2 p)
theorem eq22 (d e : P2) : decide ([[d.1.1, d.1.2], [d.2.1, d.2.2]] = [[e.1.1, e.1.2], [e.2.1, e.2.2]]) = decide (d = e) := by
  rw [decide_eq_decide]
  obtain ⟨⟨a, b⟩, ⟨c, f⟩⟩ := d
  obtain ⟨⟨a', b'⟩, ⟨c', f'⟩⟩ := e
  simp [and_assoc]
theorem y_eqD {d e : Dg} (hP : Γ.E.P = Tryd.prog) (hx : opv L x = some (dig d)) (hy : opv L y = some (dig e)) : Yields n Γ M L ⟨dst, .binOp .eql 42 x y t2, ty, pos, after, guard⟩ (sbool (decide (d = e))) := by
  have := y_eqI (n := n) (M := M) (dst := dst) (ty := ty) (pos := pos) (after := after) (guard := guard) (t2 := t2) false (us := [d.1, d.2]) (vs := [e.1, e.2]) hx hy (by rw [hP]; exact eqG42) (by rw [hP]; exact Tryd.underlying42) (by rw [hP]; exact Tryd.underlying33) (by rw [hP]; exact ti33.siz) rfl rfl
  rw [eq2, Bool.bne_false] at this
  exact this
theorem y_neD {d e : Dg} (hP : Γ.E.P = Tryd.prog) (hx : opv L x = some (dig d)) (hy : opv L y = some (dig e)) : Yields n Γ M L ⟨dst, .binOp .neq 42 x y t2, ty, pos, after, guard⟩ (sbool (!decide (d = e))) := by
  have := y_eqI (n := n) (M := M) (dst := dst) (ty := ty) (pos := pos) (after := after) (guard := guard) (t2 := t2) true (us := [d.1, d.2]) (vs := [e.1, e.2]) hx hy (by rw [hP]; exact eqG42) (by rw [hP]; exact Tryd.underlying42) (by rw [hP]; exact Tryd.underlying33) (by rw [hP]; exact ti33.siz) rfl rfl
  rw [eq2, Bool.bne_true] at this
  exact this
theorem y_neP {d e : P2} (hP : Γ.E.P = Tryd.prog) (hx : opv L x = some (prs d)) (hy : opv L y = some (prs e)) : Yields n Γ M L ⟨dst, .binOp .neq 120 x y t2, ty, pos, after, guard⟩ (sbool (!decide (d = e))) := by
  have := y_eqR (n := n) (M := M) (dst := dst) (ty := ty) (pos := pos) (after := after) (guard := guard) (t2 := t2) true (m := 2) (us := [[d.1.1, d.1.2], [d.2.1, d.2.2]]) (vs := [[e.1.1, e.1.2], [e.2.1, e.2.2]]) hx hy (by rw [hP]; exact eqG120) (by rw [hP]; exact Tryd.underlying120) (by rw [hP]; exact Tryd.underlying42) (by rw [hP]; exact Tryd.underlying33) (by rw [hP]; exact ti42.siz) (by rw [hP]; exact ti33.siz) rfl rfl (by simp) (by simp)
  rw [eq22, Bool.bne_true] at this
  exact this
end
end Go.Vx
