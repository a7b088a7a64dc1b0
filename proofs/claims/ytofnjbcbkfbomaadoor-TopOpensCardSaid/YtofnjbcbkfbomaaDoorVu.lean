/- The plain laws of the trees: what the walks compute answers as the statement says. Conditions: none. -/
import Derived.Test.YtofnjbcbkfbomaaDoorVt
namespace Go.Vx
open Go Go.RowKit Go.Proofs
attribute [local irreducible] nd

theorem xor_even {k : Nat} (h : k % 2 = 0) : k ^^^ 1 = k + 1 := by
  have h1 : (k ^^^ 1) / 2 = k / 2 := by rw [Nat.xor_div_two]; simp
  have h2 : (k ^^^ 1) % 2 = 1 := by rw [Nat.xor_mod_two_eq_one]; simp; omega
  omega
theorem xor_odd {k : Nat} (h : k % 2 = 1) : k ^^^ 1 = k - 1 := by
  have h1 : (k ^^^ 1) / 2 = k / 2 := by rw [Nat.xor_div_two]; simp
  have h2 : ¬ (k ^^^ 1) % 2 = 1 := by rw [Nat.xor_mod_two_eq_one]; simp; omega
  omega
theorem pth_get {ls : List Lv} {i n j : Nat} (h : j < n) : (pth ls i n).getD j (0, 0) = (ls.getD j []).getD (i / 2 ^ j ^^^ 1) (0, 0) := by
  simp [pth, List.getD_eq_getElem?_getD, h]

/-- The path of a leaf leads to the cap. -/
theorem clm_pth {f : Int} {h n : Nat} {l : Lv} (hl : l.length = 2 ^ h) (hn : n ≤ h) {i : Nat} (hi : i < 2 ^ h) : ∀ j, j ≤ n → clm f i (l.getD i (0, 0)) (pth (lvls f n l) i n) j = (lev f j l).getD (i / 2 ^ j) (0, 0)
  | 0, _ => by rw [clm_zero, Nat.pow_zero, Nat.div_one]; rfl
  | j + 1, hj => by
    rw [clm_succ (by rw [pth_len]; omega), clm_pth hl hn hi j (by omega), pth_get (by omega), lvls_get (by omega)]
    have hlj := lev_len (f := f) hl (m := j) (by omega)
    have hk := div_pow_lt (m := j) hi (by omega)
    rw [← div_succ]
    have hp : (2 : Nat) ^ (h - j) = 2 * 2 ^ (h - (j + 1)) := by rw [show h - j = (h - (j + 1)) + 1 by omega, Nat.pow_succ, Nat.mul_comm]
    show _ = (pairs f (lev f j l)).getD (i / 2 ^ j / 2) (0, 0)
    rw [pairs_get (by omega)]
    generalize i / 2 ^ j = k at *
    unfold stp ord
    by_cases hodd : k % 2 = 1
    · rw [if_pos hodd, xor_odd hodd, show 2 * (k / 2) = k - 1 by omega, show k - 1 + 1 = k by omega]
    · rw [if_neg hodd, xor_even (by omega), show 2 * (k / 2) = k by omega]
theorem climb_pth {f : Int} {h n : Nat} {l : Lv} (hl : l.length = 2 ^ h) (hn : n ≤ h) {i : Nat} (hi : i < 2 ^ h) : climb f i (l.getD i (0, 0)) (pth (lvls f n l) i n) = (lev f n l).getD (i / 2 ^ n) (0, 0) := by
  rw [← clm_all, pth_len]; exact clm_pth hl hn hi n (Nat.le_refl _)

/-- A pair's element is replaced. -/
theorem pairs_set {f : Int} : ∀ {l : Lv} {k : Nat} {y : Dg}, l.length % 2 = 0 → k < l.length → pairs f (l.set k y) = (pairs f l).set (k / 2) (lf f (l.set k y) (k / 2))
  | [], _, _, _, h => by simp at h
  | [_], _, _, h, _ => by simp at h
  | a :: b :: l, 0, y, _, _ => by simp [pairs, lf]
  | a :: b :: l, 1, y, _, _ => by simp [pairs, lf]
  | a :: b :: l, k + 2, y, h2, hk => by
    have := pairs_set (f := f) (l := l) (k := k) (y := y) (by simp at h2; omega) (by simpa using hk)
    rw [show (k + 2) / 2 = k / 2 + 1 by omega]
    simp only [List.set_cons_succ, pairs, this, lf]
    congr 2
theorem rpl_lev {f : Int} {h n : Nat} {l : Lv} (hl : l.length = 2 ^ h) (hn : n ≤ h) {i : Nat} (hi : i < 2 ^ h) (x : Dg) : ∀ m, m ≤ n → rpl f (lvls f n l) i x m = lev f m (l.set i x)
  | 0, _ => by simp only [rpl]; rw [lvls_get (by omega)]; rfl
  | m + 1, hm => by
    have ih := rpl_lev (f := f) hl hn hi x m (by omega)
    rw [rpl, lvls_get hm, ih]
    have hlm := lev_len (f := f) hl (m := m) (by omega)
    have hk := div_pow_lt (m := m) hi (by omega)
    have hp : (2 : Nat) ^ (h - m) = 2 * 2 ^ (h - (m + 1)) := by rw [show h - m = (h - (m + 1)) + 1 by omega, Nat.pow_succ, Nat.mul_comm]
    have hset : lev f m (l.set i x) = (lev f m l).set (i / 2 ^ m) (rlf f (lvls f n l) i x m) := by rw [← ih, rpl_eq, lvls_get (by omega)]
    show _ = pairs f (lev f m (l.set i x))
    rw [hset, pairs_set (by omega) (by omega), ← div_succ]
    rfl
theorem mixl_lvls {f : Int} {h n : Nat} {l : Lv} (hl : l.length = 2 ^ h) (hn : n ≤ h) {i : Nat} (hi : i < 2 ^ h) (x : Dg) : mixl f (lvls f n l) i x (lvls f n l).length = lvls f n (l.set i x) := by
  unfold mixl
  rw [List.drop_length, List.append_nil, lvls_len]
  unfold lvls
  refine List.map_congr_left fun m hm => ?_
  exact rpl_lev hl hn hi x m (by simp at hm; omega)

/-! two openings -/
theorem ord_inj {i : Nat} {x p y q : Dg} (h : ord i x p = ord i y q) : x = y ∧ p = q := by
  unfold ord at h
  by_cases hi : i % 2 = 1
  · rw [if_pos hi, if_pos hi] at h; simp only [Prod.mk.injEq] at h; exact ⟨h.2, h.1⟩
  · rw [if_neg hi, if_neg hi] at h; simp only [Prod.mk.injEq] at h; exact h
/-- What is told is two different pairs, or nothing differs. -/
theorem clacc_spec {f : Int} {i : Nat} {a b : Dg} {p q : Lv} (hq : q.length = p.length) : ∀ j, j ≤ p.length →
    ((clacc f i a b p q j).2.2 = true → (clacc f i a b p q j).1 ≠ (clacc f i a b p q j).2.1 ∧
      (clm f i a p j = clm f i b q j → nd f (clacc f i a b p q j).1.1 (clacc f i a b p q j).1.2 = nd f (clacc f i a b p q j).2.1.1 (clacc f i a b p q j).2.1.2)) ∧
    ((clacc f i a b p q j).2.2 = false → ∀ m, m < j → clm f i a p m = clm f i b q m ∧ p.getD m (0, 0) = q.getD m (0, 0))
  | 0, _ => ⟨fun h => by simp [clacc] at h, fun _ m hm => by omega⟩
  | j + 1, hj => by
    obtain ⟨h1, h2⟩ := clacc_spec (f := f) (i := i) (a := a) (b := b) hq j (by omega)
    rw [clacc]
    have ea := clm_succ (f := f) (i := i) (x := a) (l := p) (j := j) (by omega)
    have eb := clm_succ (f := f) (i := i) (x := b) (l := q) (j := j) (by omega)
    by_cases hne : ord (i / 2 ^ j) (clm f i a p j) (p.getD j (0, 0)) ≠ ord (i / 2 ^ j) (clm f i b q j) (q.getD j (0, 0))
    · rw [if_pos hne]
      refine ⟨fun _ => ⟨hne, fun h => ?_⟩, fun h => by cases h⟩
      rw [ea, eb] at h
      exact h
    · rw [if_neg hne]
      have hne : ord (i / 2 ^ j) (clm f i a p j) (p.getD j (0, 0)) = ord (i / 2 ^ j) (clm f i b q j) (q.getD j (0, 0)) := Classical.not_not.1 hne
      obtain ⟨g1, g2⟩ := ord_inj hne
      refine ⟨fun h => ⟨(h1 h).1, fun _ => (h1 h).2 g1⟩, fun h m hm => ?_⟩
      rcases Nat.lt_succ_iff_lt_or_eq.1 hm with hm | rfl
      · exact h2 h m hm
      · exact ⟨g1, g2⟩
/-- Another leaf or path, with one end: two pairs are told. -/
theorem clash_two {f : Int} {i : Nat} {a b : Dg} {p q : Lv} (hq : q.length = p.length) (he : climb f i a p = climb f i b q) (hne : ¬ (a = b ∧ p = q)) :
    (clash f i a b p q).2.2 = true ∧ (clash f i a b p q).1 ≠ (clash f i a b p q).2.1 ∧ nd f (clash f i a b p q).1.1 (clash f i a b p q).1.2 = nd f (clash f i a b p q).2.1.1 (clash f i a b p q).2.1.2 := by
  unfold clash
  rw [if_neg (by simp [he])]
  obtain ⟨h1, h2⟩ := clacc_spec (f := f) (i := i) (a := a) (b := b) hq p.length (Nat.le_refl _)
  have heq : clm f i a p p.length = clm f i b q p.length := by rw [clm_all, ← hq, clm_all, he]
  cases hb : (clacc f i a b p q p.length).2.2 with
  | true => exact ⟨rfl, (h1 hb).1, (h1 hb).2 heq⟩
  | false =>
    refine (hne ?_).elim
    have h2 := h2 hb
    refine ⟨?_, same_iff hq.symm fun m hm => (h2 m hm).2⟩
    by_cases h0 : p.length = 0
    · rw [h0, clm_zero, clm_zero] at heq; exact heq
    · have := (h2 0 (by omega)).1
      rw [clm_zero, clm_zero] at this; exact this
/-- Otherwise nothing is told. -/
theorem clash_none {f : Int} {i : Nat} {a b : Dg} {p q : Lv} (hq : q.length = p.length) (h : climb f i a p ≠ climb f i b q ∨ (a = b ∧ p = q)) : (clash f i a b p q).2.2 = false := by
  unfold clash
  by_cases he : climb f i a p ≠ climb f i b q
  · rw [if_pos he]
  · rw [if_neg he]
    rcases h with h | ⟨rfl, rfl⟩
    · exact (he h).elim
    · have : ∀ j, j ≤ p.length → (clacc f i a a p p j).2.2 = false := by
        intro j
        induction j with
        | zero => intro _; rfl
        | succ j ih => intro hj; rw [clacc, if_neg (by simp)]; exact ih (by omega)
      exact this _ (Nat.le_refl _)

/-! what the statement makes -/
abbrev K32 (x : Int) : List Spec := [u32 x]
theorem mul_nat {a b : Nat} (h : a * b < 2 ^ 60) : IntKind.i64.wrap ((a : Int) * (b : Int)) = ((a * b : Nat) : Int) := by
  have e : (a : Int) * (b : Int) = ((a * b : Nat) : Int) := (Int.natCast_mul a b).symm
  rw [e, wI_in]
  omega
/-- A leaf. -/
def lfd (f : Int) (sd : List Int) (k : Nat) : Dg := if 0 < sd.length then (sd.getD (k % sd.length) 0 % fP f, sd.getD ((k * k + 1) % sd.length) 0 % fP f) else ((k : Int), 1)
def lvs (f : Int) (sd : List Int) (N : Nat) : Lv := (List.range N).map (lfd f sd)
theorem lvs_succ (f : Int) (sd : List Int) (N : Nat) : lvs f sd (N + 1) = lvs f sd N ++ [lfd f sd N] := by simp [lvs, List.range_succ]
theorem lvs_len (f : Int) (sd : List Int) (N : Nat) : (lvs f sd N).length = N := by simp [lvs]
theorem fP_ge {f : Int} (hf : fv f = true) : 97 ≤ fP f := by
  have h' := fv_iff.1 hf
  have : f = 0 ∨ f = 1 ∨ f = 2 ∨ f = 3 := by omega
  rcases this with rfl | rfl | rfl | rfl <;> decide
theorem lvs_in {f : Int} (hf : fv f = true) (sd : List Int) {N : Nat} (hN : N ≤ 16) : inL (fP f) (lvs f sd N) := fun d hd => by
  have hp := fP_ge hf
  unfold lvs at hd
  rw [List.mem_map] at hd
  obtain ⟨k, hk, rfl⟩ := hd
  have hk : k < N := by simpa using hk
  unfold lfd
  split
  · exact ⟨em_lt (by omega) _, em_lt (by omega) _⟩
  · exact ⟨⟨by show (0 : Int) ≤ (k : Int); omega, by show (k : Int) < fP f; omega⟩, by show (0 : Int) ≤ 1 ∧ (1 : Int) < fP f; omega⟩
/-- Another digest. -/
def oth (f : Int) (b : Nat) (x : Int) : Int := (x + 1 + (b : Int) % (fP f - 1)) % fP f
theorem oth_in {f : Int} (hf : fv f = true) (b : Nat) (x : Int) : 0 ≤ oth f b x ∧ oth f b x < fP f := em_lt (by have := fP_ge hf; omega) _
theorem fl_get2 : ∀ {l : Lv} {k : Nat}, k < l.length → (l.flatMap Kd)[k * 2 + 1 * 1]? = some (u64 (l.getD k (0, 0)).2)
  | [], _, h => by simp at h
  | y :: l, 0, _ => rfl
  | y :: l, k + 1, h => by
    have := fl_get2 (l := l) (k := k) (by simpa using h)
    rw [List.flatMap_cons, show (k + 1) * 2 + 1 * 1 = k * 2 + 1 * 1 + 1 + 1 by omega]
    exact this
theorem fl_set2 : ∀ {l : Lv} {k : Nat} {y : Int}, k < l.length → spl (l.flatMap Kd) (k * 2 + 1 * 1) [u64 y] = (l.set k ((l.getD k (0, 0)).1, y)).flatMap Kd
  | [], _, _, h => by simp at h
  | x :: l, 0, y, _ => by simp [spl, List.flatMap_cons]
  | x :: l, k + 1, y, h => by
    have := fl_set2 (l := l) (k := k) (y := y) (by simpa using h)
    rw [List.set_cons_succ, List.flatMap_cons, List.flatMap_cons, List.getD_cons_succ, ← this]
    unfold spl
    rw [show (k + 1) * 2 + 1 * 1 = k * 2 + 1 * 1 + 1 + 1 by omega]
    rfl
theorem row_set2 {l : Lv} {k : Nat} {y : Int} {v : Value} (h : k < l.length) : Ent.row v 42 2 l.length (spl (l.flatMap Kd) (k * 2 + 1 * 1) [u64 y]) = Ent.rows Kd v 42 2 (l.set k ((l.getD k (0, 0)).1, y)) := by
  show _ = Ent.row v 42 2 (l.set k ((l.getD k (0, 0)).1, y)).length ((l.set k ((l.getD k (0, 0)).1, y)).flatMap Kd)
  rw [fl_set2 h, List.length_set]
theorem row_set {l : Lv} {k : Nat} {x : Dg} {v : Value} (h : k < l.length) : Ent.row v 42 2 l.length (spl (l.flatMap Kd) (k * 2) (Kd x)) = Ent.rows Kd v 42 2 (l.set k x) := by
  show _ = Ent.row v 42 2 (l.set k x).length ((l.set k x).flatMap Kd)
  rw [fl_splD h, List.length_set]
theorem ord_in {P : Int} {i : Nat} {x p : Dg} (hx : inD P x) (hp : inD P p) : inD P (ord i x p).1 ∧ inD P (ord i x p).2 := by
  unfold ord; split <;> exact ⟨by assumption, by assumption⟩
theorem clacc_in {f : Int} (hf : fv f = true) {i : Nat} {a b : Dg} (ha : inD (fP f) a) (hb : inD (fP f) b) {p q : Lv} (hp : inL (fP f) p) (hq : inL (fP f) q) (hl : q.length = p.length) : ∀ j, j ≤ p.length →
    (inD (fP f) (clacc f i a b p q j).1.1 ∧ inD (fP f) (clacc f i a b p q j).1.2) ∧ (inD (fP f) (clacc f i a b p q j).2.1.1 ∧ inD (fP f) (clacc f i a b p q j).2.1.2)
  | 0, _ => by
    have h0 : inD (fP f) (0, 0) := by have := fP_ge hf; exact ⟨⟨by decide, by show (0 : Int) < fP f; omega⟩, by decide, by show (0 : Int) < fP f; omega⟩
    exact ⟨⟨h0, h0⟩, h0, h0⟩
  | j + 1, hj => by
    rw [clacc]
    split
    · exact ⟨ord_in (clm_in hf ha j) (inL_get hp (by omega)), ord_in (clm_in hf hb j) (inL_get hq (by omega))⟩
    · exact clacc_in hf ha hb hp hq hl j (by omega)
theorem clash_in {f : Int} (hf : fv f = true) {i : Nat} {a b : Dg} (ha : inD (fP f) a) (hb : inD (fP f) b) {p q : Lv} (hp : inL (fP f) p) (hq : inL (fP f) q) (hl : q.length = p.length) :
    (inD (fP f) (clash f i a b p q).1.1 ∧ inD (fP f) (clash f i a b p q).1.2) ∧ (inD (fP f) (clash f i a b p q).2.1.1 ∧ inD (fP f) (clash f i a b p q).2.1.2) := by
  unfold clash
  split
  · exact clacc_in (i := i) hf ha hb hp hq hl 0 (by omega)
  · exact clacc_in hf ha hb hp hq hl _ (Nat.le_refl _)
theorem pth_in {f : Int} {ls : List Lv} {i h c : Nat} (H : okT f h c ls) (hi : i < 2 ^ h) : inL (fP f) (pth ls i (h - c)) := fun d hd => by
  unfold pth at hd
  rw [List.mem_map] at hd
  obtain ⟨m, hm, rfl⟩ := hd
  have hm : m < h - c := by simpa using hm
  have hl := H.len
  have hc := H.hc
  refine inL_get (H.ins m (by omega)) ?_
  rw [H.lens m (by omega)]
  exact xor_one_lt (div_pow_lt hi (by omega)) (by omega)
theorem chk_yes {f : Int} {T : Lv} {i : Nat} {x : Dg} {l : Lv} (h : i / 2 ^ l.length < T.length) (he : climb f i x l = T.getD (i / 2 ^ l.length) (0, 0)) : chk f T i x l = true := by
  unfold chk; rw [if_pos h, decide_eq_true he]
theorem chk_no {f : Int} {T : Lv} {i : Nat} {x : Dg} {l : Lv} (h : ¬ i / 2 ^ l.length < T.length) : chk f T i x l = false := by
  unfold chk; rw [if_neg h]
end Go.Vx
