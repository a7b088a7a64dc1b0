/- Plain laws on maps and counts. Conditions: none. -/
import Derived.Test.YtofnjbcbkfbomaaDoorWd
namespace Go.Vx
open Go Go.RowKit Go.Proofs

theorem shl1 {k : Nat} (h : k ≤ 30) : IntKind.i64.wrap (1 * 2 ^ (min ((k : Nat) : Int).toNat IntKind.i64.bits)) = ((2 ^ k : Nat) : Int) := by
  have e : IntKind.i64.bits = 64 := rfl
  rw [e, Int.toNat_natCast, Nat.min_eq_left (by omega), Int.one_mul]
  have h2 : (2 : Nat) ^ k ≤ 2 ^ 30 := Nat.pow_le_pow_right (by decide) h
  have h3 : ((2 ^ k : Nat) : Int) = (2 : Int) ^ k := by simp
  have h4 : ((2 ^ k : Nat) : Int) ≤ 1073741824 := Int.ofNat_le.2 h2
  have h5 : 0 ≤ ((2 ^ k : Nat) : Int) := Int.natCast_nonneg _
  rw [← h3]
  generalize ((2 ^ k : Nat) : Int) = z at h4 h5
  exact wI_in (by omega)
theorem pow2_le {k m : Nat} (h : k ≤ m) : 2 ^ k ≤ 2 ^ m := Nat.pow_le_pow_right (by decide) h

/-! texts -/
theorem foldl_push (l : List Int) : ∀ (b : ByteArray), l.foldl (fun r n => r.push (UInt8.ofNat n.toNat)) b = ⟨b.data ++ (l.map b8).toArray⟩ := by
  induction l with
  | nil => intro b; simp
  | cons x l ih =>
    intro b
    rw [List.foldl_cons, ih]
    congr 1
    simp [ByteArray.push, b8]
theorem kstrI_eq (l : List Int) : kstrI l = kstr (l.map b8) := by
  unfold kstrI kstr bytesOf
  rw [foldl_push]
  congr 2
  exact Array.empty_append
theorem sh0 {x : Int} (h : 0 ≤ x ∧ x < 97) (m : Nat) (hm : 7 ≤ m ∧ m ≤ 64) : x.fdiv (2 ^ m) = 0 := by
  have h2 : (128 : Int) ≤ 2 ^ m := by
    have : (2 : Nat) ^ 7 ≤ 2 ^ m := Nat.pow_le_pow_right (by decide) hm.1
    have h3 : ((2 ^ m : Nat) : Int) = (2 : Int) ^ m := by simp
    rw [← h3]
    have := Int.ofNat_le.2 this
    exact this
  rw [Int.fdiv_eq_ediv_of_nonneg _ (by omega)]
  exact Int.ediv_eq_zero_of_lt h.1 (by omega)

/-! maps -/
section
variable {κ ν : Type} [DecidableEq κ]
theorem mget_mset (m : List (κ × ν)) (k k' : κ) (v : ν) : mget (mset m k v) k' = if k = k' then some v else mget m k' := by
  induction m with
  | nil => simp [mset, mget]
  | cons p m ih =>
    obtain ⟨a, b⟩ := p
    unfold mset
    by_cases e : a = k
    · subst e
      rw [if_pos rfl]
      unfold mget
      split <;> simp_all
    · rw [if_neg e]
      unfold mget
      by_cases e2 : a = k'
      · subst e2
        rw [if_pos rfl, if_pos rfl, if_neg (fun h => e h.symm)]
      · rw [if_neg e2, if_neg e2, ih]
def mkeys (m : List (κ × ν)) : List κ := m.map (·.1)
theorem mget_none {m : List (κ × ν)} {k : κ} : mget m k = none ↔ k ∉ mkeys m := by
  induction m with
  | nil => simp [mget, mkeys]
  | cons p m ih =>
    obtain ⟨a, b⟩ := p
    unfold mget
    by_cases e : a = k
    · simp [e, mkeys]
    · have e' : ¬ k = a := fun h => e h.symm
      rw [if_neg e, ih]; simp only [mkeys, List.map_cons, List.mem_cons, e', false_or]
theorem mset_keys (m : List (κ × ν)) (k : κ) (v : ν) : mkeys (mset m k v) = if k ∈ mkeys m then mkeys m else mkeys m ++ [k] := by
  induction m with
  | nil => simp [mset, mkeys]
  | cons p m ih =>
    obtain ⟨a, b⟩ := p
    unfold mset
    by_cases e : a = k
    · subst e; simp [mkeys]
    · rw [if_neg e]
      have ih' : List.map (fun x => x.fst) (mset m k v) = if k ∈ List.map (fun x => x.fst) m then List.map (fun x => x.fst) m else List.map (fun x => x.fst) m ++ [k] := ih
      simp only [mkeys, List.map_cons, ih', List.mem_cons]
      by_cases hk : k ∈ List.map (fun x => x.fst) m
      · rw [if_pos hk, if_pos (.inr hk)]
      · rw [if_neg hk, if_neg]
        · rfl
        · rintro (h | h)
          · exact e h.symm
          · exact hk h
theorem mset_nodup {m : List (κ × ν)} (h : (mkeys m).Nodup) (k : κ) (v : ν) : (mkeys (mset m k v)).Nodup := by
  rw [mset_keys]
  split
  · exact h
  · rename_i hk
    rw [List.nodup_append]
    refine ⟨h, by simp, ?_⟩
    intro a ha b hb e
    simp at hb
    subst hb
    subst e
    exact hk ha
theorem mget_mem {m : List (κ × ν)} (h : (mkeys m).Nodup) {k : κ} {v : ν} : (k, v) ∈ m ↔ mget m k = some v := by
  induction m with
  | nil => simp [mget]
  | cons p m ih =>
    obtain ⟨a, b⟩ := p
    simp only [mkeys, List.map_cons, List.nodup_cons] at h
    unfold mget
    by_cases e : a = k
    · subst e
      rw [if_pos rfl]
      constructor
      · intro hm
        rcases List.mem_cons.1 hm with hm | hm
        · cases hm; rfl
        · exact (h.1 (List.mem_map_of_mem (f := fun x => x.1) hm)).elim
      · intro hs; cases hs; simp
    · rw [if_neg e, ← ih h.2]
      constructor
      · intro hm
        rcases List.mem_cons.1 hm with hm | hm
        · cases hm; exact (e rfl).elim
        · exact hm
      · intro hm; exact List.mem_cons_of_mem _ hm
end

/-! the counts of a permutation -/
theorem balM_keys (kl kr : Nat → List UInt8) : ∀ i, (mkeys (balM kl kr i)).Nodup
  | 0 => by simp [balM, mkeys]
  | i + 1 => mset_nodup (mset_nodup (balM_keys kl kr i) _ _) _ _
/-- How often a key stands among the first ones. -/
def occ (kf : Nat → List UInt8) (k : List UInt8) : Nat → Int
  | 0 => 0
  | i + 1 => occ kf k i + if kf i = k then 1 else 0
theorem occ_bnd (kf : Nat → List UInt8) (k : List UInt8) : ∀ i, 0 ≤ occ kf k i ∧ occ kf k i ≤ i
  | 0 => by simp [occ]
  | i + 1 => by
    have := occ_bnd kf k i
    unfold occ
    split <;> omega
theorem balM_get (kl kr : Nat → List UInt8) (k : List UInt8) (i : Nat) : (mget (balM kl kr i) k).getD 0 = occ kl k i - occ kr k i := by
  induction i generalizing k with
  | zero => rfl
  | succ i ih' =>
    have ih : ∀ k (_ : Nat), (mget (balM kl kr i) k).getD 0 = occ kl k i - occ kr k i := fun k _ => ih' k
    unfold balM balStep occ
    simp only [mget_mset]
    by_cases h2 : kr i = k
    · subst h2
      rw [if_pos rfl, if_pos rfl]
      by_cases h1 : kl i = kr i
      · rw [if_pos h1, if_pos h1]
        simp only [Option.getD_some, h1]
        rw [ih (kr i) i]; omega
      · rw [if_neg h1, if_neg h1]
        simp only [Option.getD_some]
        rw [ih (kr i) i]; omega
    · rw [if_neg h2, if_neg h2]
      by_cases h1 : kl i = k
      · subst h1
        rw [if_pos rfl, if_pos rfl]
        simp only [Option.getD_some]
        rw [ih (kl i) i]; omega
      · rw [if_neg h1, if_neg h1, ih k i]; omega
theorem bal_bnd (kl kr : Nat → List UInt8) (i : Nat) (k : List UInt8) : -(i : Int) ≤ (mget (balM kl kr i) k).getD 0 ∧ (mget (balM kl kr i) k).getD 0 ≤ i := by
  rw [balM_get]
  have := occ_bnd kl k i
  have := occ_bnd kr k i
  omega
theorem bal_bnd2 (kl kr : Nat → List UInt8) (i : Nat) (k : List UInt8) : -(i : Int) - 1 ≤ (mget (mset (balM kl kr i) (kl i) ((mget (balM kl kr i) (kl i)).getD 0 + 1)) k).getD 0 ∧ (mget (mset (balM kl kr i) (kl i) ((mget (balM kl kr i) (kl i)).getD 0 + 1)) k).getD 0 ≤ i + 1 := by
  rw [mget_mset]
  have h1 := bal_bnd kl kr i (kl i)
  have h2 := bal_bnd kl kr i k
  split
  · simp only [Option.getD_some]; omega
  · omega
theorem balB_iff {kl kr : Nat → List UInt8} {N : Nat} : allZ (balM kl kr N) = true ↔ ∀ k, occ kl k N = occ kr k N := by
  unfold allZ
  rw [List.all_eq_true]
  constructor
  · intro h k
    have := balM_get kl kr k N
    cases hk : mget (balM kl kr N) k with
    | none => rw [hk] at this; simp at this; omega
    | some v =>
      have hv := h (k, v) ((mget_mem (balM_keys kl kr N)).2 hk)
      rw [hk] at this
      simp at hv this
      omega
  · rintro h ⟨k, v⟩ hp
    have hk := (mget_mem (balM_keys kl kr N)).1 hp
    have := balM_get kl kr k N
    rw [hk, h k] at this
    simp at this ⊢
    omega

/-! the counts of a lookup -/
theorem cntM_keys (kt : Nat → List UInt8) (n : Nat → Int) : ∀ i, (mkeys (cntM kt n i)).Nodup
  | 0 => by simp [cntM, mkeys]
  | i + 1 => mset_nodup (cntM_keys kt n i) _ _
/-- The sum of the numbers at a key. -/
def wsum (kf : Nat → List UInt8) (n : Nat → Int) (k : List UInt8) : Nat → Int
  | 0 => 0
  | i + 1 => wsum kf n k i + if kf i = k then n i else 0
theorem cntM_get (kt : Nat → List UInt8) (n : Nat → Int) (k : List UInt8) : ∀ i, (mget (cntM kt n i) k).getD 0 = wsum kt n k i % 97 ∧ ((mget (cntM kt n i) k).isSome = true ↔ ∃ j, j < i ∧ kt j = k)
  | 0 => ⟨rfl, by simp [cntM, mget]⟩
  | i + 1 => by
    obtain ⟨h1, h2⟩ := cntM_get kt n k i
    unfold cntM wsum
    simp only [mget_mset]
    by_cases e : kt i = k
    · subst e
      rw [if_pos rfl, if_pos rfl]
      refine ⟨?_, fun _ => ⟨i, by omega, rfl⟩, fun _ => rfl⟩
      simp only [Option.getD_some]
      rw [h1, Int.emod_add_emod]
    · rw [if_neg e, if_neg e, Int.add_zero]
      refine ⟨h1, h2.trans ⟨fun ⟨j, hj, hk⟩ => ⟨j, by omega, hk⟩, fun ⟨j, hj, hk⟩ => ⟨j, ?_, hk⟩⟩⟩
      by_cases hji : j = i
      · subst hji; exact (e hk).elim
      · omega
theorem cnt_bnd (kt : Nat → List UInt8) (n : Nat → Int) (i : Nat) (k : List UInt8) : 0 ≤ (mget (cntM kt n i) k).getD 0 ∧ (mget (cntM kt n i) k).getD 0 < 97 := by
  rw [(cntM_get kt n k i).1]; exact em_lt (by decide) _
theorem lessM_none {ke : Nat → List UInt8} {m0 : Cnt} {i : Nat} (h : lessM ke m0 i = none) : ∀ j, i ≤ j → lessM ke m0 j = none := by
  intro j hj
  induction j with
  | zero => obtain rfl : i = 0 := by omega
            exact h
  | succ j ih =>
    by_cases e : i = j + 1
    · subst e; exact h
    · unfold lessM; rw [ih (by omega)]
theorem lessM_get {ke : Nat → List UInt8} {m0 : Cnt} (hk : (mkeys m0).Nodup) (h0 : ∀ k, 0 ≤ (mget m0 k).getD 0 ∧ (mget m0 k).getD 0 < 97) : ∀ (i : Nat) (m : Cnt), lessM ke m0 i = some m →
    (mkeys m).Nodup ∧ (∀ k, (mget m k).getD 0 = ((mget m0 k).getD 0 - occ ke k i) % 97) ∧ (∀ k, (mget m k).isSome = (mget m0 k).isSome) ∧ ∀ j, j < i → (mget m0 (ke j)).isSome = true
  | 0, m, h => by
    cases h
    refine ⟨hk, fun k => ?_, fun _ => rfl, fun j hj => by omega⟩
    rw [occ, Int.sub_zero, Int.emod_eq_of_lt (h0 k).1 (h0 k).2]
  | i + 1, m, h => by
    unfold lessM at h
    cases hm : lessM ke m0 i with
    | none => rw [hm] at h; cases h
    | some m' =>
      rw [hm] at h
      simp only at h
      obtain ⟨g1, g2, g3, g4⟩ := lessM_get hk h0 i m' hm
      cases hv : mget m' (ke i) with
      | none => rw [hv] at h; cases h
      | some v =>
        rw [hv] at h
        cases h
        refine ⟨mset_nodup g1 _ _, fun k => ?_, fun k => ?_, fun j hj => ?_⟩
        · rw [mget_mset]
          unfold occ
          by_cases e : ke i = k
          · subst e
            rw [if_pos rfl, if_pos rfl]
            have := g2 (ke i)
            rw [hv] at this
            simp only [Option.getD_some] at this ⊢
            rw [this, Int.emod_sub_emod]; congr 1; omega
          · rw [if_neg e, if_neg e, g2 k, Int.add_zero]
        · rw [mget_mset]
          split
          · rename_i e; subst e; rw [← g3, hv]; rfl
          · exact g3 k
        · by_cases e : j = i
          · subst e; rw [← g3, hv]; rfl
          · exact g4 j (by omega)
theorem less_bnd {ke : Nat → List UInt8} {m0 : Cnt} (hk : (mkeys m0).Nodup) (h0 : ∀ k, 0 ≤ (mget m0 k).getD 0 ∧ (mget m0 k).getD 0 < 97) {i : Nat} {m : Cnt} (h : lessM ke m0 i = some m) (k : List UInt8) : 0 ≤ (mget m k).getD 0 ∧ (mget m k).getD 0 < 97 := by
  rw [(lessM_get hk h0 i m h).2.1 k]; exact em_lt (by decide) _

/-! what has been met of a map -/
def metZ (m : Cnt) (s : List Nat) : Prop := s.Nodup ∧ ∀ j ∈ s, ∃ p, m[j]? = some p ∧ p.2 = 0
theorem metZ_lt {m : Cnt} {s : List Nat} (h : metZ m s) : ∀ j ∈ s, j < m.length := fun j hj => by
  obtain ⟨p, hp, _⟩ := h.2 j hj
  exact (List.getElem?_eq_some_iff.1 hp).1
theorem metZ_snoc {m : Cnt} {s : List Nat} {i : Nat} {k : List UInt8} {v : Int} (h : metZ m s) (hi : m[i]? = some (k, v)) (hs : i ∉ s) (hv : v = 0) : metZ m (s ++ [i]) ∧ m.length - (s ++ [i]).length < m.length - s.length := by
  have hlt := (List.getElem?_eq_some_iff.1 hi).1
  have hl := seen_lt h.1 (metZ_lt h) hs hlt
  refine ⟨⟨?_, fun j hj => ?_⟩, by simp; omega⟩
  · rw [List.nodup_append]
    exact ⟨h.1, by simp, fun a ha b hb e => by simp at hb; subst hb; subst e; exact hs ha⟩
  · rcases List.mem_append.1 hj with hj | hj
    · exact h.2 j hj
    · simp at hj; subst hj; exact ⟨_, hi, hv⟩
theorem metZ_all {m : Cnt} {s : List Nat} (h : metZ m s) (ha : ∀ i, i < m.length → i ∈ s) : allZ m = true := by
  unfold allZ
  rw [List.all_eq_true]
  intro p hp
  obtain ⟨i, hi⟩ := List.getElem?_of_mem hp
  obtain ⟨q, hq, hz⟩ := h.2 i (ha i (List.getElem?_eq_some_iff.1 hi).1)
  rw [hi] at hq
  cases hq
  simp [hz]
theorem allZ_not {m : Cnt} {i : Nat} {k : List UInt8} {v : Int} (hi : m[i]? = some (k, v)) (hv : v ≠ 0) : allZ m = false := by
  cases h : allZ m with
  | false => rfl
  | true =>
    unfold allZ at h
    have := List.all_eq_true.1 h _ (List.mem_of_getElem? hi)
    simp at this
    exact (hv this).elim
abbrev gi (n : Int) : Value := .int .i64 n
abbrev gu (n : Int) : Value := .int .u64 n
/-- Faults. -/
abbrev Kfa (p : Int × Int) : List Spec := [i64 p.1, i64 p.2]
theorem key_snoc {t : List Int} {cs : List (List Int)} {i : Nat} {l : List Var} {j : Nat} (h : j < l.length) {x : Int} (hx : vat t cs i l[j] = x) : keyOf t cs i (l.take j) ++ [x, 0, 0, 0] = keyOf t cs i (l.take (j + 1)) := by
  unfold keyOf
  rw [← List.take_append_getElem h, List.flatMap_append]
  simp [hx]
theorem take_flat {α : Type} {l : List (List α)} {j : Nat} (h : j < l.length) : (l.take j).flatten ++ l[j] = (l.take (j + 1)).flatten := by
  rw [← List.take_append_getElem h, List.flatten_append]; simp only [List.flatten_cons, List.flatten_nil, List.append_nil]
def lsum {α : Type} (l : List (List α)) : Nat := l.flatten.length
theorem lsum_take {α : Type} {l : List (List α)} {j : Nat} (h : j < l.length) : lsum (l.take j) + l[j].length = lsum (l.take (j + 1)) := by
  unfold lsum; rw [← take_flat h, List.length_append]
theorem lsum_le {α : Type} (l : List (List α)) (j : Nat) : lsum (l.take j) ≤ l.flatten.length := by
  unfold lsum
  conv => rhs; rw [← List.take_append_drop j l]
  rw [List.flatten_append, List.length_append]; omega
end Go.Vx
