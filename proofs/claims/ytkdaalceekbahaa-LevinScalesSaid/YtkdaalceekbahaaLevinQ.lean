/- Plain facts about the steps: no program in sight. -/
import Derived.Test.YtkdaalceekbahaaLevinP
namespace Go.Proofs.Ytkdaalceekbahaa.Pl
/-- no number of the list is further from 0 than 2 to 31 -/
def Far31 (l : List Int) : Prop := ∀ j : Nat, -2147483648 ≤ l.getD j 0 ∧ l.getD j 0 ≤ 2147483648
theorem prod_le {a b M : Int} (hM : 0 ≤ M) (ha : -M ≤ a ∧ a ≤ M) (hb : -M ≤ b ∧ b ≤ M) : -(M * M) ≤ a * b ∧ a * b ≤ M * M := by
  have h1 : a.natAbs ≤ M.natAbs := by omega
  have h2 : b.natAbs ≤ M.natAbs := by omega
  have h3 := Nat.mul_le_mul h1 h2
  rw [← Int.natAbs_mul, ← Int.natAbs_mul] at h3
  have h4 : 0 ≤ M * M := Int.mul_nonneg hM hM
  omega
theorem prod31 {a b : Int} (ha : -2147483648 ≤ a ∧ a ≤ 2147483648) (hb : -2147483648 ≤ b ∧ b ≤ 2147483648) : -4611686018427387904 ≤ a * b ∧ a * b ≤ 4611686018427387904 := by
  have := prod_le (M := 2147483648) (by omega) ha hb; omega
/-- what so many coefficients leave of a number -/
def missN (r c : List Int) (i : Nat) : Nat → Int
  | 0 => r.getD i 0
  | k + 1 => missN r c i k - c.getD k 0 * r.getD (i - (k + 1)) 0 / 16777216
theorem missN_le (r c : List Int) (hr : Far31 r) (hc : Far31 c) (i : Nat) : ∀ k : Nat, -(2147483648 + k * 274877906944) ≤ missN r c i k ∧ missN r c i k ≤ 2147483648 + k * 274877906944
  | 0 => by have := hr i; simp only [missN]; omega
  | k + 1 => by
    have h1 := missN_le r c hr hc i k
    have h2 := prod31 (hc k) (hr (i - (k + 1)))
    simp only [missN]
    omega
def turnV (c : List Int) (k : Int) (j : Nat) : Int := clamp (c.getD j 0 - k * c.getD (c.length - 1 - j) 0 / 16777216) (-2147483648) 2147483648
def turn (c : List Int) (k : Int) : List Int := (List.range c.length).map (turnV c k) ++ [k]
theorem turn_len (c : List Int) (k : Int) : (turn c k).length = c.length + 1 := by simp [turn]
theorem turn_last (c : List Int) (k : Int) : (turn c k).getD c.length 0 = k := by
  unfold turn; rw [List.getD_eq_getElem?_getD, List.getElem?_append_right (by simp)]; simp
theorem turn_far (c : List Int) (k : Int) (hk : -16777216 ≤ k ∧ k ≤ 16777216) : Far31 (turn c k) := by
  intro j
  unfold turn
  rw [List.getD_eq_getElem?_getD]
  rcases Nat.lt_trichotomy j c.length with h | h | h
  · rw [List.getElem?_append_left (by simpa using h), List.getElem?_map, List.getElem?_range h]
    exact clamp_le _ _ _ (by omega)
  · rw [List.getElem?_append_right (by simp; omega)]
    simp [h]; omega
  · rw [List.getElem?_eq_none (by simp; omega)]
    simp
theorem turn_take (c : List Int) (k : Int) (j : Nat) (hj : j < c.length) : ((List.range c.length).map (turnV c k)).take (j + 1) = ((List.range c.length).map (turnV c k)).take j ++ [turnV c k j] := by
  rw [List.take_add_one, List.getElem?_map, List.getElem?_range hj]; rfl
/-- the reflection of a step -/
def refl (a err : Int) : Int := a * 16777216 / err
theorem refl_le {a err : Int} (he : 0 < err) (h1 : a < err) (h2 : -err < a) : -16777216 ≤ refl a err ∧ refl a err < 16777216 := by
  unfold refl
  constructor
  · rw [Int.le_ediv_iff_mul_le he]; omega
  · rw [Int.ediv_lt_iff_lt_mul he]; omega
/-- what is left of the error -/
def less (k err : Int) : Int := err - k * k / 16777216 * err / 16777216
theorem less_le {k err : Int} (he : 0 ≤ err) (hk : -16777216 ≤ k ∧ k ≤ 16777216) : 0 ≤ less k err ∧ less k err ≤ err := by
  have h1 := prod_le (M := 16777216) (by omega) hk hk
  have h2 : 0 ≤ k * k := by
    rcases Int.le_total 0 k with h | h
    · exact Int.mul_nonneg h h
    · exact Int.mul_nonneg_of_nonpos_of_nonpos h h
  have h3 : 0 ≤ k * k / 16777216 ∧ k * k / 16777216 ≤ 16777216 := by omega
  have h4 : 0 ≤ k * k / 16777216 * err := Int.mul_nonneg h3.1 he
  have h5 : k * k / 16777216 * err ≤ 16777216 * err := Int.mul_le_mul_of_nonneg_right h3.2 he
  unfold less
  omega
/-- one step: the reflection, the error behind it, the coefficients behind it -/
def step (r c : List Int) (err : Int) : Option (Int × Int × List Int) :=
  if c.length + 1 < r.length ∧ 0 < err then
    if err ≤ missN r c (c.length + 1) c.length ∨ missN r c (c.length + 1) c.length ≤ -err then none
    else some (refl (missN r c (c.length + 1) c.length) err, less (refl (missN r c (c.length + 1) c.length) err) err, turn c (refl (missN r c (c.length + 1) c.length) err))
  else none
theorem step_len {r c : List Int} {err : Int} {s : Int × Int × List Int} (h : step r c err = some s) : s.2.2.length = c.length + 1 := by
  unfold step at h
  split at h
  · split at h
    · cases h
    · injection h with h; subst h; exact turn_len _ _
  · cases h
theorem step_ok {r c : List Int} {err : Int} {s : Int × Int × List Int} (he : 0 ≤ err) (h : step r c err = some s) : (-16777216 ≤ s.1 ∧ s.1 < 16777216) ∧ (0 ≤ s.2.1 ∧ s.2.1 ≤ err) ∧ Far31 s.2.2 ∧ s.2.2.getD c.length 0 = s.1 := by
  unfold step at h
  split at h
  · rename_i h0
    split at h
    · cases h
    · rename_i h1
      injection h with h; subst h
      have hk := refl_le h0.2 (a := missN r c (c.length + 1) c.length) (by omega) (by omega)
      exact ⟨hk, less_le (by omega) ⟨hk.1, by omega⟩, turn_far _ _ ⟨hk.1, by omega⟩, turn_last _ _⟩
  · cases h
/-- so many steps -/
def solveF (r : List Int) : Nat → List Int → Int → List (Int × Int × List Int)
  | 0, _, _ => []
  | f + 1, c, err => match step r c err with
    | none => []
    | some s => s :: solveF r f s.2.2 s.2.1
theorem solveF_none {r c : List Int} {err : Int} (h : step r c err = none) (f : Nat) : solveF r f c err = [] := by
  cases f with
  | zero => rfl
  | succ f => simp only [solveF, h]
theorem solveF_some {r c : List Int} {err : Int} {s : Int × Int × List Int} (h : step r c err = some s) (f : Nat) : solveF r (f + 1) c err = s :: solveF r f s.2.2 s.2.1 := by
  simp only [solveF, h]
theorem solveF_len (r : List Int) : ∀ (f : Nat) (c : List Int) (err : Int), (solveF r f c err).length ≤ f
  | 0, _, _ => by simp [solveF]
  | f + 1, c, err => by
    simp only [solveF]
    split
    · simp
    · simp only [List.length_cons]; have := solveF_len r f; exact Nat.succ_le_succ (this _ _)
/-- fewer steps are the first ones of more -/
theorem solveF_take (r : List Int) : ∀ (f g : Nat) (c : List Int) (err : Int), f ≤ g → (solveF r g c err).take f = solveF r f c err
  | 0, _, _, _, _ => by simp [solveF]
  | f + 1, 0, _, _, h => by omega
  | f + 1, g + 1, c, err, h => by
    simp only [solveF]
    split
    · simp
    · rw [List.take_succ_cons, solveF_take r f g _ _ (by omega)]
/-- what is true of all steps -/
theorem solveF_all (r : List Int) : ∀ (f : Nat) (c : List Int) (err : Int) (i : Nat) (s : Int × Int × List Int), 0 ≤ err → (solveF r f c err)[i]? = some s →
    (-16777216 ≤ s.1 ∧ s.1 < 16777216) ∧ 0 ≤ s.2.1 ∧ s.2.1 ≤ (if i = 0 then err else ((solveF r f c err)[i - 1]?.map (·.2.1)).getD 0) ∧ s.2.2.length = c.length + i + 1 ∧ s.2.2.getD (c.length + i) 0 = s.1
  | 0, _, _, i, s, _, h => by simp [solveF] at h
  | f + 1, c, err, i, s, he, h => by
    rcases hs : step r c err with _ | t
    · rw [solveF_none hs] at h; simp at h
    · rw [solveF_some hs] at h ⊢
      have ok := step_ok he hs
      have hl := step_len hs
      cases i with
      | zero =>
        simp only [List.getElem?_cons_zero, Option.some.injEq] at h
        subst h
        exact ⟨ok.1, ok.2.1.1, by simpa using ok.2.1.2, by rw [hl], ok.2.2.2⟩
      | succ i =>
        rw [List.getElem?_cons_succ] at h
        have ih := solveF_all r f t.2.2 t.2.1 i s ok.2.1.1 h
        refine ⟨ih.1, ih.2.1, ?_, by rw [ih.2.2.2.1, hl]; omega, by rw [← ih.2.2.2.2, hl]; congr 1 <;> omega⟩
        rw [if_neg (by omega)]
        have h3 := ih.2.2.1
        cases i with
        | zero => simpa using h3
        | succ i => simpa using h3
/-- how many steps may be asked -/
def most (order : Int) : Nat := (min (max order 0) 32).toNat
def solve (l : List Int) (order : Int) : List (Int × Int × List Int) := if norm l = [] then [] else solveF (norm l) (most order) [] ((norm l).getD 0 0)
theorem solve_take (l : List Int) (a b : Int) (h : a ≤ b) : (solve l b).take (most a) = solve l a := by
  unfold solve
  split
  · simp
  · exact solveF_take _ _ _ _ _ (by unfold most; omega)
theorem solve_len (l : List Int) (a : Int) : (solve l a).length ≤ most a := by
  unfold solve
  split
  · simp
  · exact solveF_len _ _ _ _
theorem norm_far (l : List Int) : Far31 (norm l) := by
  intro j
  unfold norm
  split
  · simp
  · rename_i h
    have hh : 0 < hold (l.getD 0 0) ∧ hold (l.getD 0 0) ≤ 4611686018427387904 := by
      constructor
      · unfold hold; repeat' split
        all_goals omega
      · exact (hold_le _).2
    have ht := top_rng hh.1 hh.2
    rw [List.getD_eq_getElem?_getD, List.getElem?_map]
    rcases l[j]? with _ | x
    · simp
    · have := nrm_rng hh.1 hh.2 x
      show -2147483648 ≤ nrm (hold (l.getD 0 0)) x ∧ nrm (hold (l.getD 0 0)) x ≤ 2147483648
      omega
theorem norm_first {l : List Int} (h : norm l ≠ []) : 1073741824 ≤ (norm l).getD 0 0 ∧ (norm l).getD 0 0 < 2147483648 ∧ ∀ x ∈ norm l, -(norm l).getD 0 0 ≤ x ∧ x ≤ (norm l).getD 0 0 := by
  unfold norm at h ⊢
  split
  · rename_i h0; rw [if_pos h0] at h; exact absurd rfl h
  · rename_i h0
    have hh : 0 < hold (l.getD 0 0) ∧ hold (l.getD 0 0) ≤ 4611686018427387904 := by
      constructor
      · unfold hold; repeat' split
        all_goals omega
      · exact (hold_le _).2
    have ht := top_rng hh.1 hh.2
    cases l with
    | nil => simp at h0
    | cons x l =>
      have e : ((x :: l).map (nrm (hold ((x :: l).getD 0 0)))).getD 0 0 = top (hold x) := by
        simp only [List.map_cons, List.getD_cons_zero]
        unfold nrm
        show clamp (scale (hold x) (hold x)) _ _ = _
        exact clamp_in _ _ _ (by unfold top at *; simp at *; omega) (by unfold top; omega)
      rw [e]
      simp only [List.getD_cons_zero] at *
      refine ⟨ht.1, ht.2, fun y hy => ?_⟩
      obtain ⟨z, _, rfl⟩ := List.mem_map.1 hy
      exact nrm_rng hh.1 hh.2 z
end Go.Proofs.Ytkdaalceekbahaa.Pl
