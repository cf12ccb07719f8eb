/- Plain: differences of differences, how rough a list is, and the least of four sums. No Go in sight. -/
import Derived.Test.YtjeiglckkjkkdaaJointP
namespace Go.Proofs.Ytjeiglckkjkkdaa.Pl
set_option linter.unusedVariables false
def d1v (l : List Int) (t : Nat) : Int := add (l.getD t 0) (-hold (if t = 0 then 0 else l.getD (t - 1) 0))
def mix (l : List Int) (k : Nat) : List Int := (List.range l.length).map fun t => if t < k then l.getD t 0 else d1v l t
def d1 (l : List Int) : List Int := mix l 0
theorem mix_len (l : List Int) (k : Nat) : (mix l k).length = l.length := by unfold mix; simp
theorem d1_len (l : List Int) : (d1 l).length = l.length := mix_len l 0
theorem mix_get {l : List Int} {k t : Nat} (h : t < l.length) : (mix l k)[t]? = some (if t < k then l.getD t 0 else d1v l t) := by
  unfold mix; simp [List.getElem?_map, List.getElem?_range h]
theorem mix_full (l : List Int) : mix l l.length = l := by
  apply List.ext_getElem?
  intro i
  rcases Nat.lt_or_ge i l.length with h | h
  · rw [mix_get h, if_pos h, List.getD_eq_getElem?_getD, List.getElem?_eq_getElem h]; rfl
  · rw [List.getElem?_eq_none (by rw [mix_len]; exact h), List.getElem?_eq_none h]
theorem mix_set (l : List Int) (k : Nat) (h : k < l.length) : (mix l (k + 1)).set k (d1v l k) = mix l k := by
  apply List.ext_getElem?
  intro i
  rcases Nat.lt_or_ge i l.length with h1 | h1
  · rw [List.getElem?_set]
    by_cases e : k = i
    · subst e; rw [if_pos rfl, if_pos (by rw [mix_len]; exact h), mix_get h, if_neg (by omega)]
    · rw [if_neg e, mix_get h1, mix_get h1]
      by_cases h2 : i < k
      · rw [if_pos h2, if_pos (by omega)]
      · rw [if_neg h2, if_neg (by omega)]
  · rw [List.getElem?_eq_none (by rw [List.length_set, mix_len]; exact h1), List.getElem?_eq_none (by rw [mix_len]; exact h1)]
theorem d1_le (l : List Int) (M : Int) (hM : 0 ≤ M) (hM2 : M ≤ 1000000000000000) (h : ∀ x ∈ l, -M ≤ x ∧ x ≤ M) : ∀ x ∈ d1 l, -(2 * M) ≤ x ∧ x ≤ 2 * M := by
  have hg : ∀ t, -M ≤ l.getD t 0 ∧ l.getD t 0 ≤ M := by
    intro t
    rcases Nat.lt_or_ge t l.length with h1 | h1
    · rw [List.getD_eq_getElem?_getD, List.getElem?_eq_getElem h1]; exact h _ (List.getElem_mem h1)
    · rw [List.getD_eq_getElem?_getD, List.getElem?_eq_none h1]; show -M ≤ 0 ∧ (0 : Int) ≤ M; omega
  intro x hx
  unfold d1 mix at hx
  obtain ⟨t, _, rfl⟩ := List.mem_map.1 hx
  simp only [Nat.not_lt_zero, if_false]
  unfold d1v add
  have h1 := hg t
  have h2 : -M ≤ (if t = 0 then 0 else l.getD (t - 1) 0) ∧ (if t = 0 then 0 else l.getD (t - 1) 0) ≤ M := by
    split
    · omega
    · exact hg _
  generalize (if t = 0 then 0 else l.getD (t - 1) 0) = y at *
  rw [hold_in y (by omega) (by omega), hold_in (-y) (by omega) (by omega), hold_in (l.getD t 0) (by omega) (by omega), hold_in _ (by omega) (by omega)]
  omega
theorem d1_zero (n : Nat) : d1 (List.replicate n 0) = List.replicate n 0 := by
  apply List.ext_getElem?
  intro i
  rcases Nat.lt_or_ge i n with h | h
  · unfold d1
    rw [mix_get (by simpa using h), if_neg (by omega)]
    have e : ∀ t, (List.replicate n (0 : Int)).getD t 0 = 0 := by
      intro t; rw [List.getD_eq_getElem?_getD, List.getElem?_replicate]; split <;> rfl
    unfold d1v; rw [e, e]
    simp [h, add, hold]
  · rw [List.getElem?_eq_none (by rw [d1_len]; simpa using h), List.getElem?_eq_none (by simpa using h)]
def absI (x : Int) : Int := if x < 0 then -x else x
def rsum (l : List Int) : Int := l.foldl (fun s x => add s (absI x)) 0
theorem rsum_snoc (l : List Int) (x : Int) : rsum (l ++ [x]) = add (rsum l) (absI x) := by unfold rsum; rw [List.foldl_append]; rfl
def rough (l : List Int) : Int := rsum (d1 (d1 l))
theorem rsum_le (M : Int) (hM : 0 ≤ M) : ∀ (l : List Int), (∀ x ∈ l, -M ≤ x ∧ x ≤ M) → ∀ s : Int, 0 ≤ s → s + l.length * M ≤ 4611686018427387904 →
    0 ≤ l.foldl (fun s x => add s (absI x)) s ∧ l.foldl (fun s x => add s (absI x)) s ≤ s + l.length * M
  | [], _, s, hs, _ => by simp; exact hs
  | x :: l, h, s, hs, hb => by
    have hx := h x (by simp)
    have ha : 0 ≤ absI x ∧ absI x ≤ M := by unfold absI; split <;> omega
    have hlen : ((x :: l).length : Int) * M = (l.length : Int) * M + M := by
      rw [List.length_cons, show ((l.length + 1 : Nat) : Int) = (l.length : Int) + 1 by omega, Int.add_mul, Int.one_mul]
    have hp : 0 ≤ (l.length : Int) * M := Int.mul_nonneg (by omega) hM
    rw [hlen] at hb
    have he : add s (absI x) = s + absI x := by
      unfold add; rw [hold_in s (by omega) (by omega), hold_in (absI x) (by omega) (by omega), hold_in _ (by omega) (by omega)]
    simp only [List.foldl_cons]
    rw [he, hlen]
    have := rsum_le M hM l (fun y hy => h y (by simp [hy])) (s + absI x) (by omega) (by omega)
    omega
theorem rough_le (l : List Int) (hn : l.length ≤ 200) (h : ∀ x ∈ l, Far x) : 0 ≤ rough l ∧ rough l ≤ 879609302220800 := by
  have h1 := d1_le l 1099511627776 (by omega) (by omega) h
  have h2 := d1_le (d1 l) (2 * 1099511627776) (by omega) (by omega) h1
  have hl : (d1 (d1 l)).length = l.length := by rw [d1_len, d1_len]
  have h3 := rsum_le (2 * (2 * 1099511627776)) (by omega) (d1 (d1 l)) h2 0 (by omega) (by rw [hl]; omega)
  rw [hl] at h3
  unfold rough rsum; omega
theorem rsum_zero (n : Nat) : rsum (List.replicate n 0) = 0 := by
  induction n with
  | zero => rfl
  | succ n ih => rw [List.replicate_succ', rsum_snoc, ih]; decide
theorem rough_zero (n : Nat) : rough (List.replicate n 0) = 0 := by unfold rough; rw [d1_zero, d1_zero, rsum_zero]
/-- a number that is not too far from 0 -/
def near (x : Int) : Int := if 1099511627776 < x ∨ x < -1099511627776 then x / 16777216 else x
theorem near_far (x : Int) (h1 : -9223372036854775808 ≤ x) (h2 : x ≤ 9223372036854775807) : Far (near x) := by
  unfold near Far; split <;> omega
/-- differences of differences, so often -/
def dn (l : List Int) : Nat → List Int
  | 0 => l
  | r + 1 => d1 (dn l r)
theorem dn_len (l : List Int) (r : Nat) : (dn l r).length = l.length := by
  induction r with
  | zero => rfl
  | succ r ih => show (d1 (dn l r)).length = _; rw [d1_len, ih]
end Go.Proofs.Ytjeiglckkjkkdaa.Pl
