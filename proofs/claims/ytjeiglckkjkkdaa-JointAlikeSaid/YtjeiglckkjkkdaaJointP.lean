/- Plain: two samples made others, and back; lists of them. No Go in sight. -/
import Derived.Test.YtjeiglckkjkkdaaNum
namespace Go.Proofs.Ytjeiglckkjkkdaa.Pl
set_option linter.unusedVariables false
def may (m n : Int) : Bool := decide (0 ≤ m ∧ m ≤ 3 ∧ 1 ≤ n ∧ n ≤ 31)
def wa (m n : Int) : Int := if m = 2 then n + 1 else n
def wb (m n : Int) : Int := if m = 1 ∨ m = 3 then n + 1 else n
def ta (m a b : Int) : Int := if m = 2 then a - b else if m = 3 then (a + b) / 2 else a
def tb (m a b : Int) : Int := if m = 1 ∨ m = 2 ∧ False then a - b else if m = 3 then a - b else b
def ba (m c d : Int) : Int := if m = 2 then c + d else if m = 3 then (2 * c + d % 2 + d) / 2 else c
def bb (m c d : Int) : Int := if m = 1 then c - d else if m = 3 then (2 * c + d % 2 - d) / 2 else d
def loudB (xs : List Int) (n : Int) : Bool := xs.any fun x => !fits x n
def Far (x : Int) : Prop := -1099511627776 ≤ x ∧ x ≤ 1099511627776
theorem may_yes {m n : Int} (h : may m n = true) : 0 ≤ m ∧ m ≤ 3 ∧ 1 ≤ n ∧ n ≤ 31 := by unfold may at h; simpa using h
theorem may_no {m n : Int} (h : may m n = false) : m < 0 ∨ 3 < m ∨ n < 1 ∨ 31 < n := by
  unfold may at h; rw [decide_eq_false_iff_not] at h; omega
theorem tb_eq (m a b : Int) : tb m a b = if m = 1 ∨ m = 3 then a - b else b := by
  unfold tb; by_cases h1 : m = 1
  · subst h1; simp
  · by_cases h3 : m = 3
    · subst h3; simp
    · simp [h1, h3]
theorem pow_31 {n : Int} (h : n ≤ 32) : pow (n - 1) ≤ 2147483648 := by
  have := pow_mono (show n - 1 ≤ 31 by omega)
  rwa [show pow 31 = 2147483648 by decide] at this
theorem fits_far {x n : Int} (hn : n ≤ 32) (h : fits x n = true) : Far x := by
  unfold fits at h; rw [decide_eq_true_eq] at h
  have := pow_31 hn; unfold Far; omega
theorem ta_far {m a b : Int} (ha : Far a) (hb : Far b) : -2199023255552 ≤ ta m a b ∧ ta m a b ≤ 2199023255552 := by
  unfold Far at *; unfold ta; repeat' split
  all_goals omega
theorem tb_far {m a b : Int} (ha : Far a) (hb : Far b) : -2199023255552 ≤ tb m a b ∧ tb m a b ≤ 2199023255552 := by
  unfold Far at *; rw [tb_eq]; split <;> omega
theorem ba_far {m a b : Int} (ha : Far a) (hb : Far b) : -2199023255553 ≤ ba m a b ∧ ba m a b ≤ 2199023255553 := by
  unfold Far at *; unfold ba; repeat' split
  all_goals omega
theorem bb_far {m a b : Int} (ha : Far a) (hb : Far b) : -2199023255553 ≤ bb m a b ∧ bb m a b ≤ 2199023255553 := by
  unfold Far at *; unfold bb; repeat' split
  all_goals omega
theorem ba_ta (m a b : Int) : ba m (ta m a b) (tb m a b) = a := by
  rw [tb_eq]; unfold ba ta; repeat' split
  all_goals omega
theorem bb_tb (m a b : Int) : bb m (ta m a b) (tb m a b) = b := by
  rw [tb_eq]; unfold bb ta; repeat' split
  all_goals omega
theorem ta_ba (m c d : Int) : ta m (ba m c d) (bb m c d) = c := by
  unfold ba bb ta; repeat' split
  all_goals omega
theorem tb_bb (m c d : Int) : tb m (ba m c d) (bb m c d) = d := by
  rw [tb_eq]; unfold ba bb; repeat' split
  all_goals omega
theorem fits_iff {x n : Int} (h1 : 1 ≤ n) (h2 : n ≤ 62) : fits x n = true ↔ -pow (n - 1) ≤ x ∧ x ≤ pow (n - 1) - 1 := by
  unfold fits; rw [decide_eq_true_eq]; omega
theorem ta_fits {m a b n : Int} (h1 : 1 ≤ n) (h2 : n ≤ 31) (ha : fits a n = true) (hb : fits b n = true) : fits (ta m a b) (wa m n) = true := by
  have hp := pow_two (n := n + 1 - 1) (by omega) (by omega)
  rw [show n + 1 - 1 - 1 = n - 1 by omega] at hp
  rw [fits_iff h1 (by omega)] at ha hb
  unfold ta wa
  by_cases hm : m = 2
  · rw [if_pos hm, if_pos hm, fits_iff (by omega) (by omega)]; omega
  · rw [if_neg hm, if_neg hm, fits_iff h1 (by omega)]; split <;> omega
theorem tb_fits {m a b n : Int} (h1 : 1 ≤ n) (h2 : n ≤ 31) (ha : fits a n = true) (hb : fits b n = true) : fits (tb m a b) (wb m n) = true := by
  have hp := pow_two (n := n + 1 - 1) (by omega) (by omega)
  rw [show n + 1 - 1 - 1 = n - 1 by omega] at hp
  rw [fits_iff h1 (by omega)] at ha hb
  rw [tb_eq]; unfold wb
  by_cases hm : m = 1 ∨ m = 3
  · rw [if_pos hm, if_pos hm, fits_iff (by omega) (by omega)]; omega
  · rw [if_neg hm, if_neg hm, fits_iff h1 (by omega)]; omega
/-! ### lists -/
def map2 (f : Int → Int → Int) : List Int → List Int → List Int
  | x :: xs, y :: ys => f x y :: map2 f xs ys
  | _, _ => []
theorem map2_len (f : Int → Int → Int) : ∀ (xs ys : List Int), xs.length = ys.length → (map2 f xs ys).length = xs.length
  | [], [], _ => rfl
  | x :: xs, y :: ys, h => by simp only [map2, List.length_cons] at *; rw [map2_len f xs ys (by omega)]
  | [], _ :: _, h => by simp at h
  | _ :: _, [], h => by simp at h
theorem map2_get (f : Int → Int → Int) : ∀ (xs ys : List Int) (i : Nat) (x y : Int), xs[i]? = some x → ys[i]? = some y → (map2 f xs ys)[i]? = some (f x y)
  | a :: xs, b :: ys, 0, x, y, hx, hy => by simp at hx hy; subst hx; subst hy; rfl
  | a :: xs, b :: ys, i + 1, x, y, hx, hy => by simp at hx hy; simp only [map2, List.getElem?_cons_succ]; exact map2_get f xs ys i x y hx hy
  | [], _, i, x, y, hx, hy => by simp at hx
  | _ :: _, [], i, x, y, hx, hy => by simp at hy
theorem map2_take (f : Int → Int → Int) (xs ys : List Int) (i : Nat) (x y : Int) (hx : xs[i]? = some x) (hy : ys[i]? = some y) : (map2 f xs ys).take (i + 1) = (map2 f xs ys).take i ++ [f x y] := by
  rw [List.take_add_one, map2_get f xs ys i x y hx hy]; rfl
theorem map2_all (f : Int → Int → Int) (p : Int → Prop) (q : Int → Prop) : ∀ (xs ys : List Int), (∀ x ∈ xs, p x) → (∀ y ∈ ys, p y) → (∀ x y, p x → p y → q (f x y)) → ∀ z ∈ map2 f xs ys, q z
  | [], _, _, _, _, z, hz => by simp [map2] at hz
  | _ :: _, [], _, _, _, z, hz => by simp [map2] at hz
  | a :: xs, b :: ys, h1, h2, h, z, hz => by
    simp only [map2, List.mem_cons] at hz
    rcases hz with rfl | hz
    · exact h _ _ (h1 a (by simp)) (h2 b (by simp))
    · exact map2_all f p q xs ys (fun x hx => h1 x (by simp [hx])) (fun y hy => h2 y (by simp [hy])) h z hz
theorem map2_back (f g h : Int → Int → Int) (hf : ∀ x y, h (f x y) (g x y) = x) : ∀ (xs ys : List Int), xs.length = ys.length → map2 h (map2 f xs ys) (map2 g xs ys) = xs
  | [], [], _ => rfl
  | x :: xs, y :: ys, hl => by simp only [map2, List.length_cons] at *; rw [hf, map2_back f g h hf xs ys (by omega)]
  | [], _ :: _, hl => by simp at hl
  | _ :: _, [], hl => by simp at hl
theorem map2_back' (f g h : Int → Int → Int) (hf : ∀ x y, h (f x y) (g x y) = y) : ∀ (xs ys : List Int), xs.length = ys.length → map2 h (map2 f xs ys) (map2 g xs ys) = ys
  | [], [], _ => rfl
  | x :: xs, y :: ys, hl => by simp only [map2, List.length_cons] at *; rw [hf, map2_back' f g h hf xs ys (by omega)]
  | [], _ :: _, hl => by simp at hl
  | _ :: _, [], hl => by simp at hl
theorem loudB_false {xs : List Int} {n : Int} (h : loudB xs n = false) : ∀ x ∈ xs, fits x n = true := by
  intro x hx
  unfold loudB at h
  rw [List.any_eq_false] at h
  have := h x hx; simpa using this
theorem loudB_of {xs : List Int} {n : Int} (h : ∀ x ∈ xs, fits x n = true) : loudB xs n = false := by
  unfold loudB; rw [List.any_eq_false]
  intro x hx; simp [h x hx]
theorem loudB_nil (n : Int) : loudB [] n = false := rfl
theorem loudB_true {xs : List Int} {n : Int} {i : Nat} {x : Int} (hx : xs[i]? = some x) (h : fits x n = false) : loudB xs n = true := by
  unfold loudB; rw [List.any_eq_true]
  exact ⟨x, List.mem_of_getElem? hx, by simp [h]⟩
theorem take_fits {xs : List Int} {n : Int} {i : Nat} {x : Int} (hx : xs[i]? = some x) (hp : ∀ y ∈ xs.take i, fits y n = true) (h : fits x n = true) : ∀ y ∈ xs.take (i + 1), fits y n = true := by
  intro y hy
  rw [List.take_add_one, hx] at hy
  rcases List.mem_append.1 hy with h1 | h1
  · exact hp y h1
  · simp at h1; subst h1; exact h
end Go.Proofs.Ytjeiglckkjkkdaa.Pl
