/- Plain: the sum that the reference makes of all misses is the one of the last three. No Go in sight. -/
import Derived.Test.YtjehichejggfbaaNum
namespace Go.Proofs.Ytjehichejggfbaa.Pl
set_option linter.unusedVariables false
def w0 (k : Int) : Int := if k = 1 then 15 else if k = 2 then 24 else if k = 3 then 30 else 0
def w1 (k : Int) : Int := if k = 2 then -9 else if k = 3 then -21 else 0
def w2 (k : Int) : Int := if k = 3 then 5 else 0
def wl (k : Int) : List Int := if k = 1 then [15] else if k = 2 then [24, -9] else if k = 3 then [30, -21, 5] else []
def sum3 (k a b c : Int) : Int := w0 k * a + w1 k * b + w2 k * c
def miss (y l : Int) : Int := clamp (clamp y (-4294967296) 4294967296 - l) (-67108864) 67108864
def tgt (k a b c x : Int) : Int := clamp x (-4294967296) 4294967296 - floor (sum3 k a b c) 16
def Small (a : Int) : Prop := -67108864 ≤ a ∧ a ≤ 67108864
theorem small0 : Small 0 := by unfold Small; omega
theorem small_miss (y l : Int) : Small (miss y l) := clamp_le _ _ _ (by omega)
theorem parts_le {k a b c : Int} (ha : Small a) (hb : Small b) (hc : Small c) : -2013265920 ≤ w0 k * a ∧ w0 k * a ≤ 2013265920 ∧ -1409286144 ≤ w1 k * b ∧ w1 k * b ≤ 1409286144 ∧ -335544320 ≤ w2 k * c ∧ w2 k * c ≤ 335544320 := by
  unfold Small at *
  by_cases h1 : k = 1
  · subst h1; simp [w0, w1, w2]; omega
  · by_cases h2 : k = 2
    · subst h2; simp [w0, w1, w2]; omega
    · by_cases h3 : k = 3
      · subst h3; simp [w0, w1, w2]; omega
      · unfold w0 w1 w2; rw [if_neg h1, if_neg h2, if_neg h3, if_neg h2, if_neg h3, if_neg h3]; omega
theorem floor16 (a : Int) : floor a 16 = a / 16 := by unfold floor; rw [if_neg (by omega)]
theorem tgt_le {k a b c x : Int} (ha : Small a) (hb : Small b) (hc : Small c) : -4529848320 ≤ tgt k a b c x ∧ tgt k a b c x ≤ 4529848321 := by
  have h := parts_le (k := k) ha hb hc
  have h2 := clamp_le x (-4294967296) 4294967296 (by omega)
  unfold tgt sum3; rw [floor16]; omega
/-- the i-th miss from the end -/
def mth (ms : List Int) (i : Nat) : Int := ms.reverse.getD i 0
theorem mth_get {ms : List Int} {i : Nat} {x : Int} (h : i < ms.length) (hx : ms[ms.length - 1 - i]? = some x) : mth ms i = x := by
  unfold mth
  rw [List.getD_eq_getElem?_getD, List.getElem?_reverse h, hx]; rfl
theorem mth_out {ms : List Int} {i : Nat} (h : ms.length ≤ i) : mth ms i = 0 := by
  unfold mth; rw [List.getD_eq_getElem?_getD, List.getElem?_eq_none (by simpa using h)]; rfl
theorem mth_small {ms : List Int} (h : ∀ x ∈ ms, Small x) (i : Nat) : Small (mth ms i) := by
  rcases Nat.lt_or_ge i ms.length with h1 | h1
  · have hx := List.getElem?_eq_getElem (l := ms) (i := ms.length - 1 - i) (by omega)
    rw [mth_get h1 hx]
    exact h _ (List.getElem_mem _)
  · rw [mth_out h1]; exact small0
theorem mth_snoc_zero (ms : List Int) (x : Int) : mth (ms ++ [x]) 0 = x := by unfold mth; simp
theorem mth_snoc_succ (ms : List Int) (x : Int) (i : Nat) : mth (ms ++ [x]) (i + 1) = mth ms i := by unfold mth; simp
def psum (k : Int) (ms : List Int) : Nat → Int
  | 0 => 0
  | j + 1 => psum k ms j + (wl k).getD j 0 * mth ms j
theorem psum_zero (k : Int) (ms : List Int) : psum k ms 0 = 0 := rfl
theorem psum_succ (k : Int) (ms : List Int) (j : Nat) : psum k ms (j + 1) = psum k ms j + (wl k).getD j 0 * mth ms j := rfl
theorem psum_le (k : Int) (ms : List Int) (h0 : 0 ≤ k) (h3 : k ≤ 3) (hs : ∀ x ∈ ms, Small x) (j : Nat) (hj : j ≤ 3) : -6039797760 ≤ psum k ms j ∧ psum k ms j ≤ 6039797760 := by
  have a := mth_small hs 0; have b := mth_small hs 1; have c := mth_small hs 2
  unfold Small at a b c
  rcases (show k = 0 ∨ k = 1 ∨ k = 2 ∨ k = 3 by omega) with rfl | rfl | rfl | rfl <;>
    rcases (show j = 0 ∨ j = 1 ∨ j = 2 ∨ j = 3 by omega) with rfl | rfl | rfl | rfl <;>
    simp [psum, wl] <;> omega
theorem term_le (k : Int) (ms : List Int) (h0 : 0 ≤ k) (h3 : k ≤ 3) (hs : ∀ x ∈ ms, Small x) (j : Nat) (hj : j < 3) : -2013265920 ≤ (wl k).getD j 0 * mth ms j ∧ (wl k).getD j 0 * mth ms j ≤ 2013265920 := by
  have a := mth_small hs 0; have b := mth_small hs 1; have c := mth_small hs 2
  unfold Small at a b c
  rcases (show k = 0 ∨ k = 1 ∨ k = 2 ∨ k = 3 by omega) with rfl | rfl | rfl | rfl <;>
    rcases (show j = 0 ∨ j = 1 ∨ j = 2 by omega) with rfl | rfl | rfl <;>
    simp [wl] <;> omega
theorem psum_end (k : Int) (ms : List Int) (j : Nat) (h0 : 0 ≤ k) (h3 : k ≤ 3) (hj : (j : Int) ≤ k) (hjn : j ≤ ms.length) (h : (j : Int) = k ∨ j = ms.length) :
    psum k ms j = sum3 k (mth ms 0) (mth ms 1) (mth ms 2) := by
  rcases (show k = 0 ∨ k = 1 ∨ k = 2 ∨ k = 3 by omega) with rfl | rfl | rfl | rfl
  · rw [show j = 0 by omega]; simp [psum, sum3, w0, w1, w2]
  · rcases (show j = 0 ∨ j = 1 by omega) with rfl | rfl
    · rw [mth_out (i := 0) (by omega)]; simp [psum, sum3, w1, w2]
    · simp [psum, wl, sum3, w0, w1, w2]
  · rcases (show j = 0 ∨ j = 1 ∨ j = 2 by omega) with rfl | rfl | rfl
    · rw [mth_out (i := 0) (by omega), mth_out (i := 1) (by omega)]; simp [psum, sum3, w2]
    · rw [mth_out (i := 1) (by omega)]; simp [psum, wl, sum3, w0, w2]
    · simp [psum, wl, sum3, w0, w1, w2]
  · rcases (show j = 0 ∨ j = 1 ∨ j = 2 ∨ j = 3 by omega) with rfl | rfl | rfl | rfl
    · rw [mth_out (i := 0) (by omega), mth_out (i := 1) (by omega), mth_out (i := 2) (by omega)]; simp [psum, sum3]
    · rw [mth_out (i := 1) (by omega), mth_out (i := 2) (by omega)]; simp [psum, wl, sum3, w0]
    · rw [mth_out (i := 2) (by omega)]; simp [psum, wl, sum3, w0, w1]
    · simp [psum, wl, sum3, w0, w1, w2]
end Go.Proofs.Ytjehichejggfbaa.Pl
