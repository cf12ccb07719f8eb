/- Plain: the targets, sample by sample. No Go in sight. -/
import Derived.Test.YtjehichejggfbaaShapeP
namespace Go.Proofs.Ytjehichejggfbaa.Pl
set_option linter.unusedVariables false
/-- the targets, and the misses, of the first i samples -/
def trun (k : Int) (xs ys : List Int) : Nat → List Int × List Int
  | 0 => ([], [])
  | i + 1 =>
    let p := trun k xs ys i
    let t := tgt k (mth p.2 0) (mth p.2 1) (mth p.2 2) (xs.getD i 0)
    (p.1 ++ [t], p.2 ++ [miss (ys.getD i 0) t])
def tnow (k : Int) (xs ys : List Int) (i : Nat) : Int := tgt k (mth (trun k xs ys i).2 0) (mth (trun k xs ys i).2 1) (mth (trun k xs ys i).2 2) (xs.getD i 0)
theorem trun_fst (k : Int) (xs ys : List Int) (i : Nat) : (trun k xs ys (i + 1)).1 = (trun k xs ys i).1 ++ [tnow k xs ys i] := rfl
theorem trun_snd (k : Int) (xs ys : List Int) (i : Nat) : (trun k xs ys (i + 1)).2 = (trun k xs ys i).2 ++ [miss (ys.getD i 0) (tnow k xs ys i)] := rfl
theorem trun_len (k : Int) (xs ys : List Int) (i : Nat) : (trun k xs ys i).1.length = i ∧ (trun k xs ys i).2.length = i := by
  induction i with
  | zero => exact ⟨rfl, rfl⟩
  | succ i ih => rw [trun_fst, trun_snd]; simp [ih.1, ih.2]
theorem trun_small (k : Int) (xs ys : List Int) (i : Nat) : ∀ x ∈ (trun k xs ys i).2, Small x := by
  induction i with
  | zero => intro x hx; simp [trun] at hx
  | succ i ih =>
    rw [trun_snd]
    intro x hx
    rcases List.mem_append.1 hx with h | h
    · exact ih x h
    · simp at h; subst h; exact small_miss _ _
theorem trun_get (k : Int) (xs ys : List Int) (n i : Nat) (h : i < n) : (trun k xs ys n).1[i]? = some (tnow k xs ys i) := by
  induction n with
  | zero => omega
  | succ n ih =>
    rw [trun_fst]
    have hl := (trun_len k xs ys n).1
    rcases Nat.lt_or_ge i n with h1 | h1
    · rw [List.getElem?_append_left (by omega)]; exact ih h1
    · obtain rfl : i = n := by omega
      rw [List.getElem?_append_right (by omega), hl]; simp
/-- no target is further than 2^29 from its sample, held -/
theorem tnow_near (k : Int) (xs ys : List Int) (i : Nat) (x : Int) (hx : xs[i]? = some x) : -536870912 ≤ tnow k xs ys i - clamp x (-4294967296) 4294967296 ∧ tnow k xs ys i - clamp x (-4294967296) 4294967296 ≤ 536870912 := by
  have hs := trun_small k xs ys i
  have h := parts_le (k := k) (mth_small hs 0) (mth_small hs 1) (mth_small hs 2)
  have e : xs.getD i 0 = x := by rw [List.getD_eq_getElem?_getD, hx]; rfl
  unfold tnow tgt sum3; rw [e, floor16]; omega
theorem tnow_le (k : Int) (xs ys : List Int) (i : Nat) : -4529848320 ≤ tnow k xs ys i ∧ tnow k xs ys i ≤ 4529848321 := by
  have hs := trun_small k xs ys i
  exact tgt_le (mth_small hs 0) (mth_small hs 1) (mth_small hs 2)
def loud (x : Int) : Int := clamp x (-4294967296) 4294967296
theorem loud_le (x : Int) : -4294967296 ≤ loud x ∧ loud x ≤ 4294967296 := clamp_le _ _ _ (by omega)
theorem loud_loud (x : Int) : loud (loud x) = loud x := by have := loud_le x; exact clamp_in _ _ _ this.1 this.2
/-- with kind 0 each target is the sample, held -/
theorem trun_zero (xs ys : List Int) (n : Nat) (h : n ≤ xs.length) : (trun 0 xs ys n).1 = (xs.take n).map loud := by
  induction n with
  | zero => rfl
  | succ n ih =>
    rw [trun_fst, ih (by omega), List.take_add_one, List.getElem?_eq_getElem (by omega)]
    simp only [Option.toList_some, List.map_append, List.map_cons, List.map_nil]
    congr 2
    unfold tnow tgt sum3 loud
    rw [List.getD_eq_getElem?_getD, List.getElem?_eq_getElem (by omega)]
    simp [w0, w1, w2, floor]
theorem trun_low (xs ys : List Int) : (trun 0 (xs.map loud) ys xs.length).1 = xs.map loud := by
  rw [trun_zero _ _ _ (by simp)]
  rw [List.take_of_length_le (by simp), List.map_map]
  congr 1; funext x; exact loud_loud x
theorem tgt_quiet (k x : Int) : tgt k 0 0 0 (loud x) = loud x := by
  unfold tgt sum3; rw [show clamp (loud x) (-4294967296) 4294967296 = loud x from loud_loud x]; simp [floor]
theorem miss_quiet (x : Int) : miss (loud x) (loud x) = 0 := by
  unfold miss; rw [show clamp (loud x) (-4294967296) 4294967296 = loud x from loud_loud x]; simp [clamp]
end Go.Proofs.Ytjehichejggfbaa.Pl
