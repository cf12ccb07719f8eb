/- Plain: what turning two lists, and turning them back, comes to: the lists, and the error. No Go in sight. -/
import Derived.Test.YtjeiglckkjkkdaaJointP
namespace Go.Proofs.Ytjeiglckkjkkdaa.Pl
set_option linter.unusedVariables false
def turnE (m n : Int) (xs ys : List Int) : Int :=
  if may m n = false then 1 else if xs.length = ys.length then (if loudB xs n = true ∨ loudB ys n = true then 21 else 0) else 22
def turnC (m n : Int) (xs ys : List Int) : List Int := if turnE m n xs ys = 0 then map2 (ta m) xs ys else []
def turnD (m n : Int) (xs ys : List Int) : List Int := if turnE m n xs ys = 0 then map2 (tb m) xs ys else []
def backE (m n : Int) (xs ys : List Int) : Int :=
  if may m n = false then 1 else if xs.length = ys.length then
    (if loudB xs (wa m n) = true ∨ loudB ys (wb m n) = true then 21 else if loudB (map2 (ba m) xs ys) n = true ∨ loudB (map2 (bb m) xs ys) n = true then 21 else 0) else 22
def backC (m n : Int) (xs ys : List Int) : List Int := if backE m n xs ys = 0 then map2 (ba m) xs ys else []
def backD (m n : Int) (xs ys : List Int) : List Int := if backE m n xs ys = 0 then map2 (bb m) xs ys else []
theorem turnE_may {m n : Int} {xs ys : List Int} (h : may m n = false) : turnE m n xs ys = 1 := by unfold turnE; rw [if_pos h]
theorem turnE_len {m n : Int} {xs ys : List Int} (h : may m n = true) (hl : xs.length ≠ ys.length) : turnE m n xs ys = 22 := by
  unfold turnE; rw [if_neg (by simp [h]), if_neg hl]
theorem turnE_loud {m n : Int} {xs ys : List Int} (h : may m n = true) (hl : xs.length = ys.length) (hs : loudB xs n = true ∨ loudB ys n = true) : turnE m n xs ys = 21 := by
  unfold turnE; rw [if_neg (by simp [h]), if_pos hl, if_pos hs]
theorem turnE_ok {m n : Int} {xs ys : List Int} (h : may m n = true) (hl : xs.length = ys.length) (hx : loudB xs n = false) (hy : loudB ys n = false) : turnE m n xs ys = 0 := by
  unfold turnE; rw [if_neg (by simp [h]), if_pos hl, if_neg (by simp [hx, hy])]
theorem turnC_no {m n : Int} {xs ys : List Int} {E : Int} (h : turnE m n xs ys = E) (hE : E ≠ 0) : turnC m n xs ys = [] ∧ turnD m n xs ys = [] := by
  unfold turnC turnD; rw [if_neg (by rw [h]; exact hE), if_neg (by rw [h]; exact hE)]; exact ⟨rfl, rfl⟩
theorem turnC_ok {m n : Int} {xs ys : List Int} (h : turnE m n xs ys = 0) : turnC m n xs ys = map2 (ta m) xs ys ∧ turnD m n xs ys = map2 (tb m) xs ys := by
  unfold turnC turnD; rw [if_pos h, if_pos h]; exact ⟨rfl, rfl⟩
theorem backE_may {m n : Int} {xs ys : List Int} (h : may m n = false) : backE m n xs ys = 1 := by unfold backE; rw [if_pos h]
theorem backE_len {m n : Int} {xs ys : List Int} (h : may m n = true) (hl : xs.length ≠ ys.length) : backE m n xs ys = 22 := by
  unfold backE; rw [if_neg (by simp [h]), if_neg hl]
theorem backE_loud {m n : Int} {xs ys : List Int} (h : may m n = true) (hl : xs.length = ys.length) (hs : loudB xs (wa m n) = true ∨ loudB ys (wb m n) = true) : backE m n xs ys = 21 := by
  unfold backE; rw [if_neg (by simp [h]), if_pos hl, if_pos hs]
theorem backE_loud2 {m n : Int} {xs ys : List Int} (h : may m n = true) (hl : xs.length = ys.length) (hs : loudB (map2 (ba m) xs ys) n = true ∨ loudB (map2 (bb m) xs ys) n = true) : backE m n xs ys = 21 := by
  unfold backE; rw [if_neg (by simp [h]), if_pos hl, if_pos hs]; split <;> rfl
theorem backE_ok {m n : Int} {xs ys : List Int} (h : may m n = true) (hl : xs.length = ys.length) (hx : loudB xs (wa m n) = false) (hy : loudB ys (wb m n) = false) (hx2 : loudB (map2 (ba m) xs ys) n = false) (hy2 : loudB (map2 (bb m) xs ys) n = false) : backE m n xs ys = 0 := by
  unfold backE; rw [if_neg (by simp [h]), if_pos hl, if_neg (by simp [hx, hy]), if_neg (by simp [hx2, hy2])]
theorem backC_no {m n : Int} {xs ys : List Int} {E : Int} (h : backE m n xs ys = E) (hE : E ≠ 0) : backC m n xs ys = [] ∧ backD m n xs ys = [] := by
  unfold backC backD; rw [if_neg (by rw [h]; exact hE), if_neg (by rw [h]; exact hE)]; exact ⟨rfl, rfl⟩
theorem backC_ok {m n : Int} {xs ys : List Int} (h : backE m n xs ys = 0) : backC m n xs ys = map2 (ba m) xs ys ∧ backD m n xs ys = map2 (bb m) xs ys := by
  unfold backC backD; rw [if_pos h, if_pos h]; exact ⟨rfl, rfl⟩
theorem wide_far {xs : List Int} {n : Int} (hn : n ≤ 32) (h : loudB xs n = false) : ∀ x ∈ xs, Far x := fun x hx => fits_far hn (loudB_false h x hx)
theorem wa_le {m n : Int} (h : n ≤ 31) : wa m n ≤ 32 := by unfold wa; split <;> omega
theorem wb_le {m n : Int} (h : n ≤ 31) : wb m n ≤ 32 := by unfold wb; split <;> omega
theorem turnE_zero {m n : Int} {xs ys : List Int} (h : turnE m n xs ys = 0) : may m n = true ∧ xs.length = ys.length ∧ loudB xs n = false ∧ loudB ys n = false := by
  unfold turnE at h
  rcases hm : may m n
  · simp [hm] at h
  · rw [if_neg (by simp [hm])] at h
    by_cases hl : xs.length = ys.length
    · rw [if_pos hl] at h
      by_cases hs : loudB xs n = true ∨ loudB ys n = true
      · rw [if_pos hs] at h; simp at h
      · simp at hs; exact ⟨rfl, hl, hs.1, hs.2⟩
    · rw [if_neg hl] at h; simp at h
theorem backE_zero {m n : Int} {xs ys : List Int} (h : backE m n xs ys = 0) : may m n = true ∧ xs.length = ys.length ∧ loudB xs (wa m n) = false ∧ loudB ys (wb m n) = false ∧ loudB (map2 (ba m) xs ys) n = false ∧ loudB (map2 (bb m) xs ys) n = false := by
  unfold backE at h
  rcases hm : may m n
  · simp [hm] at h
  · rw [if_neg (by simp [hm])] at h
    by_cases hl : xs.length = ys.length
    · rw [if_pos hl] at h
      by_cases hs : loudB xs (wa m n) = true ∨ loudB ys (wb m n) = true
      · rw [if_pos hs] at h; simp at h
      · rw [if_neg hs] at h
        by_cases hs2 : loudB (map2 (ba m) xs ys) n = true ∨ loudB (map2 (bb m) xs ys) n = true
        · rw [if_pos hs2] at h; simp at h
        · simp at hs hs2; exact ⟨rfl, hl, hs.1, hs.2, hs2.1, hs2.2⟩
    · rw [if_neg hl] at h; simp at h
/-- what is turned fits its widths -/
theorem turn_fits {m n : Int} {xs ys : List Int} (h : turnE m n xs ys = 0) : loudB (map2 (ta m) xs ys) (wa m n) = false ∧ loudB (map2 (tb m) xs ys) (wb m n) = false := by
  obtain ⟨hm, hl, hx, hy⟩ := turnE_zero h
  obtain ⟨m1, m2, m3, m4⟩ := may_yes hm
  refine ⟨loudB_of ?_, loudB_of ?_⟩
  · exact map2_all (ta m) (fun x => fits x n = true) (fun x => fits x (wa m n) = true) xs ys (loudB_false hx) (loudB_false hy) (fun x y h1 h2 => ta_fits m3 m4 h1 h2)
  · exact map2_all (tb m) (fun x => fits x n = true) (fun x => fits x (wb m n) = true) xs ys (loudB_false hx) (loudB_false hy) (fun x y h1 h2 => tb_fits m3 m4 h1 h2)
/-- what is turned is turned back -/
theorem turn_back {m n : Int} {xs ys : List Int} (h : turnE m n xs ys = 0) : backE m n (map2 (ta m) xs ys) (map2 (tb m) xs ys) = 0 ∧ map2 (ba m) (map2 (ta m) xs ys) (map2 (tb m) xs ys) = xs ∧ map2 (bb m) (map2 (ta m) xs ys) (map2 (tb m) xs ys) = ys := by
  obtain ⟨hm, hl, hx, hy⟩ := turnE_zero h
  obtain ⟨f1, f2⟩ := turn_fits h
  have e1 := map2_back (ta m) (tb m) (ba m) (ba_ta m) xs ys hl
  have e2 := map2_back' (ta m) (tb m) (bb m) (bb_tb m) xs ys hl
  refine ⟨backE_ok hm ?_ f1 f2 (by rw [e1]; exact hx) (by rw [e2]; exact hy), e1, e2⟩
  rw [map2_len _ _ _ hl, map2_len _ _ _ hl]
theorem back_turn {m n : Int} {xs ys : List Int} (h : backE m n xs ys = 0) : turnE m n (map2 (ba m) xs ys) (map2 (bb m) xs ys) = 0 ∧ map2 (ta m) (map2 (ba m) xs ys) (map2 (bb m) xs ys) = xs ∧ map2 (tb m) (map2 (ba m) xs ys) (map2 (bb m) xs ys) = ys := by
  obtain ⟨hm, hl, hx, hy, hx2, hy2⟩ := backE_zero h
  refine ⟨turnE_ok hm ?_ hx2 hy2, map2_back (ba m) (bb m) (ta m) (ta_ba m) xs ys hl, map2_back' (ba m) (bb m) (tb m) (tb_bb m) xs ys hl⟩
  rw [map2_len _ _ _ hl, map2_len _ _ _ hl]
end Go.Proofs.Ytjeiglckkjkkdaa.Pl
