/- The walks of levin's and the document's small functions. -/
import Derived.Test.YtkdaalceekbahaaNumA
import Derived.Test.YtkdaalceekbahaaLevinP
import Derived.Test.YtkdaalceekbahaaOwn
import Derived.Test.YtkdaalceekbahaaInts
namespace Go.Proofs.Ytkdaalceekbahaa
open Go.RowKit
set_option linter.unusedVariables false
set_option maxHeartbeats 400000 in
theorem moved_up (x b : Int) (w : World) (h0 : 0 ≤ b) (h1 : b ≤ 62) (hx : -9223372036854775808 ≤ x * Pl.pow b ∧ x * Pl.pow b ≤ 9223372036854775807) : Calls Try.prog 18 #[.int .i64 x, .int .i64 b] w fun e w' => e = .returned (.int .i64 (x * Pl.pow b)) ∧ w = w' := by
  have hd : decide (b < 0) = false := by simp; omega
  have e1 := Pl.pow_bits b h0 h1
  go_enter Try.func18, Try.ntmps18
  go_wp2_with fail
  go_ret
  exact ⟨rfl, rfl⟩
set_option maxHeartbeats 400000 in
theorem moved_dn (x b : Int) (w : World) (h0 : b < 0) (h1 : -62 ≤ b) : Calls Try.prog 18 #[.int .i64 x, .int .i64 b] w fun e w' => e = .returned (.int .i64 (x / Pl.pow (-b))) ∧ w = w' := by
  have e1 := Pl.pow_bits (-b) (by omega) (by omega)
  go_enter Try.func18, Try.ntmps18
  go_wp2_with fail
  go_ret
  exact ⟨rfl, rfl⟩
theorem mul_keep {A B : Int} (hB : 1 ≤ B) (h0 : 0 ≤ A) (h : A ≤ 4611686018427387904 / B) : 0 ≤ A * B ∧ A * B ≤ 4611686018427387904 := by
  have := (Pl.mul_le_M A B 4611686018427387904 hB).1 h
  exact ⟨Int.mul_nonneg h0 (by omega), this⟩
theorem mul_over {A B : Int} (hB : 1 ≤ B) (h : ¬ A ≤ 4611686018427387904 / B) : 4611686018427387904 < A * B := by
  rw [Pl.mul_le_M A B _ hB] at h; omega
set_option maxHeartbeats 800000 in
theorem mul_r (a b : Int) (hb1 : 1 ≤ b) (hb2 : b ≤ 4611686018427387904) (w : World) : Calls Try.prog 23 #[.int .i64 a, .int .i64 b] w fun e w' => e = .returned (.int .i64 (Pl.mul a b)) ∧ w = w' := by
  have h1 := Pl.hold_le a
  have hB := Pl.hold_in b (by omega) hb2
  unfold Pl.mul
  rw [hB]
  generalize hA : Pl.hold a = A at *
  have hp : 0 < b := by omega
  have hz : (b == 0) = false := by simp; omega
  have hn : decide (b < 0) = false := by simp; omega
  have et : Int.tdiv 4611686018427387904 b = 4611686018427387904 / b := Int.tdiv_eq_ediv_of_nonneg (by omega)
  have hq := Pl.quo_range 4611686018427387904 b hb1 (by omega) (by omega)
  rcases Int.lt_trichotomy A 0 with h | h | h
  · have hz2 : (A == 0) = false := by simp; omega
    have hg : decide (0 < A) = false := by simp; omega
    by_cases hc : -A ≤ 4611686018427387904 / b
    · have hk := mul_keep hb1 (by omega) hc
      have ew : wrap64 (-A * b) = -A * b := IntWalk.wrap64_in _ (by omega)
      have er : A * b = -(-A * b) := by rw [Int.neg_mul, Int.neg_neg]
      rw [er, Pl.hold_in _ (by omega) (by omega)]
      clear er
      generalize hm : -A * b = M at *
      go_enter Try.func23, Try.ntmps23
      go_wp2_with (go_at_call 20; refine (hold_r _ _).mono ?_; rintro e w' ⟨rfl, rfl⟩; try rw [hA]; try rw [hB])
      go_ret
      exact ⟨rfl, rfl⟩
    · have hk := mul_over hb1 hc
      have hc2 : decide (-A ≤ 4611686018427387904 / b) = false := by simpa using hc
      have er : A * b = -(-A * b) := by rw [Int.neg_mul, Int.neg_neg]
      have eh : Pl.hold (A * b) = -4611686018427387904 := by rw [er]; unfold Pl.hold; rw [if_pos (by omega)]
      rw [eh]
      clear er eh hk
      go_enter Try.func23, Try.ntmps23
      go_wp2_with (go_at_call 20; refine (hold_r _ _).mono ?_; rintro e w' ⟨rfl, rfl⟩; try rw [hA]; try rw [hB])
      go_ret
      exact ⟨rfl, rfl⟩
  · subst h
    rw [Int.zero_mul]
    go_enter Try.func23, Try.ntmps23
    go_wp2_with (go_at_call 20; refine (hold_r _ _).mono ?_; rintro e w' ⟨rfl, rfl⟩)
    go_ret
    exact ⟨rfl, rfl⟩
  · have hz2 : (A == 0) = false := by simp; omega
    have hg : decide (A < 0) = false := by simp; omega
    by_cases hc : A ≤ 4611686018427387904 / b
    · have hk := mul_keep hb1 (by omega) hc
      have ew : wrap64 (A * b) = A * b := IntWalk.wrap64_in _ (by omega)
      rw [Pl.hold_in _ (by omega) (by omega)]
      generalize hm : A * b = M at *
      go_enter Try.func23, Try.ntmps23
      go_wp2_with (go_at_call 20; refine (hold_r _ _).mono ?_; rintro e w' ⟨rfl, rfl⟩; try rw [hA]; try rw [hB])
      go_ret
      exact ⟨rfl, rfl⟩
    · have hk := mul_over hb1 hc
      have hc2 : decide (A ≤ 4611686018427387904 / b) = false := by simpa using hc
      have eh : Pl.hold (A * b) = 4611686018427387904 := by unfold Pl.hold; rw [if_neg (by omega), if_pos (by omega)]
      rw [eh]
      clear eh hk
      go_enter Try.func23, Try.ntmps23
      go_wp2_with (go_at_call 20; refine (hold_r _ _).mono ?_; rintro e w' ⟨rfl, rfl⟩; try rw [hA]; try rw [hB])
      go_ret
      exact ⟨rfl, rfl⟩
end Go.Proofs.Ytkdaalceekbahaa
