/- The walks of num's functions (and of the reference's) that only compute: each returns what the plain function of Num says, for every int; the world is as it was. -/
import Derived.Test.YtjehichejggfbaaRows
import Derived.Test.YtjehichejggfbaaNum
import Derived.WalkKit
import Derived.WalkSpells
import Derived.WalkLawsBesides
import Derived.Lib.Hide
namespace Go.Proofs.Ytjehichejggfbaa
open Go.RowKit
theorem ret_int {k : IntKind} {a b : Int} (h : a = b) : Ending.returned (.int k a) = .returned (.int k b) := by rw [h]
theorem ret_two {k l : IntKind} {a b c d : Int} (h : a = c) (h' : b = d) : Ending.returned (.tuple #[.int k a, .int l b]) = .returned (.tuple #[.int k c, .int l d]) := by rw [h, h']
theorem ret_bool {a b : Bool} (h : a = b) : Ending.returned (.bool a) = .returned (.bool b) := by rw [h]

set_option maxHeartbeats 400000 in
theorem clamp_p (x l h : Int) (w : World) : Calls Try.prog 24 #[.int .i64 x, .int .i64 l, .int .i64 h] w fun e w' => e = .returned (.int .i64 (Pl.clamp x l h)) ∧ w = w' := by
  by_cases h1 : x < l
  · go_enter Try.func24, Try.ntmps24
    go_wp2
    go_ret
    exact ⟨ret_int (by unfold Pl.clamp; rw [if_pos (.inl h1)]), rfl⟩
  · by_cases h2 : h < l
    · go_enter Try.func24, Try.ntmps24
      go_wp2
      go_ret
      exact ⟨ret_int (by unfold Pl.clamp; rw [if_pos (.inr h2)]), rfl⟩
    · by_cases h3 : h < x
      · go_enter Try.func24, Try.ntmps24
        go_wp2
        go_ret
        exact ⟨ret_int (by unfold Pl.clamp; rw [if_neg (by omega), if_pos h3]), rfl⟩
      · go_enter Try.func24, Try.ntmps24
        go_wp2
        go_ret
        exact ⟨ret_int (by unfold Pl.clamp; rw [if_neg (by omega), if_neg (by omega)]), rfl⟩
set_option maxHeartbeats 400000 in
theorem clamp_r (x l h : Int) (w : World) : Calls Try.prog 26 #[.int .i64 x, .int .i64 l, .int .i64 h] w fun e w' => e = .returned (.int .i64 (Pl.clamp x l h)) ∧ w = w' := by
  by_cases h1 : x < l
  · go_enter Try.func26, Try.ntmps26
    go_wp2
    go_ret
    exact ⟨ret_int (by unfold Pl.clamp; rw [if_pos (.inl h1)]), rfl⟩
  · by_cases h2 : h < l
    · go_enter Try.func26, Try.ntmps26
      go_wp2
      go_ret
      exact ⟨ret_int (by unfold Pl.clamp; rw [if_pos (.inr h2)]), rfl⟩
    · by_cases h3 : h < x
      · go_enter Try.func26, Try.ntmps26
        go_wp2
        go_ret
        exact ⟨ret_int (by unfold Pl.clamp; rw [if_neg (by omega), if_pos h3]), rfl⟩
      · go_enter Try.func26, Try.ntmps26
        go_wp2
        go_ret
        exact ⟨ret_int (by unfold Pl.clamp; rw [if_neg (by omega), if_neg (by omega)]), rfl⟩
set_option maxHeartbeats 400000 in
theorem floor_p (a b : Int) (ha : -9223372036854775808 ≤ a) (ha' : a ≤ 9223372036854775807) (w : World) : Calls Try.prog 25 #[.int .i64 a, .int .i64 b] w fun e w' => e = .returned (.int .i64 (Pl.floor a b)) ∧ w = w' := by
  by_cases h1 : b < 1
  · go_enter Try.func25, Try.ntmps25
    go_wp2
    go_ret
    exact ⟨ret_int (by unfold Pl.floor; rw [if_pos h1]), rfl⟩
  · go_enter Try.func25, Try.ntmps25
    go_wp2
    · go_ret
      exact ⟨ret_int (Pl.floor_no (by omega) ha ha' ‹_›), rfl⟩
    · go_ret
      exact ⟨ret_int (Pl.floor_yes (by omega) ‹_›), rfl⟩
set_option maxHeartbeats 400000 in
theorem floor_r (a b : Int) (ha : -9223372036854775808 ≤ a) (ha' : a ≤ 9223372036854775807) (w : World) : Calls Try.prog 22 #[.int .i64 a, .int .i64 b] w fun e w' => e = .returned (.int .i64 (Pl.floor a b)) ∧ w = w' := by
  by_cases h1 : b < 1
  · go_enter Try.func22, Try.ntmps22
    go_wp2
    go_ret
    exact ⟨ret_int (by unfold Pl.floor; rw [if_pos h1]), rfl⟩
  · have hs := Pl.tmod_sign a b (by omega)
    have Hs := Lib.hid hs; clear hs
    go_enter Try.func22, Try.ntmps22
    go_wp2
    · go_ret
      have h2 : a < 0 := by assumption
      have h3 : (a.tmod b != 0) = true := by assumption
      rw [bne_iff_ne] at h3
      exact ⟨ret_int (Pl.floor_no (by omega) ha ha' (by have := Hs.out.2 h2; omega)), rfl⟩
    · go_ret
      have h3 : (a.tmod b != 0) = false := by assumption
      rw [bne_eq_false_iff_eq] at h3
      exact ⟨ret_int (Pl.floor_yes (by omega) (by omega)), rfl⟩
    · go_ret
      have h2 : 0 ≤ a := by assumption
      exact ⟨ret_int (Pl.floor_yes (by omega) (Hs.out.1 h2)), rfl⟩
end Go.Proofs.Ytjehichejggfbaa
