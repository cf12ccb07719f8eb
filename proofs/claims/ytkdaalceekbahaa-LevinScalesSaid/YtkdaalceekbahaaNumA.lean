/- The walks of num's functions (and of the reference's) that only compute: each returns what the plain function of Num says, for every int; the world is as it was. -/
import Derived.Test.YtkdaalceekbahaaRows
import Derived.Test.YtkdaalceekbahaaNum
import Derived.Test.YtkdaalceekbahaaShelf
import Derived.WalkKit
import Derived.WalkSpells
import Derived.WalkLawsBesides
import Derived.Lib.Hide
namespace Go.Proofs.Ytkdaalceekbahaa
open Go.RowKit
theorem ret_int {k : IntKind} {a b : Int} (h : a = b) : Ending.returned (.int k a) = .returned (.int k b) := by rw [h]
theorem ret_two {k l : IntKind} {a b c d : Int} (h : a = c) (h' : b = d) : Ending.returned (.tuple #[.int k a, .int l b]) = .returned (.tuple #[.int k c, .int l d]) := by rw [h, h']
theorem ret_bool {a b : Bool} (h : a = b) : Ending.returned (.bool a) = .returned (.bool b) := by rw [h]

set_option maxHeartbeats 400000 in
theorem hold_p (x : Int) (w : World) : Calls Try.prog 17 #[.int .i64 x] w fun e w' => e = .returned (.int .i64 (Pl.hold x)) ∧ w = w' := by
  go_enter Try.func17, Try.ntmps17
  go_wp2
  all_goals (go_ret; exact ⟨ret_int (by unfold Pl.hold; repeat' split
                                        all_goals omega), rfl⟩)
set_option maxHeartbeats 400000 in
theorem hold_r (x : Int) (w : World) : Calls Try.prog 20 #[.int .i64 x] w fun e w' => e = .returned (.int .i64 (Pl.hold x)) ∧ w = w' := by
  go_enter Try.func20, Try.ntmps20
  go_wp2
  all_goals (go_ret; exact ⟨ret_int (by unfold Pl.hold; repeat' split
                                        all_goals omega), rfl⟩)
set_option maxHeartbeats 400000 in
theorem clamp_p (x l h : Int) (w : World) : Calls Try.prog 19 #[.int .i64 x, .int .i64 l, .int .i64 h] w fun e w' => e = .returned (.int .i64 (Pl.clamp x l h)) ∧ w = w' := by
  by_cases h1 : x < l
  · go_enter Try.func19, Try.ntmps19
    go_wp2
    go_ret
    exact ⟨ret_int (by unfold Pl.clamp; rw [if_pos (.inl h1)]), rfl⟩
  · by_cases h2 : h < l
    · go_enter Try.func19, Try.ntmps19
      go_wp2
      go_ret
      exact ⟨ret_int (by unfold Pl.clamp; rw [if_pos (.inr h2)]), rfl⟩
    · by_cases h3 : h < x
      · go_enter Try.func19, Try.ntmps19
        go_wp2
        go_ret
        exact ⟨ret_int (by unfold Pl.clamp; rw [if_neg (by omega), if_pos h3]), rfl⟩
      · go_enter Try.func19, Try.ntmps19
        go_wp2
        go_ret
        exact ⟨ret_int (by unfold Pl.clamp; rw [if_neg (by omega), if_neg (by omega)]), rfl⟩
set_option maxHeartbeats 400000 in
theorem clamp_r (x l h : Int) (w : World) : Calls Try.prog 32 #[.int .i64 x, .int .i64 l, .int .i64 h] w fun e w' => e = .returned (.int .i64 (Pl.clamp x l h)) ∧ w = w' := by
  by_cases h1 : x < l
  · go_enter Try.func32, Try.ntmps32
    go_wp2
    go_ret
    exact ⟨ret_int (by unfold Pl.clamp; rw [if_pos (.inl h1)]), rfl⟩
  · by_cases h2 : h < l
    · go_enter Try.func32, Try.ntmps32
      go_wp2
      go_ret
      exact ⟨ret_int (by unfold Pl.clamp; rw [if_pos (.inr h2)]), rfl⟩
    · by_cases h3 : h < x
      · go_enter Try.func32, Try.ntmps32
        go_wp2
        go_ret
        exact ⟨ret_int (by unfold Pl.clamp; rw [if_neg (by omega), if_pos h3]), rfl⟩
      · go_enter Try.func32, Try.ntmps32
        go_wp2
        go_ret
        exact ⟨ret_int (by unfold Pl.clamp; rw [if_neg (by omega), if_neg (by omega)]), rfl⟩
set_option maxHeartbeats 400000 in
theorem floor_p (a b : Int) (ha : -9223372036854775808 ≤ a) (ha' : a ≤ 9223372036854775807) (w : World) : Calls Try.prog 30 #[.int .i64 a, .int .i64 b] w fun e w' => e = .returned (.int .i64 (Pl.floor a b)) ∧ w = w' := by
  by_cases h1 : b < 1
  · go_enter Try.func30, Try.ntmps30
    go_wp2
    go_ret
    exact ⟨ret_int (by unfold Pl.floor; rw [if_pos h1]), rfl⟩
  · go_enter Try.func30, Try.ntmps30
    go_wp2
    · go_ret
      exact ⟨ret_int (Pl.floor_no (by omega) ha ha' ‹_›), rfl⟩
    · go_ret
      exact ⟨ret_int (Pl.floor_yes (by omega) ‹_›), rfl⟩
set_option maxHeartbeats 400000 in
theorem floor_r (a b : Int) (ha : -9223372036854775808 ≤ a) (ha' : a ≤ 9223372036854775807) (w : World) : Calls Try.prog 21 #[.int .i64 a, .int .i64 b] w fun e w' => e = .returned (.int .i64 (Pl.floor a b)) ∧ w = w' := by
  by_cases h1 : b < 1
  · go_enter Try.func21, Try.ntmps21
    go_wp2
    go_ret
    exact ⟨ret_int (by unfold Pl.floor; rw [if_pos h1]), rfl⟩
  · have hs := Pl.tmod_sign a b (by omega)
    have Hs := Lib.hid hs; clear hs
    go_enter Try.func21, Try.ntmps21
    go_wp2
    · go_ret
      have h2 : a < 0 := by assumption
      have h3 : (a.tmod b != 0) = true := by assumption
      rw [bne_iff_ne] at h3
      exact ⟨ret_int (Pl.floor_no (by omega) ha ha' (by have := Hs.out.2 h2; omega)), rfl⟩
    · go_ret
      have h3 : (a.tmod b != 0) = false := by assumption
      rw [bne_eq_false_iff_eq] at h3
      exact ⟨ret_int (Pl.floor_yes (by omega) (by omega)), rfl⟩
    · go_ret
      have h2 : 0 ≤ a := by assumption
      exact ⟨ret_int (Pl.floor_yes (by omega) (Hs.out.1 h2)), rfl⟩
set_option maxHeartbeats 400000 in
theorem power_r (n : Int) (w : World) : Calls Try.prog 22 #[.int .i64 n] w fun e w' => e = .returned (.int .i64 (Pl.pow n)) ∧ w = w' := by
  go_enter Try.func22, Try.ntmps22
  go_wp2
  go_loop [3, 4] (fun p i => ∃ k : Nat, k ≤ 62 ∧ (k : Int) ≤ max n 0 ∧ p = .int .i64 (Pl.pow k) ∧ i = .int .i64 k) (fun _ i => 62 - (intOf i).toNat)
  case atStart => exact ⟨0, by omega, by omega, rfl, rfl⟩
  case round =>
    obtain ⟨k, hk, hn, rfl, rfl⟩ := hrel
    have hp := Pl.pow_le k
    by_cases h1 : (k : Int) < n
    · by_cases h2 : k < 62
      · have hs := Pl.pow_succ k (by omega) (by omega)
        have Hs := Lib.hid hs; clear hs
        have hq := Pl.pow_le (k + 1)
        rw [Hs.out] at hq
        go_wp2
        go_round
        case rel => exact ⟨k + 1, by omega, by omega, by rw [show ((k + 1 : Nat) : Int) = (k : Int) + 1 by omega, Hs.out], by go_num⟩
        case measure => simp [intOf]; omega
      · have e : Pl.pow k = Pl.pow n := by rw [Pl.pow_top (by omega), Pl.pow_top (by omega)]
        have E := Lib.hid e; clear e
        go_wp2
        go_ret
        exact ⟨ret_int E.out, rfl⟩
    · have e : Pl.pow k = Pl.pow n := by
        by_cases h0 : 0 ≤ n
        · rw [show (k : Int) = n by omega]
        · rw [Pl.pow_one (by omega), Pl.pow_one (by omega)]
      have E := Lib.hid e; clear e
      go_wp2
      go_ret
      exact ⟨ret_int E.out, rfl⟩
set_option maxHeartbeats 400000 in
theorem width_p (x : Int) (h1 : 0 ≤ x) (h2 : x ≤ 18446744073709551615) (w : World) : Calls Try.prog 16 #[.int .u64 x] w fun e w' => e = .returned (.int .i64 (Pl.width x)) ∧ w = w' := by
  go_enter Try.func16, Try.ntmps16
  go_wp2_with (go_at_call 28; refine (Try.bits_Len _ _ (by omega) (by omega)).mono ?_; rintro e w' ⟨rfl, rfl⟩)
  go_ret
  exact ⟨rfl, rfl⟩
end Go.Proofs.Ytkdaalceekbahaa
