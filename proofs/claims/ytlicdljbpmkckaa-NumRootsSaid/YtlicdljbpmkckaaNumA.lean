/- The walks of num's functions (and of the reference's) that only compute: each returns what the plain function of Num says, for every int; the world is as it was. -/
import Derived.Test.YtlicdljbpmkckaaRows
import Derived.Test.YtlicdljbpmkckaaNum
import Derived.Test.YtlicdljbpmkckaaShelf
import Derived.WalkKit
import Derived.WalkSpells
import Derived.WalkLawsBesides
import Derived.Lib.Hide
namespace Go.Proofs.Ytlicdljbpmkckaa
open Go.RowKit
theorem ret_int {k : IntKind} {a b : Int} (h : a = b) : Ending.returned (.int k a) = .returned (.int k b) := by rw [h]
theorem ret_two {k l : IntKind} {a b c d : Int} (h : a = c) (h' : b = d) : Ending.returned (.tuple #[.int k a, .int l b]) = .returned (.tuple #[.int k c, .int l d]) := by rw [h, h']
theorem ret_bool {a b : Bool} (h : a = b) : Ending.returned (.bool a) = .returned (.bool b) := by rw [h]

set_option maxHeartbeats 400000 in
theorem hold_p (x : Int) (w : World) : Calls Try.prog 32 #[.int .i64 x] w fun e w' => e = .returned (.int .i64 (Pl.hold x)) ∧ w = w' := by
  go_enter Try.func32, Try.ntmps32
  go_wp2
  all_goals (go_ret; exact ⟨ret_int (by unfold Pl.hold; repeat' split
                                        all_goals omega), rfl⟩)
set_option maxHeartbeats 400000 in
theorem hold_r (x : Int) (w : World) : Calls Try.prog 33 #[.int .i64 x] w fun e w' => e = .returned (.int .i64 (Pl.hold x)) ∧ w = w' := by
  go_enter Try.func33, Try.ntmps33
  go_wp2
  all_goals (go_ret; exact ⟨ret_int (by unfold Pl.hold; repeat' split
                                        all_goals omega), rfl⟩)
set_option maxHeartbeats 400000 in
theorem clamp_p (x l h : Int) (w : World) : Calls Try.prog 22 #[.int .i64 x, .int .i64 l, .int .i64 h] w fun e w' => e = .returned (.int .i64 (Pl.clamp x l h)) ∧ w = w' := by
  by_cases h1 : x < l
  · go_enter Try.func22, Try.ntmps22
    go_wp2
    go_ret
    exact ⟨ret_int (by unfold Pl.clamp; rw [if_pos (.inl h1)]), rfl⟩
  · by_cases h2 : h < l
    · go_enter Try.func22, Try.ntmps22
      go_wp2
      go_ret
      exact ⟨ret_int (by unfold Pl.clamp; rw [if_pos (.inr h2)]), rfl⟩
    · by_cases h3 : h < x
      · go_enter Try.func22, Try.ntmps22
        go_wp2
        go_ret
        exact ⟨ret_int (by unfold Pl.clamp; rw [if_neg (by omega), if_pos h3]), rfl⟩
      · go_enter Try.func22, Try.ntmps22
        go_wp2
        go_ret
        exact ⟨ret_int (by unfold Pl.clamp; rw [if_neg (by omega), if_neg (by omega)]), rfl⟩
set_option maxHeartbeats 400000 in
theorem clamp_r (x l h : Int) (w : World) : Calls Try.prog 23 #[.int .i64 x, .int .i64 l, .int .i64 h] w fun e w' => e = .returned (.int .i64 (Pl.clamp x l h)) ∧ w = w' := by
  by_cases h1 : x < l
  · go_enter Try.func23, Try.ntmps23
    go_wp2
    go_ret
    exact ⟨ret_int (by unfold Pl.clamp; rw [if_pos (.inl h1)]), rfl⟩
  · by_cases h2 : h < l
    · go_enter Try.func23, Try.ntmps23
      go_wp2
      go_ret
      exact ⟨ret_int (by unfold Pl.clamp; rw [if_pos (.inr h2)]), rfl⟩
    · by_cases h3 : h < x
      · go_enter Try.func23, Try.ntmps23
        go_wp2
        go_ret
        exact ⟨ret_int (by unfold Pl.clamp; rw [if_neg (by omega), if_pos h3]), rfl⟩
      · go_enter Try.func23, Try.ntmps23
        go_wp2
        go_ret
        exact ⟨ret_int (by unfold Pl.clamp; rw [if_neg (by omega), if_neg (by omega)]), rfl⟩
set_option maxHeartbeats 400000 in
theorem floor_p (a b : Int) (ha : -9223372036854775808 ≤ a) (ha' : a ≤ 9223372036854775807) (w : World) : Calls Try.prog 28 #[.int .i64 a, .int .i64 b] w fun e w' => e = .returned (.int .i64 (Pl.floor a b)) ∧ w = w' := by
  by_cases h1 : b < 1
  · go_enter Try.func28, Try.ntmps28
    go_wp2
    go_ret
    exact ⟨ret_int (by unfold Pl.floor; rw [if_pos h1]), rfl⟩
  · go_enter Try.func28, Try.ntmps28
    go_wp2
    · go_ret
      exact ⟨ret_int (Pl.floor_no (by omega) ha ha' ‹_›), rfl⟩
    · go_ret
      exact ⟨ret_int (Pl.floor_yes (by omega) ‹_›), rfl⟩
set_option maxHeartbeats 400000 in
theorem floor_r (a b : Int) (ha : -9223372036854775808 ≤ a) (ha' : a ≤ 9223372036854775807) (w : World) : Calls Try.prog 30 #[.int .i64 a, .int .i64 b] w fun e w' => e = .returned (.int .i64 (Pl.floor a b)) ∧ w = w' := by
  by_cases h1 : b < 1
  · go_enter Try.func30, Try.ntmps30
    go_wp2
    go_ret
    exact ⟨ret_int (by unfold Pl.floor; rw [if_pos h1]), rfl⟩
  · have hs := Pl.tmod_sign a b (by omega)
    have Hs := Lib.hid hs; clear hs
    go_enter Try.func30, Try.ntmps30
    go_wp2
    · go_ret
      have h2 : a < 0 := by assumption
      have h3 : (a.tmod b != 0) = true := by assumption
      rw [bne_iff_ne] at h3
      exact ⟨ret_int (Pl.floor_no (by omega) ha ha' (by have := Hs.out.2 h2; omega)), rfl⟩
    · go_ret
      have h3 : (a.tmod b != 0) = false := by assumption
      rw [bne_eq_false_iff_eq] at h3
      exact ⟨ret_int (Pl.floor_yes (by omega) (by omega)), rfl⟩
    · go_ret
      have h2 : 0 ≤ a := by assumption
      exact ⟨ret_int (Pl.floor_yes (by omega) (Hs.out.1 h2)), rfl⟩
set_option maxHeartbeats 400000 in
theorem mod_p (a b : Int) (hb' : b ≤ 9223372036854775807) (w : World) : Calls Try.prog 29 #[.int .i64 a, .int .i64 b] w fun e w' => e = .returned (.int .i64 (Pl.mod a b)) ∧ w = w' := by
  by_cases h1 : b < 1
  · go_enter Try.func29, Try.ntmps29
    go_wp2
    go_ret
    exact ⟨ret_int (by unfold Pl.mod; rw [if_pos h1]), rfl⟩
  · go_enter Try.func29, Try.ntmps29
    go_wp2
    · go_ret
      exact ⟨ret_int (Pl.mod_no (by omega) hb' ‹_›), rfl⟩
    · go_ret
      exact ⟨ret_int (Pl.mod_yes (by omega) ‹_›), rfl⟩
set_option maxHeartbeats 400000 in
theorem mod_r (a b : Int) (hb' : b ≤ 9223372036854775807) (w : World) : Calls Try.prog 31 #[.int .i64 a, .int .i64 b] w fun e w' => e = .returned (.int .i64 (Pl.mod a b)) ∧ w = w' := by
  by_cases h1 : b < 1
  · go_enter Try.func31, Try.ntmps31
    go_wp2
    go_ret
    exact ⟨ret_int (by unfold Pl.mod; rw [if_pos h1]), rfl⟩
  · go_enter Try.func31, Try.ntmps31
    go_wp2
    · go_ret
      exact ⟨ret_int (Pl.mod_no (by omega) hb' ‹_›), rfl⟩
    · go_ret
      exact ⟨ret_int (Pl.mod_yes (by omega) ‹_›), rfl⟩
set_option maxHeartbeats 400000 in
theorem power_r (n : Int) (w : World) : Calls Try.prog 34 #[.int .i64 n] w fun e w' => e = .returned (.int .i64 (Pl.pow n)) ∧ w = w' := by
  go_enter Try.func34, Try.ntmps34
  go_wp2
  go_loop [3, 4] (fun p i => ∃ k : Nat, k ≤ 62 ∧ (k : Int) ≤ max n 0 ∧ p = .int .i64 (Pl.pow k) ∧ i = .int .i64 k) (fun _ i => 62 - (intOf i).toNat)
  case atStart => exact ⟨0, by omega, by omega, rfl, rfl⟩
  case round =>
    obtain ⟨k, hk, hn, rfl, rfl⟩ := hrel
    have hp := Pl.pow_le k
    by_cases h1 : (k : Int) < n
    · by_cases h2 : k < 62
      · have hs := Pl.pow_succ k (by omega) (by omega)
        have Hs := Lib.hid hs; clear hs
        have hq := Pl.pow_le (k + 1)
        rw [Hs.out] at hq
        go_wp2
        go_round
        case rel => exact ⟨k + 1, by omega, by omega, by rw [show ((k + 1 : Nat) : Int) = (k : Int) + 1 by omega, Hs.out], by go_num⟩
        case measure => simp [intOf]; omega
      · have e : Pl.pow k = Pl.pow n := by rw [Pl.pow_top (by omega), Pl.pow_top (by omega)]
        have E := Lib.hid e; clear e
        go_wp2
        go_ret
        exact ⟨ret_int E.out, rfl⟩
    · have e : Pl.pow k = Pl.pow n := by
        by_cases h0 : 0 ≤ n
        · rw [show (k : Int) = n by omega]
        · rw [Pl.pow_one (by omega), Pl.pow_one (by omega)]
      have E := Lib.hid e; clear e
      go_wp2
      go_ret
      exact ⟨ret_int E.out, rfl⟩
set_option maxHeartbeats 400000 in
theorem range_p (n : Int) (w : World) : Calls Try.prog 18 #[.int .i64 n] w fun e w' => e = .returned (.tuple #[.int .i64 (Pl.lo n), .int .i64 (Pl.hi n)]) ∧ w = w' := by
  by_cases h1 : n < 1
  · go_enter Try.func18, Try.ntmps18
    go_wp2
    go_ret2
    exact ⟨ret_two (by unfold Pl.lo; rw [if_pos (.inl h1)]) (by unfold Pl.hi; rw [if_pos (.inl h1)]), rfl⟩
  · by_cases h2 : 62 < n
    · go_enter Try.func18, Try.ntmps18
      go_wp2
      go_ret2
      exact ⟨ret_two (by unfold Pl.lo; rw [if_pos (.inr h2)]) (by unfold Pl.hi; rw [if_pos (.inr h2)]), rfl⟩
    · go_enter Try.func18, Try.ntmps18
      go_wp2
      go_ret2
      exact ⟨ret_two (Pl.lo_bits n (by omega) (by omega)) (Pl.hi_bits n (by omega) (by omega)), rfl⟩
set_option maxHeartbeats 400000 in
theorem range_r (n : Int) (w : World) : Calls Try.prog 19 #[.int .i64 n] w fun e w' => e = .returned (.tuple #[.int .i64 (Pl.lo n), .int .i64 (Pl.hi n)]) ∧ w = w' := by
  by_cases h1 : n < 1
  · go_enter Try.func19, Try.ntmps19
    go_wp2
    go_ret2
    exact ⟨ret_two (by unfold Pl.lo; rw [if_pos (.inl h1)]) (by unfold Pl.hi; rw [if_pos (.inl h1)]), rfl⟩
  · by_cases h2 : 62 < n
    · go_enter Try.func19, Try.ntmps19
      go_wp2
      go_ret2
      exact ⟨ret_two (by unfold Pl.lo; rw [if_pos (.inr h2)]) (by unfold Pl.hi; rw [if_pos (.inr h2)]), rfl⟩
    · have hp := Pl.pow_le (n - 1)
      go_enter Try.func19, Try.ntmps19
      go_wp2_with (go_at_call 34; refine (power_r _ _).mono ?_; rintro e w' ⟨rfl, rfl⟩)
      go_ret2
      exact ⟨ret_two (by unfold Pl.lo; rw [if_neg (by omega)]) (by unfold Pl.hi; rw [if_neg (by omega)]), rfl⟩
set_option maxHeartbeats 400000 in
theorem fits_p (x n : Int) (w : World) : Calls Try.prog 20 #[.int .i64 x, .int .i64 n] w fun e w' => e = .returned (.bool (Pl.fits x n)) ∧ w = w' := by
  by_cases h1 : Pl.lo n < 0
  · by_cases h2 : Pl.lo n ≤ x
    · go_enter Try.func20, Try.ntmps20
      go_wp2_with (go_at_call 18; refine (range_p _ _).mono ?_; rintro e w' ⟨rfl, rfl⟩)
      go_ret
      exact ⟨ret_bool (Pl.fits_1 x n h1 h2), rfl⟩
    · have hd : decide (Pl.lo n ≤ x) = false := by simpa using h2
      go_enter Try.func20, Try.ntmps20
      go_wp2_with (go_at_call 18; refine (range_p _ _).mono ?_; rintro e w' ⟨rfl, rfl⟩)
      go_ret
      exact ⟨ret_bool (Pl.fits_2 x n (.inr (by omega))), rfl⟩
  · have hd : decide (Pl.lo n < 0) = false := by simpa using h1
    go_enter Try.func20, Try.ntmps20
    go_wp2_with (go_at_call 18; refine (range_p _ _).mono ?_; rintro e w' ⟨rfl, rfl⟩)
    go_ret
    exact ⟨ret_bool (Pl.fits_2 x n (.inl (by omega))), rfl⟩
set_option maxHeartbeats 400000 in
theorem fits_r (x n : Int) (w : World) : Calls Try.prog 21 #[.int .i64 x, .int .i64 n] w fun e w' => e = .returned (.bool (Pl.fits x n)) ∧ w = w' := by
  have hp := Pl.pow_le (n - 1)
  by_cases h1 : 1 ≤ n
  · by_cases h2 : n ≤ 62
    · by_cases h3 : -Pl.pow (n - 1) ≤ x
      · go_enter Try.func21, Try.ntmps21
        go_wp2_with (go_at_call 34; refine (power_r _ _).mono ?_; rintro e w' ⟨rfl, rfl⟩)
        go_ret
        exact ⟨ret_bool (by unfold Pl.fits; rw [decide_eq_decide]; omega), rfl⟩
      · have hd : decide (-Pl.pow (n - 1) ≤ x) = false := by simpa using h3
        go_enter Try.func21, Try.ntmps21
        go_wp2_with (go_at_call 34; refine (power_r _ _).mono ?_; rintro e w' ⟨rfl, rfl⟩)
        go_ret
        exact ⟨ret_bool (by unfold Pl.fits; symm; rw [decide_eq_false_iff_not]; omega), rfl⟩
    · have hd : decide (n ≤ 62) = false := by simpa using h2
      go_enter Try.func21, Try.ntmps21
      go_wp2_with fail
      go_ret
      exact ⟨ret_bool (by unfold Pl.fits; symm; rw [decide_eq_false_iff_not]; omega), rfl⟩
  · have hd : decide (1 ≤ n) = false := by simpa using h1
    go_enter Try.func21, Try.ntmps21
    go_wp2_with fail
    go_ret
    exact ⟨ret_bool (by unfold Pl.fits; symm; rw [decide_eq_false_iff_not]; omega), rfl⟩
set_option maxHeartbeats 400000 in
theorem round_p (a n : Int) (w : World) : Calls Try.prog 9 #[.int .i64 a, .int .i64 n] w fun e w' => e = .returned (.int .i64 (Pl.round a n)) ∧ w = w' := by
  have h1 := Pl.hold_le a
  have h2 := Pl.clamp_le n 0 62 (by omega)
  by_cases h0 : Pl.clamp n 0 62 = 0
  · have H1 : (Pl.clamp n 0 62 == 0) = true := beq_iff_eq.2 h0
    have H0 := Lib.hid h0; clear h0
    go_enter Try.func9, Try.ntmps9
    go_wp2_with (first
      | (go_at_call 32; refine (hold_p _ _).mono ?_; rintro e w' ⟨rfl, rfl⟩)
      | (go_at_call 22; refine (clamp_p _ _ _ _).mono ?_; rintro e w' ⟨rfl, rfl⟩))
    go_ret
    exact ⟨ret_int (Pl.round_none a n H0.out), rfl⟩
  · have H1 : (Pl.clamp n 0 62 == 0) = false := beq_eq_false_iff_ne.2 h0
    go_enter Try.func9, Try.ntmps9
    go_wp2_with (first
      | (go_at_call 32; refine (hold_p _ _).mono ?_; rintro e w' ⟨rfl, rfl⟩)
      | (go_at_call 22; refine (clamp_p _ _ _ _).mono ?_; rintro e w' ⟨rfl, rfl⟩))
    go_ret
    exact ⟨ret_int (Pl.round_bits a n h0), rfl⟩
set_option maxHeartbeats 400000 in
theorem round_r (a n : Int) (w : World) : Calls Try.prog 10 #[.int .i64 a, .int .i64 n] w fun e w' => e = .returned (.int .i64 (Pl.round a n)) ∧ w = w' := by
  have h1 := Pl.hold_le a
  have h2 := Pl.pow_le n
  by_cases h0 : n < 1
  · go_enter Try.func10, Try.ntmps10
    go_wp2_with (first
      | (go_at_call 33; refine (hold_r _ _).mono ?_; rintro e w' ⟨rfl, rfl⟩)
      | (go_at_call 34; refine (power_r _ _).mono ?_; rintro e w' ⟨rfl, rfl⟩)
      | (go_at_call 30; refine (floor_r _ _ (by omega) (by omega) _).mono ?_; rintro e w' ⟨rfl, rfl⟩)
      | (go_at_call 31; refine (mod_r _ _ (by omega) _).mono ?_; rintro e w' ⟨rfl, rfl⟩))
    go_ret
    exact ⟨ret_int (by unfold Pl.round; rw [if_pos h0]), rfl⟩
  · have hq := Pl.floor_le (Pl.hold a) (Pl.pow n) (by omega)
    by_cases h3 : Pl.pow n / 2 ≤ Pl.mod (Pl.hold a) (Pl.pow n)
    · go_enter Try.func10, Try.ntmps10
      go_wp2_with (first
      | (go_at_call 33; refine (hold_r _ _).mono ?_; rintro e w' ⟨rfl, rfl⟩)
      | (go_at_call 34; refine (power_r _ _).mono ?_; rintro e w' ⟨rfl, rfl⟩)
      | (go_at_call 30; refine (floor_r _ _ (by omega) (by omega) _).mono ?_; rintro e w' ⟨rfl, rfl⟩)
      | (go_at_call 31; refine (mod_r _ _ (by omega) _).mono ?_; rintro e w' ⟨rfl, rfl⟩))
      go_ret
      exact ⟨ret_int (Pl.round_up a n (by omega) h3), rfl⟩
    · go_enter Try.func10, Try.ntmps10
      go_wp2_with (first
      | (go_at_call 33; refine (hold_r _ _).mono ?_; rintro e w' ⟨rfl, rfl⟩)
      | (go_at_call 34; refine (power_r _ _).mono ?_; rintro e w' ⟨rfl, rfl⟩)
      | (go_at_call 30; refine (floor_r _ _ (by omega) (by omega) _).mono ?_; rintro e w' ⟨rfl, rfl⟩)
      | (go_at_call 31; refine (mod_r _ _ (by omega) _).mono ?_; rintro e w' ⟨rfl, rfl⟩))
      go_ret
      exact ⟨ret_int (Pl.round_down a n (by omega) (by omega)), rfl⟩
set_option maxHeartbeats 400000 in
theorem zig_p (x : Int) (h1 : -9223372036854775808 ≤ x) (h2 : x ≤ 9223372036854775807) (w : World) : Calls Try.prog 14 #[.int .i64 x] w fun e w' => e = .returned (.int .u64 (Pl.zig x)) ∧ w = w' := by
  go_enter Try.func14, Try.ntmps14
  go_wp2
  go_ret
  exact ⟨ret_int (Pl.zig_bits x h1 h2), rfl⟩
set_option maxHeartbeats 400000 in
theorem zag_p (x : Int) (h1 : 0 ≤ x) (h2 : x ≤ 18446744073709551615) (w : World) : Calls Try.prog 16 #[.int .u64 x] w fun e w' => e = .returned (.int .i64 (Pl.zag x)) ∧ w = w' := by
  go_enter Try.func16, Try.ntmps16
  go_wp2
  go_ret
  exact ⟨ret_int (Pl.zag_walk x h1 (by omega)), rfl⟩
set_option maxHeartbeats 400000 in
theorem zig_r (x : Int) (h1 : -9223372036854775808 ≤ x) (h2 : x ≤ 9223372036854775807) (w : World) : Calls Try.prog 15 #[.int .i64 x] w fun e w' => e = .returned (.int .u64 (Pl.zig x)) ∧ w = w' := by
  by_cases h : 0 ≤ x
  all_goals
    go_enter Try.func15, Try.ntmps15
    go_wp2
    go_ret
    exact ⟨ret_int (by unfold Pl.zig; split <;> omega), rfl⟩
set_option maxHeartbeats 400000 in
theorem zag_r (x : Int) (h1 : 0 ≤ x) (h2 : x ≤ 18446744073709551615) (w : World) : Calls Try.prog 17 #[.int .u64 x] w fun e w' => e = .returned (.int .i64 (Pl.zag x)) ∧ w = w' := by
  rcases (show x % 2 = 0 ∨ x % 2 = 1 by omega) with h | h
  · have hb : (x % 2 == 0) = true := beq_iff_eq.2 h
    have Hh := Lib.hid h; clear h
    go_enter Try.func17, Try.ntmps17
    go_wp2
    go_ret
    exact ⟨ret_int (by unfold Pl.zag; rw [if_pos Hh.out]), rfl⟩
  · have hb : (x % 2 == 0) = false := beq_eq_false_iff_ne.2 (by omega)
    have Hh := Lib.hid h; clear h
    go_enter Try.func17, Try.ntmps17
    go_wp2
    go_ret
    exact ⟨ret_int (by unfold Pl.zag; rw [if_neg (by have := Hh.out; omega)]), rfl⟩
set_option maxHeartbeats 400000 in
theorem width_p (x : Int) (h1 : 0 ≤ x) (h2 : x ≤ 18446744073709551615) (w : World) : Calls Try.prog 25 #[.int .u64 x] w fun e w' => e = .returned (.int .i64 (Pl.width x)) ∧ w = w' := by
  go_enter Try.func25, Try.ntmps25
  go_wp2_with (go_at_call 35; refine (Try.bits_Len _ _ (by omega) (by omega)).mono ?_; rintro e w' ⟨rfl, rfl⟩)
  go_ret
  exact ⟨rfl, rfl⟩
set_option maxHeartbeats 400000 in
theorem width_r (x : Int) (h1 : 0 ≤ x) (h2 : x ≤ 18446744073709551615) (w : World) : Calls Try.prog 26 #[.int .u64 x] w fun e w' => e = .returned (.int .i64 (Pl.width x)) ∧ w = w' := by
  have hw := Pl.width_le x
  go_enter Try.func26, Try.ntmps26
  go_wp2_with fail
  go_loop [0, 3, 4] (fun u n i => ∃ (k : Nat) (c : Int), k ≤ 64 ∧ 0 ≤ c ∧ c < 2 ^ (64 - k) ∧ u = .int .u64 c ∧ n = .int .i64 k ∧ i = .int .i64 k ∧ (k : Int) + Pl.width c = Pl.width x) (fun _ _ i => 64 - (intOf i).toNat)
  case atStart => exact ⟨0, x, by omega, h1, by omega, rfl, rfl, rfl, by simp⟩
  case round =>
    obtain ⟨k, c, hk, hc, hc2, rfl, rfl, rfl, he⟩ := hrel
    have He := Lib.hid he; clear he
    have Hc2 := Lib.hid hc2; clear hc2
    by_cases h0 : 0 < c
    · have hk2 : k < 64 := by
        rcases Nat.lt_or_ge k 64 with h | h
        · exact h
        · have := Hc2.out; rw [show 64 - k = 0 by omega] at this; simp at this; omega
      have hcb : c < 18446744073709551616 := Pl.lt_two_pow _ _ hk Hc2.out
      go_wp2_with fail
      go_round
      case rel => exact ⟨k + 1, c / 2, by omega, by omega, Pl.half_lt _ _ hk2 Hc2.out, rfl, by go_num, by go_num, by have := Pl.width_half c h0 hcb; have := He.out; omega⟩
      case measure => simp [intOf]; omega
    · have h00 : c = 0 := by omega
      have E : Hid ((k : Int) = Pl.width x) := by
        have := He.out; rw [h00, Pl.width_zero] at this; show (k : Int) = Pl.width x; omega
      have hd : decide (0 < c) = false := by simpa using h0
      clear h00
      by_cases hk2 : k < 64
      · go_wp2_with fail
        go_ret
        exact ⟨ret_int E.out, rfl⟩
      · go_wp2_with fail
        go_ret
        exact ⟨ret_int E.out, rfl⟩
set_option maxHeartbeats 400000 in
theorem need_p (x : Int) (h1 : -9223372036854775808 ≤ x) (h2 : x ≤ 9223372036854775807) (w : World) : Calls Try.prog 24 #[.int .i64 x] w fun e w' => e = .returned (.int .i64 (Pl.need x)) ∧ w = w' := by
  by_cases h : x < 0
  · have e0 := Pl.i64_xor_m1 x h1 h2
    have hw := Pl.width_le (-1 - x)
    go_enter Try.func24, Try.ntmps24
    go_wp2_with fail
    rw [show IntKind.u64.wrap (-1 - x) = -1 - x from IntWalk.u64_in _ (by omega)]
    refine (width_p _ (by omega) (by omega) _).mono ?_
    rintro e w' ⟨rfl, rfl⟩
    go_wp2_with fail
    go_ret
    exact ⟨ret_int (Pl.need_neg x ‹_›), rfl⟩
  · have hw := Pl.width_le x
    go_enter Try.func24, Try.ntmps24
    go_wp2_with (go_at_call 25; refine (width_p _ (by omega) (by omega) _).mono ?_; rintro e w' ⟨rfl, rfl⟩)
    go_ret
    exact ⟨ret_int (Pl.need_pos x ‹_›), rfl⟩
set_option maxHeartbeats 400000 in
theorem need_r (x : Int) (h1 : -9223372036854775808 ≤ x) (h2 : x ≤ 9223372036854775807) (w : World) : Calls Try.prog 27 #[.int .i64 x] w fun e w' => e = .returned (.int .i64 (Pl.need x)) ∧ w = w' := by
  by_cases h : x < 0
  · have hw := Pl.width_le (-1 - x)
    go_enter Try.func27, Try.ntmps27
    go_wp2_with fail
    rw [show (-(x + 1) : Int) = -1 - x by omega]
    refine (width_r _ (by omega) (by omega) _).mono ?_
    rintro e w' ⟨rfl, rfl⟩
    go_wp2_with fail
    go_ret
    exact ⟨ret_int (Pl.need_neg x ‹_›), rfl⟩
  · have hw := Pl.width_le x
    go_enter Try.func27, Try.ntmps27
    go_wp2_with (go_at_call 26; refine (width_r _ (by omega) (by omega) _).mono ?_; rintro e w' ⟨rfl, rfl⟩)
    go_ret
    exact ⟨ret_int (Pl.need_pos x ‹_›), rfl⟩
set_option maxHeartbeats 400000 in
theorem root_p (x : Int) (h1 : -9223372036854775808 ≤ x) (h2 : x ≤ 9223372036854775807) (w : World) : Calls Try.prog 12 #[.int .i64 x] w fun e w' => (∃ r, e = .returned (.int .i64 r) ∧ Pl.IsRoot x r) ∧ w = w' := by
  by_cases h0 : x ≤ 0
  · go_enter Try.func12, Try.ntmps12
    go_wp2_with fail
    go_step3
    go_wp2_with fail
    rw [Exit.noGoto_ret]
    go_ret
    exact ⟨⟨0, rfl, .inl ⟨h0, rfl⟩⟩, rfl⟩
  · have hw := Pl.width_le x
    have hs := Pl.rootInv_start x (by omega) h2
    obtain ⟨hs1, hs2, hs3⟩ := hs
    have hw1 : 1 ≤ Pl.width x := by
      rcases Int.lt_or_le 0 (Pl.width x) with h | h
      · omega
      · have : Pl.width x = 0 := by omega
        rw [this] at hs2; omega
    go_enter Try.func12, Try.ntmps12
    go_wp2_with fail
    go_step3
    go_wp2_with fail
    go_step3
    go_wp2_with (go_at_call 25; refine (width_p _ (by omega) (by omega) _).mono ?_; rintro e w' ⟨rfl, rfl⟩)
    go_loop [3, 4] (fun r k => ∃ R K : Int, -1 ≤ K ∧ K ≤ 31 ∧ 0 ≤ R ∧ R ≤ 3037000499 ∧ r = .int .i64 R ∧ k = .int .i64 K ∧ Pl.RootInv x K R) (fun _ k => (intOf k + 1).toNat)
    case atStart => exact ⟨0, (Pl.width x - 1) / 2, by omega, by omega, by omega, by omega, rfl, rfl, hs1⟩
    case round =>
      obtain ⟨R, K, hK, hK', hR, hR', rfl, rfl, hI⟩ := hrel
      clear hs1 hs2 hs3 hw hw1
      by_cases hk : 0 ≤ K
      · have hp := Pl.pow_le K
        have hor := Pl.root_or x K R hk hK' hR hR' hI
        have hpw := Pl.pow_bits K hk (by omega)
        by_cases ht : R + Pl.pow K ≤ x / (R + Pl.pow K)
        · have hsq := (Pl.le_quo _ _ (by omega)).1 ht
          have hsm := Pl.root_small x _ (by omega) hsq h2
          have hJ := Pl.rootInv_yes x K R hk hK' hI hsq
          clear hsq hI
          go_wp2_with fail
          go_round
          case rel => exact ⟨R + Pl.pow K, K - 1, by omega, by omega, by omega, by omega, rfl, rfl, hJ⟩
          case measure => simp [intOf]; omega
        · have hJ := Pl.rootInv_no x K R hk hK' hI (Int.not_le.1 fun h => ht ((Pl.le_quo _ _ (by omega)).2 h))
          clear hI
          go_wp2_with fail
          go_round
          case rel => exact ⟨R, K - 1, by omega, by omega, by omega, by omega, rfl, rfl, hJ⟩
          case measure => simp [intOf]; omega
      · have hK0 : K = -1 := by omega
        have hE := Pl.rootInv_end x R (by omega) hR (by rw [← hK0]; exact hI)
        have HE := Lib.hid hE; clear hE hK0 hI
        go_wp2_with fail
        try rw [Exit.noGoto_ret]
        go_ret
        exact ⟨⟨R, rfl, HE.out⟩, rfl⟩
set_option maxHeartbeats 400000 in
theorem root_r (x : Int) (h1 : -9223372036854775808 ≤ x) (h2 : x ≤ 9223372036854775807) (w : World) : Calls Try.prog 13 #[.int .i64 x] w fun e w' => (∃ r, e = .returned (.int .i64 r) ∧ Pl.IsRoot x r) ∧ w = w' := by
  by_cases h0 : x < 1
  · go_enter Try.func13, Try.ntmps13
    go_wp2_with fail
    go_ret
    exact ⟨⟨0, rfl, .inl ⟨by omega, rfl⟩⟩, rfl⟩
  · go_enter Try.func13, Try.ntmps13
    go_wp2_with fail
    go_loop [3, 4, 5] (fun l h i => ∃ (L H : Int) (k : Nat), k ≤ 32 ∧ 0 ≤ L ∧ L < H ∧ H ≤ 3037000500 ∧ l = .int .i64 L ∧ h = .int .i64 H ∧ i = .int .i64 k ∧ Pl.RootMid x k L H) (fun _ _ i => 40 - (intOf i).toNat)
    case atStart => exact ⟨0, 3037000500, 0, by omega, by omega, by omega, by omega, rfl, rfl, rfl, Pl.rootMid_start x (by omega) h2⟩
    case round =>
      obtain ⟨L, HH, k, hk, hL, hLH, hH, rfl, rfl, rfl, hM⟩ := hrel
      by_cases hc : L + 1 < HH
      · have hk2 := Pl.rootMid_more x k L HH hM hc
        by_cases ht : (L + HH) / 2 ≤ x / ((L + HH) / 2)
        · go_wp2_with fail
          go_round
          case rel => exact ⟨(L + HH) / 2, HH, k + 1, by omega, by omega, by omega, by omega, rfl, rfl, by go_num, Pl.rootMid_lo x k L HH hk2 hM ((Pl.le_quo _ _ (by omega)).1 ht)⟩
          case measure => simp [intOf]; omega
        · go_wp2_with fail
          go_round
          case rel => exact ⟨L, (L + HH) / 2, k + 1, by omega, by omega, by omega, by omega, rfl, rfl, by go_num, Pl.rootMid_hi x k L HH hk2 hM (Int.not_le.1 fun h => by have := (Pl.le_quo _ _ (by omega)).2 h; omega)⟩
          case measure => simp [intOf]; omega
      · have hd : decide (L + 1 < HH) = false := by simpa using hc
        have hE := Pl.rootMid_end x k L HH (by omega) hL hLH (by omega) hM
        have HE := Lib.hid hE; clear hE hM
        go_wp2_with fail
        go_ret
        exact ⟨⟨L, rfl, HE.out⟩, rfl⟩
end Go.Proofs.Ytlicdljbpmkckaa
