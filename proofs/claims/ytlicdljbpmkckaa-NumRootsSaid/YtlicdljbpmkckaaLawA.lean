/- The walks of the laws of chapter 01: each returns true, for every input; the world is as it was. -/
import Derived.Test.YtlicdljbpmkckaaNumA
import Derived.Deep.QuietTactic
import Derived.BigQuiet
namespace Go.Proofs.Ytlicdljbpmkckaa
open Go.RowKit
set_option linter.unusedVariables false
theorem k_round1 : Pl.round 5 1 = 3 := by decide
theorem k_round2 : Pl.round (-5) 1 = -2 := by decide
theorem k_zig : Pl.zig (-3) = 5 := by decide
theorem k_need : Pl.need (-128) = 8 := by decide
theorem k_root : Pl.IsRoot 99 9 := .inr (by decide)
set_option maxHeartbeats 400000 in
theorem known_any (w : World) : Calls Try.prog 11 #[] w fun e w' => e = .returned (.bool true) ∧ w = w' := by
  have e1 := k_round1
  have e2 := k_round2
  have e3 := k_zig
  have e4 := k_need
  go_enter Try.func11, Try.ntmps11
  go_wp2_with (first
    | (go_at_call 9; refine (round_p _ _ _).mono ?_; rintro e w' ⟨rfl, rfl⟩)
    | (go_at_call 14; refine (zig_p _ (by decide) (by decide) _).mono ?_; rintro e w' ⟨rfl, rfl⟩)
    | (go_at_call 24; refine (need_p _ (by decide) (by decide) _).mono ?_; rintro e w' ⟨rfl, rfl⟩)
    | (go_at_call 12; refine (root_p _ (by decide) (by decide) _).mono ?_; rintro e w' ⟨⟨r, rfl, hr⟩, rfl⟩; obtain rfl := Pl.isRoot_eq hr k_root; clear hr))
  go_ret
  exact ⟨rfl, rfl⟩
set_option maxHeartbeats 400000 in
theorem walkRounds (a n : Int) (w : World) : Calls Try.prog 3 #[.int .i64 a, .int .i64 n] w fun e w' => e = .returned (.bool true) ∧ w = w' := by
  go_enter Try.func3, Try.ntmps3
  go_wp2_with (first
    | (go_at_call 9; refine (round_p _ _ _).mono ?_; rintro e w' ⟨rfl, rfl⟩)
    | (go_at_call 10; refine (round_r _ _ _).mono ?_; rintro e w' ⟨rfl, rfl⟩)
    | (go_at_call 11; refine (known_any _).mono ?_; rintro e w' ⟨rfl, rfl⟩))
  go_ret
  exact ⟨rfl, rfl⟩
set_option maxHeartbeats 400000 in
theorem walkZigs (x u : Int) (h1 : -9223372036854775808 ≤ x) (h2 : x ≤ 9223372036854775807) (h3 : 0 ≤ u) (h4 : u ≤ 18446744073709551615) (w : World) : Calls Try.prog 5 #[.int .i64 x, .int .u64 u] w fun e w' => e = .returned (.bool true) ∧ w = w' := by
  have b1 := Pl.zig_le x h1 h2
  have b2 := Pl.zag_le u h3 (by omega)
  have e1 := Pl.zag_zig x
  have e2 := Pl.zig_zag u h3
  go_enter Try.func5, Try.ntmps5
  go_wp2_with (first
    | (go_at_call 14; refine (zig_p _ (by omega) (by omega) _).mono ?_; rintro e w' ⟨rfl, rfl⟩)
    | (go_at_call 16; refine (zag_p _ (by omega) (by omega) _).mono ?_; rintro e w' ⟨rfl, rfl⟩)
    | (go_at_call 15; refine (zig_r _ (by omega) (by omega) _).mono ?_; rintro e w' ⟨rfl, rfl⟩)
    | (go_at_call 17; refine (zag_r _ (by omega) (by omega) _).mono ?_; rintro e w' ⟨rfl, rfl⟩)
    | (go_at_call 11; refine (known_any _).mono ?_; rintro e w' ⟨rfl, rfl⟩))
  go_ret
  exact ⟨rfl, rfl⟩
set_option maxHeartbeats 400000 in
theorem walkClamps (x l h n : Int) (w : World) : Calls Try.prog 6 #[.int .i64 x, .int .i64 l, .int .i64 h, .int .i64 n] w fun e w' => e = .returned (.bool true) ∧ w = w' := by
  by_cases h0 : Pl.lo n = 0
  · have hb : (Pl.lo n == 0) = true := beq_iff_eq.2 h0
    clear h0
    go_enter Try.func6, Try.ntmps6
    go_wp2_with (first
      | (go_at_call 18; refine (range_p _ _).mono ?_; rintro e w' ⟨rfl, rfl⟩)
      | (go_at_call 19; refine (range_r _ _).mono ?_; rintro e w' ⟨rfl, rfl⟩)
      | (go_at_call 20; refine (fits_p _ _ _).mono ?_; rintro e w' ⟨rfl, rfl⟩)
      | (go_at_call 21; refine (fits_r _ _ _).mono ?_; rintro e w' ⟨rfl, rfl⟩)
      | (go_at_call 22; refine (clamp_p _ _ _ _).mono ?_; rintro e w' ⟨rfl, rfl⟩)
      | (go_at_call 23; refine (clamp_r _ _ _ _).mono ?_; rintro e w' ⟨rfl, rfl⟩)
      | (go_at_call 11; refine (known_any _).mono ?_; rintro e w' ⟨rfl, rfl⟩))
    go_ret
    exact ⟨rfl, rfl⟩
  · have hb : (Pl.lo n == 0) = false := beq_eq_false_iff_ne.2 h0
    have hf := Pl.fits_clamp x n h0
    go_enter Try.func6, Try.ntmps6
    go_wp2_with (first
      | (go_at_call 18; refine (range_p _ _).mono ?_; rintro e w' ⟨rfl, rfl⟩)
      | (go_at_call 19; refine (range_r _ _).mono ?_; rintro e w' ⟨rfl, rfl⟩)
      | (go_at_call 20; refine (fits_p _ _ _).mono ?_; rintro e w' ⟨rfl, rfl⟩)
      | (go_at_call 21; refine (fits_r _ _ _).mono ?_; rintro e w' ⟨rfl, rfl⟩)
      | (go_at_call 22; refine (clamp_p _ _ _ _).mono ?_; rintro e w' ⟨rfl, rfl⟩)
      | (go_at_call 23; refine (clamp_r _ _ _ _).mono ?_; rintro e w' ⟨rfl, rfl⟩)
      | (go_at_call 11; refine (known_any _).mono ?_; rintro e w' ⟨rfl, rfl⟩))
    go_ret
    exact ⟨rfl, rfl⟩
set_option maxHeartbeats 400000 in
theorem walkWidths (x u : Int) (h1 : -9223372036854775808 ≤ x) (h2 : x ≤ 9223372036854775807) (h3 : 0 ≤ u) (h4 : u ≤ 18446744073709551615) (w : World) : Calls Try.prog 7 #[.int .i64 x, .int .u64 u] w fun e w' => e = .returned (.bool true) ∧ w = w' := by
  have hn := Pl.need_le x
  by_cases h0 : 62 < Pl.need x
  · go_enter Try.func7, Try.ntmps7
    go_wp2_with (first
      | (go_at_call 24; refine (need_p _ (by omega) (by omega) _).mono ?_; rintro e w' ⟨rfl, rfl⟩)
      | (go_at_call 27; refine (need_r _ (by omega) (by omega) _).mono ?_; rintro e w' ⟨rfl, rfl⟩)
      | (go_at_call 25; refine (width_p _ (by omega) (by omega) _).mono ?_; rintro e w' ⟨rfl, rfl⟩)
      | (go_at_call 26; refine (width_r _ (by omega) (by omega) _).mono ?_; rintro e w' ⟨rfl, rfl⟩)
      | (go_at_call 20; refine (fits_p _ _ _).mono ?_; rintro e w' ⟨rfl, rfl⟩)
      | (go_at_call 11; refine (known_any _).mono ?_; rintro e w' ⟨rfl, rfl⟩))
    go_ret
    exact ⟨rfl, rfl⟩
  · have hd : decide (62 < Pl.need x) = false := by simpa using h0
    have f1 := Pl.need_fits x h1 h2 (by omega)
    have f2 := Pl.need_least x h1 h2 (by omega)
    go_enter Try.func7, Try.ntmps7
    go_wp2_with (first
      | (go_at_call 24; refine (need_p _ (by omega) (by omega) _).mono ?_; rintro e w' ⟨rfl, rfl⟩)
      | (go_at_call 27; refine (need_r _ (by omega) (by omega) _).mono ?_; rintro e w' ⟨rfl, rfl⟩)
      | (go_at_call 25; refine (width_p _ (by omega) (by omega) _).mono ?_; rintro e w' ⟨rfl, rfl⟩)
      | (go_at_call 26; refine (width_r _ (by omega) (by omega) _).mono ?_; rintro e w' ⟨rfl, rfl⟩)
      | (go_at_call 20; refine (fits_p _ _ _).mono ?_; rintro e w' ⟨rfl, rfl⟩)
      | (go_at_call 11; refine (known_any _).mono ?_; rintro e w' ⟨rfl, rfl⟩))
    go_ret
    exact ⟨rfl, rfl⟩
set_option maxHeartbeats 400000 in
theorem walkDivides (x b : Int) (h1 : -9223372036854775808 ≤ x) (h2 : x ≤ 9223372036854775807) (h3 : -9223372036854775808 ≤ b) (h4 : b ≤ 9223372036854775807) (w : World) : Calls Try.prog 8 #[.int .i64 x, .int .i64 b] w fun e w' => e = .returned (.bool true) ∧ w = w' := by
  by_cases h0 : 1 ≤ b
  · have m1 := Pl.mod_le x b h0
    have e := Pl.floor_mod x b h0
    have e2 : wrap64 (wrap64 (Pl.floor x b * b) + Pl.mod x b) = x := by unfold wrap64; omega
    clear e
    go_enter Try.func8, Try.ntmps8
    go_wp2_with (first
      | (go_at_call 28; refine (floor_p _ _ (by omega) (by omega) _).mono ?_; rintro e w' ⟨rfl, rfl⟩)
      | (go_at_call 30; refine (floor_r _ _ (by omega) (by omega) _).mono ?_; rintro e w' ⟨rfl, rfl⟩)
      | (go_at_call 29; refine (mod_p _ _ (by omega) _).mono ?_; rintro e w' ⟨rfl, rfl⟩)
      | (go_at_call 31; refine (mod_r _ _ (by omega) _).mono ?_; rintro e w' ⟨rfl, rfl⟩)
      | (go_at_call 11; refine (known_any _).mono ?_; rintro e w' ⟨rfl, rfl⟩))
    go_ret
    exact ⟨rfl, rfl⟩
  · have hd : decide (1 ≤ b) = false := by simpa using h0
    go_enter Try.func8, Try.ntmps8
    go_wp2_with (first
      | (go_at_call 28; refine (floor_p _ _ (by omega) (by omega) _).mono ?_; rintro e w' ⟨rfl, rfl⟩)
      | (go_at_call 30; refine (floor_r _ _ (by omega) (by omega) _).mono ?_; rintro e w' ⟨rfl, rfl⟩)
      | (go_at_call 29; refine (mod_p _ _ (by omega) _).mono ?_; rintro e w' ⟨rfl, rfl⟩)
      | (go_at_call 31; refine (mod_r _ _ (by omega) _).mono ?_; rintro e w' ⟨rfl, rfl⟩)
      | (go_at_call 11; refine (known_any _).mono ?_; rintro e w' ⟨rfl, rfl⟩))
    go_ret
    exact ⟨rfl, rfl⟩
set_option maxHeartbeats 400000 in
theorem walkRoots (x : Int) (h1 : -9223372036854775808 ≤ x) (h2 : x ≤ 9223372036854775807) (w : World) : Calls Try.prog 4 #[.int .i64 x] w fun e w' => e = .returned (.bool true) ∧ w = w' := by
  obtain ⟨R, hR⟩ := Pl.isRoot_some x
  have H := Lib.hid hR
  by_cases h0 : 1 ≤ x
  · obtain ⟨r1, r2, r3⟩ := Pl.isRoot_quo x R hR h0
    have r4 := Pl.root_small x R (by omega) (Pl.isRoot_sq x R hR h0) h2
    clear hR
    go_enter Try.func4, Try.ntmps4
    go_wp2_with (first
      | (go_at_call 12; refine (root_p _ h1 h2 _).mono ?_; rintro e w' ⟨⟨r, rfl, hr⟩, rfl⟩; obtain rfl := Pl.isRoot_eq hr H.out; clear hr)
      | (go_at_call 13; refine (root_r _ h1 h2 _).mono ?_; rintro e w' ⟨⟨r, rfl, hr⟩, rfl⟩; obtain rfl := Pl.isRoot_eq hr H.out; clear hr)
      | (go_at_call 11; refine (known_any _).mono ?_; rintro e w' ⟨rfl, rfl⟩))
    go_ret
    exact ⟨rfl, rfl⟩
  · have hd : decide (1 ≤ x) = false := by simpa using h0
    clear hR
    go_enter Try.func4, Try.ntmps4
    go_wp2_with (first
      | (go_at_call 12; refine (root_p _ h1 h2 _).mono ?_; rintro e w' ⟨⟨r, rfl, hr⟩, rfl⟩; obtain rfl := Pl.isRoot_eq hr H.out; clear hr)
      | (go_at_call 13; refine (root_r _ h1 h2 _).mono ?_; rintro e w' ⟨⟨r, rfl, hr⟩, rfl⟩; obtain rfl := Pl.isRoot_eq hr H.out; clear hr)
      | (go_at_call 11; refine (known_any _).mono ?_; rintro e w' ⟨rfl, rfl⟩))
    go_ret
    exact ⟨rfl, rfl⟩
end Go.Proofs.Ytlicdljbpmkckaa
