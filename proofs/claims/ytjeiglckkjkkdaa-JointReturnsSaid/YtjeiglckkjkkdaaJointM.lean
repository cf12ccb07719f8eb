/- The walks of the laws on turning and on going back. -/
import Derived.Test.YtjeiglckkjkkdaaJointL
namespace Go.Proofs.Ytjeiglckkjkkdaa
open Go.RowKit
set_option linter.unusedVariables false
theorem turn_len (m n : Int) (xs ys : List Int) : (Pl.turnC m n xs ys).length ≤ xs.length ∧ (Pl.turnD m n xs ys).length ≤ xs.length := by
  by_cases h : Pl.turnE m n xs ys = 0
  · obtain ⟨h1, h2⟩ := Pl.turnC_ok h
    have hl := (Pl.turnE_zero h).2.1
    rw [h1, h2, Pl.map2_len _ _ _ hl, Pl.map2_len _ _ _ hl]; exact ⟨Nat.le_refl _, Nat.le_refl _⟩
  · obtain ⟨h1, h2⟩ := Pl.turnC_no rfl h
    rw [h1, h2]; exact ⟨Nat.zero_le _, Nat.zero_le _⟩
theorem back_len (m n : Int) (xs ys : List Int) : (Pl.backC m n xs ys).length ≤ xs.length ∧ (Pl.backD m n xs ys).length ≤ xs.length := by
  by_cases h : Pl.backE m n xs ys = 0
  · obtain ⟨h1, h2⟩ := Pl.backC_ok h
    have hl := (Pl.backE_zero h).2.1
    rw [h1, h2, Pl.map2_len _ _ _ hl, Pl.map2_len _ _ _ hl]; exact ⟨Nat.le_refl _, Nat.le_refl _⟩
  · obtain ⟨h1, h2⟩ := Pl.backC_no rfl h
    rw [h1, h2]; exact ⟨Nat.zero_le _, Nat.zero_le _⟩
theorem turn_quiet (m n : Int) (xs ys : List Int) : Pl.loudB (Pl.turnC m n xs ys) (Pl.wa m n) = false ∧ Pl.loudB (Pl.turnD m n xs ys) (Pl.wb m n) = false := by
  by_cases h : Pl.turnE m n xs ys = 0
  · obtain ⟨h1, h2⟩ := Pl.turnC_ok h
    rw [h1, h2]; exact Pl.turn_fits h
  · obtain ⟨h1, h2⟩ := Pl.turnC_no rfl h
    rw [h1, h2]; exact ⟨rfl, rfl⟩
set_option maxHeartbeats 400000 in
theorem widths_yes (m n : Int) (hm : Pl.may m n = true) (w : World) : Calls Try.prog 10 #[.int .i64 m, .int .i64 n] w fun e w' => e = .returned (.tuple #[.int .i64 (Pl.wa m n), .int .i64 (Pl.wb m n), .int .i64 0]) ∧ w = w' := by
  obtain ⟨m1, m2, m3, m4⟩ := Pl.may_yes hm
  go_enter Try.func10, Try.ntmps10
  go_wp2_with (first
    | (go_at_call 25; refine (may_p _ _ _).mono ?_; rintro e w' ⟨rfl, rfl⟩)
    | (go_at_call 26; refine (widths_p _ _ m3 m4 _).mono ?_; rintro e w' ⟨rfl, rfl⟩))
  go_ret3
  exact ⟨ret_three rfl rfl rfl, rfl⟩
set_option maxHeartbeats 400000 in
theorem widths_no (m n : Int) (hm : Pl.may m n = false) (w : World) : Calls Try.prog 10 #[.int .i64 m, .int .i64 n] w fun e w' => e = .returned (.tuple #[.int .i64 0, .int .i64 0, .int .i64 1]) ∧ w = w' := by
  go_enter Try.func10, Try.ntmps10
  go_wp2_with (go_at_call 25; refine (may_p _ _ _).mono ?_; rintro e w' ⟨rfl, rfl⟩)
  go_ret3
  exact ⟨ret_three rfl rfl rfl, rfl⟩
set_option maxHeartbeats 1600000 in
theorem walkTurns (m b : Int) (A A' : Option Addr) (n ca q cb : Nat) (xs ys : List Int) (w : World) (hn : xs.length = n) (hm : ys.length = q) (hx : Rd w w.heap.size A xs) (hy : Rd w w.heap.size A' ys) (hn2 : n ≤ maxLen) (hq2 : q ≤ maxLen) :
    Calls Try.prog 3 #[.int .i64 m, .slice A n ca, .slice A' q cb, .int .i64 b] w fun e w' => e = .returned (.bool true) ∧ Below w.heap.size w w' := by
  unfold maxLen at hn2 hq2
  by_cases hn200 : 200 < n
  · have hd : (200 : Int) < (n : Int) := by omega
    clear hn hm
    go_enter Try.func3, Try.ntmps3
    go_wp2_with (go_at_call 7; refine (known_any _).mono ?_; rintro e w6 ⟨rfl, hb⟩)
    go_ret
    exact ⟨rfl, hb⟩
  have hd1 : decide ((200 : Int) < (n : Int)) = false := by simp; omega
  by_cases hq200 : 200 < q
  · have hd : (200 : Int) < (q : Int) := by omega
    clear hn hm
    go_enter Try.func3, Try.ntmps3
    go_wp2_with (go_at_call 7; refine (known_any _).mono ?_; rintro e w6 ⟨rfl, hb⟩)
    go_ret
    exact ⟨rfl, hb⟩
  have hd2 : decide ((200 : Int) < (q : Int)) = false := by simp; omega
  have HN := Lib.hid hn; have HM := Lib.hid hm
  clear hn hm
  rcases hmay : Pl.may m b
  · go_enter Try.func3, Try.ntmps3
    go_wp2_with fail
    refine (turn_any m b _ _ _ _ _ _ _ _ _ _ HN.out HM.out (by omega) (by omega) hx hy (Nat.le_refl _)).mono ?_
    rintro e w1 ⟨⟨A1, A2, k1, c1, k2, c2, rfl, l1, l2, r1, r2⟩, b1⟩
    have K1 := Lib.hid l1; have K2 := Lib.hid l2
    have hx1 := hx.later b1 (Nat.le_refl _)
    have hy1 := hy.later b1 (Nat.le_refl _)
    clear l1 l2
    go_wp2_with fail
    refine (turn_ref m b _ _ _ _ _ _ _ _ _ _ HN.out HM.out (by omega) (by omega) hx1 hy1 b1.size).mono ?_
    rintro e w2 ⟨⟨B1, B2, j1, d1, j2, d2, rfl, l1, l2, q1, q2⟩, b2⟩
    have J1 := Lib.hid l1; have J2 := Lib.hid l2
    have r1' := r1.later b2 (Nat.le_refl _)
    have r2' := r2.later b2 (Nat.le_refl _)
    have bb2 := below_next b1 b1.size b2
    have hs2 := b2.size
    have hK1 : k1 ≤ 9223372036854775807 := by have := (turn_len m b xs ys).1; rw [K1.out, HN.out] at this; omega
    have hK2 : k2 ≤ 9223372036854775807 := by have := (turn_len m b xs ys).2; rw [K2.out, HN.out] at this; omega
    have hJ1 : j1 ≤ 9223372036854775807 := by rw [← J1.out, K1.out]; exact hK1
    have hJ2 : j2 ≤ 9223372036854775807 := by rw [← J2.out, K2.out]; exact hK2
    clear l1 l2 r1 r2 hx1 hy1 b1 b2
    go_wp2_with fail
    refine (widths_no _ _ hmay _).mono ?_
    rintro e w' ⟨rfl, rfl⟩
    go_wp2_with fail
    refine (ints_any _ _ _ _ _ _ _ _ _ _ _ K1.out J1.out r1' q1 hK1 hJ1).mono ?_
    rintro e w3 ⟨rfl, d, hw3⟩
    have u2 : Rd w3 w1.heap.size A2 _ := hw3 ▸ (show Rd (w2.drewN d) w1.heap.size A2 _ from r2')
    have v2 : Rd w3 w2.heap.size B2 _ := hw3 ▸ (show Rd (w2.drewN d) w2.heap.size B2 _ from q2)
    have u1 : Rd w3 w1.heap.size A1 _ := hw3 ▸ (show Rd (w2.drewN d) w1.heap.size A1 _ from r1')
    have bb3 : Below w.heap.size w w3 := hw3 ▸ below_drawn bb2 d
    have hs3 : w2.heap.size ≤ w3.heap.size := by rw [← hw3]; exact Nat.le_refl _
    clear hw3 r1' r2' q1 q2 bb2
    go_wp2_with fail
    refine (ints_any _ _ _ _ _ _ _ _ _ _ _ K2.out J2.out u2 v2 hK2 hJ2).mono ?_
    rintro e w4 ⟨rfl, d4, hw4⟩
    have x1 : Rd w4 w1.heap.size A1 _ := hw4 ▸ (show Rd (w3.drewN d4) w1.heap.size A1 _ from u1)
    have x2 : Rd w4 w1.heap.size A2 _ := hw4 ▸ (show Rd (w3.drewN d4) w1.heap.size A2 _ from u2)
    have bb4 : Below w.heap.size w w4 := hw4 ▸ below_drawn bb3 d4
    have hs4 : w1.heap.size ≤ w4.heap.size := by rw [← hw4]; exact Nat.le_trans hs2 hs3
    clear hw4 u1 u2 v2 bb3
    go_wp2_with (first | (go_at_call 12; refine (may_r _ _ _).mono ?_; rintro e w' ⟨rfl, rfl⟩) | (go_at_call 7; refine (known_any _).mono ?_; rintro e w9 ⟨rfl, hb9⟩))
    go_ret
    exact ⟨rfl, below_next bb4 bb4.size hb9⟩
  · obtain ⟨m1, m2, m3, m4⟩ := Pl.may_yes hmay
    have hq1 := (turn_quiet m b xs ys).1
    have hq2 := (turn_quiet m b xs ys).2
    go_enter Try.func3, Try.ntmps3
    go_wp2_with fail
    refine (turn_any m b _ _ _ _ _ _ _ _ _ _ HN.out HM.out (by omega) (by omega) hx hy (Nat.le_refl _)).mono ?_
    rintro e w1 ⟨⟨A1, A2, k1, c1, k2, c2, rfl, l1, l2, r1, r2⟩, b1⟩
    have K1 := Lib.hid l1; have K2 := Lib.hid l2
    have hx1 := hx.later b1 (Nat.le_refl _)
    have hy1 := hy.later b1 (Nat.le_refl _)
    clear l1 l2
    go_wp2_with fail
    refine (turn_ref m b _ _ _ _ _ _ _ _ _ _ HN.out HM.out (by omega) (by omega) hx1 hy1 b1.size).mono ?_
    rintro e w2 ⟨⟨B1, B2, j1, d1, j2, d2, rfl, l1, l2, q1, q2⟩, b2⟩
    have J1 := Lib.hid l1; have J2 := Lib.hid l2
    have r1' := r1.later b2 (Nat.le_refl _)
    have r2' := r2.later b2 (Nat.le_refl _)
    have bb2 := below_next b1 b1.size b2
    have hs2 := b2.size
    have hK1 : k1 ≤ 9223372036854775807 := by have := (turn_len m b xs ys).1; rw [K1.out, HN.out] at this; omega
    have hK2 : k2 ≤ 9223372036854775807 := by have := (turn_len m b xs ys).2; rw [K2.out, HN.out] at this; omega
    have hJ1 : j1 ≤ 9223372036854775807 := by rw [← J1.out, K1.out]; exact hK1
    have hJ2 : j2 ≤ 9223372036854775807 := by rw [← J2.out, K2.out]; exact hK2
    clear l1 l2 r1 r2 hx1 hy1 b1 b2
    go_wp2_with fail
    refine (widths_yes _ _ hmay _).mono ?_
    rintro e w' ⟨rfl, rfl⟩
    go_wp2_with fail
    refine (ints_any _ _ _ _ _ _ _ _ _ _ _ K1.out J1.out r1' q1 hK1 hJ1).mono ?_
    rintro e w3 ⟨rfl, d, hw3⟩
    have u2 : Rd w3 w1.heap.size A2 _ := hw3 ▸ (show Rd (w2.drewN d) w1.heap.size A2 _ from r2')
    have v2 : Rd w3 w2.heap.size B2 _ := hw3 ▸ (show Rd (w2.drewN d) w2.heap.size B2 _ from q2)
    have u1 : Rd w3 w1.heap.size A1 _ := hw3 ▸ (show Rd (w2.drewN d) w1.heap.size A1 _ from r1')
    have bb3 : Below w.heap.size w w3 := hw3 ▸ below_drawn bb2 d
    have hs3 : w2.heap.size ≤ w3.heap.size := by rw [← hw3]; exact Nat.le_refl _
    clear hw3 r1' r2' q1 q2 bb2
    go_wp2_with fail
    refine (ints_any _ _ _ _ _ _ _ _ _ _ _ K2.out J2.out u2 v2 hK2 hJ2).mono ?_
    rintro e w4 ⟨rfl, d4, hw4⟩
    have x1 : Rd w4 w1.heap.size A1 _ := hw4 ▸ (show Rd (w3.drewN d4) w1.heap.size A1 _ from u1)
    have x2 : Rd w4 w1.heap.size A2 _ := hw4 ▸ (show Rd (w3.drewN d4) w1.heap.size A2 _ from u2)
    have bb4 : Below w.heap.size w w4 := hw4 ▸ below_drawn bb3 d4
    have hs4 : w1.heap.size ≤ w4.heap.size := by rw [← hw4]; exact Nat.le_trans hs2 hs3
    clear hw4 u1 u2 v2 bb3
    go_wp2_with (first | (go_at_call 12; refine (may_r _ _ _).mono ?_; rintro e w' ⟨rfl, rfl⟩))
    refine (widths_r _ _ m1 m2 m3 m4 _).mono ?_
    rintro e w5 ⟨rfl, b5⟩
    have y1 := x1.later b5 hs4
    have y2 := x2.later b5 hs4
    have bb5 := below_next bb4 bb4.size b5
    clear x1 x2 bb4 b5
    go_wp2_with fail
    refine (loud_r _ _ _ _ _ _ _ K1.out hK1 y1).mono ?_
    rintro e w' ⟨rfl, rfl⟩
    go_wp2_with fail
    refine (loud_r _ _ _ _ _ _ _ K2.out hK2 y2).mono ?_
    rintro e w' ⟨rfl, rfl⟩
    go_wp2_with (go_at_call 7; refine (known_any _).mono ?_; rintro e w9 ⟨rfl, hb9⟩)
    go_ret
    exact ⟨rfl, below_next bb5 bb5.size hb9⟩
set_option maxHeartbeats 1600000 in
theorem walkBacks (m b : Int) (A A' : Option Addr) (n ca q cb : Nat) (xs ys : List Int) (w : World) (hn : xs.length = n) (hm : ys.length = q) (hx : Rd w w.heap.size A xs) (hy : Rd w w.heap.size A' ys) (hn2 : n ≤ maxLen) (hq2 : q ≤ maxLen) :
    Calls Try.prog 4 #[.int .i64 m, .slice A n ca, .slice A' q cb, .int .i64 b] w fun e w' => e = .returned (.bool true) ∧ Below w.heap.size w w' := by
  unfold maxLen at hn2 hq2
  by_cases hn200 : 200 < n
  · have hd : (200 : Int) < (n : Int) := by omega
    clear hn hm
    go_enter Try.func4, Try.ntmps4
    go_wp2_with (go_at_call 7; refine (known_any _).mono ?_; rintro e w6 ⟨rfl, hb⟩)
    go_ret
    exact ⟨rfl, hb⟩
  have hd1 : decide ((200 : Int) < (n : Int)) = false := by simp; omega
  by_cases hq200 : 200 < q
  · have hd : (200 : Int) < (q : Int) := by omega
    clear hn hm
    go_enter Try.func4, Try.ntmps4
    go_wp2_with (go_at_call 7; refine (known_any _).mono ?_; rintro e w6 ⟨rfl, hb⟩)
    go_ret
    exact ⟨rfl, hb⟩
  have hd2 : decide ((200 : Int) < (q : Int)) = false := by simp; omega
  have HN := Lib.hid hn; have HM := Lib.hid hm
  clear hn hm
  go_enter Try.func4, Try.ntmps4
  go_wp2_with fail
  refine (back_any m b _ _ _ _ _ _ _ _ _ _ HN.out HM.out (by omega) (by omega) hx hy (Nat.le_refl _)).mono ?_
  rintro e w1 ⟨⟨A1, A2, k1, c1, k2, c2, rfl, l1, l2, r1, r2⟩, b1⟩
  have K1 := Lib.hid l1; have K2 := Lib.hid l2
  have hx1 := hx.later b1 (Nat.le_refl _)
  have hy1 := hy.later b1 (Nat.le_refl _)
  clear l1 l2
  go_wp2_with fail
  refine (back_ref m b _ _ _ _ _ _ _ _ _ _ HN.out HM.out (by omega) (by omega) hx1 hy1 b1.size).mono ?_
  rintro e w2 ⟨⟨B1, B2, j1, d1, j2, d2, rfl, l1, l2, q1, q2⟩, b2⟩
  have J1 := Lib.hid l1; have J2 := Lib.hid l2
  have r1' := r1.later b2 (Nat.le_refl _)
  have r2' := r2.later b2 (Nat.le_refl _)
  have bb2 := below_next b1 b1.size b2
  have hs2 := b2.size
  have hK1 : k1 ≤ 9223372036854775807 := by have := (back_len m b xs ys).1; rw [K1.out, HN.out] at this; omega
  have hK2 : k2 ≤ 9223372036854775807 := by have := (back_len m b xs ys).2; rw [K2.out, HN.out] at this; omega
  have hJ1 : j1 ≤ 9223372036854775807 := by rw [← J1.out, K1.out]; exact hK1
  have hJ2 : j2 ≤ 9223372036854775807 := by rw [← J2.out, K2.out]; exact hK2
  clear l1 l2 r1 r2 hx1 hy1 b1 b2
  go_wp2_with fail
  refine (ints_any _ _ _ _ _ _ _ _ _ _ _ K1.out J1.out r1' q1 hK1 hJ1).mono ?_
  rintro e w3 ⟨rfl, d, hw3⟩
  have u2 : Rd w3 w1.heap.size A2 _ := hw3 ▸ (show Rd (w2.drewN d) w1.heap.size A2 _ from r2')
  have v2 : Rd w3 w2.heap.size B2 _ := hw3 ▸ (show Rd (w2.drewN d) w2.heap.size B2 _ from q2)
  have u1 : Rd w3 w1.heap.size A1 _ := hw3 ▸ (show Rd (w2.drewN d) w1.heap.size A1 _ from r1')
  have bb3 : Below w.heap.size w w3 := hw3 ▸ below_drawn bb2 d
  have hs3 : w2.heap.size ≤ w3.heap.size := by rw [← hw3]; exact Nat.le_refl _
  clear hw3 r1' r2' q1 q2 bb2
  go_wp2_with fail
  refine (ints_any _ _ _ _ _ _ _ _ _ _ _ K2.out J2.out u2 v2 hK2 hJ2).mono ?_
  rintro e w4 ⟨rfl, d4, hw4⟩
  have x1 : Rd w4 w1.heap.size A1 _ := hw4 ▸ (show Rd (w3.drewN d4) w1.heap.size A1 _ from u1)
  have x2 : Rd w4 w1.heap.size A2 _ := hw4 ▸ (show Rd (w3.drewN d4) w1.heap.size A2 _ from u2)
  have bb4 : Below w.heap.size w w4 := hw4 ▸ below_drawn bb3 d4
  have hs4 : w1.heap.size ≤ w4.heap.size := by rw [← hw4]; exact Nat.le_trans hs2 hs3
  clear hw4 u1 u2 v2 bb3
  go_wp2_with (go_at_call 7; refine (known_any _).mono ?_; rintro e w9 ⟨rfl, hb9⟩)
  go_ret
  exact ⟨by simp, below_next bb4 bb4.size hb9⟩
end Go.Proofs.Ytjeiglckkjkkdaa
