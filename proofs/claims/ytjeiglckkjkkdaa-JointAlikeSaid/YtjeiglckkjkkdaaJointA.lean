/- The walks of joint's small functions, and of the reference's. -/
import Derived.Test.YtjeiglckkjkkdaaInts
import Derived.Test.YtjeiglckkjkkdaaOwn
import Derived.Test.YtjeiglckkjkkdaaJointP
namespace Go.Proofs.Ytjeiglckkjkkdaa
open Go.RowKit
set_option linter.unusedVariables false
theorem ret_two' {a c : Value} {b d : Int} {l : IntKind} (h : a = c) (h' : b = d) : Ending.returned (.tuple #[a, .int l b]) = .returned (.tuple #[c, .int l d]) := by rw [h, h']
theorem ret_three {a c e f : Value} {b d : Int} {l : IntKind} (h : a = c) (h2 : e = f) (h' : b = d) : Ending.returned (.tuple #[a, e, .int l b]) = .returned (.tuple #[c, f, .int l d]) := by rw [h, h2, h']
set_option maxHeartbeats 400000 in
theorem may_p (m n : Int) (w : World) : Calls Try.prog 25 #[.int .i64 m, .int .i64 n] w fun e w' => e = .returned (.bool (Pl.may m n)) ∧ w = w' := by
  by_cases h1 : 0 ≤ m
  · by_cases h2 : m < 4
    · by_cases h3 : 1 ≤ n
      · go_enter Try.func25, Try.ntmps25
        go_wp2_with fail
        go_ret
        exact ⟨ret_bool (by unfold Pl.may; rw [decide_eq_decide]; omega), rfl⟩
      · have hd : decide (1 ≤ n) = false := by simpa using h3
        go_enter Try.func25, Try.ntmps25
        go_wp2_with fail
        go_ret
        exact ⟨ret_bool (by symm; unfold Pl.may; rw [decide_eq_false_iff_not]; omega), rfl⟩
    · have hd : decide (m < 4) = false := by simpa using h2
      go_enter Try.func25, Try.ntmps25
      go_wp2_with fail
      go_ret
      exact ⟨ret_bool (by symm; unfold Pl.may; rw [decide_eq_false_iff_not]; omega), rfl⟩
  · have hd : decide (0 ≤ m) = false := by simpa using h1
    go_enter Try.func25, Try.ntmps25
    go_wp2_with fail
    go_ret
    exact ⟨ret_bool (by symm; unfold Pl.may; rw [decide_eq_false_iff_not]; omega), rfl⟩
set_option maxHeartbeats 400000 in
theorem may_r (m n : Int) (w : World) : Calls Try.prog 12 #[.int .i64 m, .int .i64 n] w fun e w' => e = .returned (.bool (Pl.may m n)) ∧ w = w' := by
  by_cases h1 : 0 ≤ m
  · by_cases h2 : m ≤ 3
    · by_cases h3 : 1 ≤ n
      · go_enter Try.func12, Try.ntmps12
        go_wp2_with fail
        go_ret
        exact ⟨ret_bool (by unfold Pl.may; rw [decide_eq_decide]; omega), rfl⟩
      · have hd : decide (1 ≤ n) = false := by simpa using h3
        go_enter Try.func12, Try.ntmps12
        go_wp2_with fail
        go_ret
        exact ⟨ret_bool (by symm; unfold Pl.may; rw [decide_eq_false_iff_not]; omega), rfl⟩
    · have hd : decide (m ≤ 3) = false := by simpa using h2
      go_enter Try.func12, Try.ntmps12
      go_wp2_with fail
      go_ret
      exact ⟨ret_bool (by symm; unfold Pl.may; rw [decide_eq_false_iff_not]; omega), rfl⟩
  · have hd : decide (0 ≤ m) = false := by simpa using h1
    go_enter Try.func12, Try.ntmps12
    go_wp2_with fail
    go_ret
    exact ⟨ret_bool (by symm; unfold Pl.may; rw [decide_eq_false_iff_not]; omega), rfl⟩
theorem modes {m : Int} : m = 1 ∨ m = 2 ∨ m = 3 ∨ (m ≠ 1 ∧ m ≠ 2 ∧ m ≠ 3) := by omega
set_option maxHeartbeats 400000 in
theorem widths_p (m n : Int) (hn : 1 ≤ n) (hn2 : n ≤ 31) (w : World) : Calls Try.prog 26 #[.int .i64 m, .int .i64 n] w fun e w' => e = .returned (.tuple #[.int .i64 (Pl.wa m n), .int .i64 (Pl.wb m n)]) ∧ w = w' := by
  rcases modes (m := m) with rfl | rfl | rfl | ⟨h1, h2, h3⟩
  · go_enter Try.func26, Try.ntmps26
    go_wp2_with fail
    go_ret2
    exact ⟨ret_two rfl rfl, rfl⟩
  · go_enter Try.func26, Try.ntmps26
    go_wp2_with fail
    go_ret2
    exact ⟨ret_two rfl rfl, rfl⟩
  · go_enter Try.func26, Try.ntmps26
    go_wp2_with fail
    go_ret2
    exact ⟨ret_two rfl rfl, rfl⟩
  · have b1 : (m == 1) = false := beq_eq_false_iff_ne.2 h1
    have b2 : (m == 2) = false := beq_eq_false_iff_ne.2 h2
    have b3 : (m == 3) = false := beq_eq_false_iff_ne.2 h3
    have e1 : Hid (Pl.wa m n = n) := by show _ = _; unfold Pl.wa; rw [if_neg h2]
    have e2 : Hid (Pl.wb m n = n) := by show _ = _; unfold Pl.wb; rw [if_neg (by omega)]
    clear h1 h2 h3
    go_enter Try.func26, Try.ntmps26
    go_wp2_with fail
    go_ret2
    exact ⟨ret_two e1.out.symm e2.out.symm, rfl⟩
set_option maxHeartbeats 400000 in
theorem turn_p (m a b : Int) (ha : Pl.Far a) (hb : Pl.Far b) (w : World) : Calls Try.prog 23 #[.int .i64 m, .int .i64 a, .int .i64 b] w fun e w' => e = .returned (.tuple #[.int .i64 (Pl.ta m a b), .int .i64 (Pl.tb m a b)]) ∧ w = w' := by
  unfold Pl.Far at ha hb
  rw [Pl.tb_eq]
  rcases modes (m := m) with rfl | rfl | rfl | ⟨h1, h2, h3⟩
  · go_enter Try.func23, Try.ntmps23
    go_wp2_with fail
    go_ret2
    exact ⟨ret_two rfl rfl, rfl⟩
  · go_enter Try.func23, Try.ntmps23
    go_wp2_with fail
    go_ret2
    exact ⟨ret_two rfl rfl, rfl⟩
  · go_enter Try.func23, Try.ntmps23
    go_wp2_with fail
    go_ret2
    exact ⟨ret_two rfl rfl, rfl⟩
  · have b1 : (m == 1) = false := beq_eq_false_iff_ne.2 h1
    have b2 : (m == 2) = false := beq_eq_false_iff_ne.2 h2
    have b3 : (m == 3) = false := beq_eq_false_iff_ne.2 h3
    have e1 : Pl.ta m a b = a := by unfold Pl.ta; rw [if_neg h2, if_neg h3]
    rw [e1, if_neg (show ¬ (m = 1 ∨ m = 3) by omega)]
    clear h1 h2 h3 e1
    go_enter Try.func23, Try.ntmps23
    go_wp2_with fail
    go_ret2
    exact ⟨ret_two rfl rfl, rfl⟩
set_option maxHeartbeats 400000 in
theorem back_p (m a b : Int) (ha : Pl.Far a) (hb : Pl.Far b) (w : World) : Calls Try.prog 29 #[.int .i64 m, .int .i64 a, .int .i64 b] w fun e w' => e = .returned (.tuple #[.int .i64 (Pl.ba m a b), .int .i64 (Pl.bb m a b)]) ∧ w = w' := by
  unfold Pl.Far at ha hb
  rcases modes (m := m) with rfl | rfl | rfl | ⟨h1, h2, h3⟩
  · go_enter Try.func29, Try.ntmps29
    go_wp2_with fail
    go_ret2
    exact ⟨ret_two rfl rfl, rfl⟩
  · go_enter Try.func29, Try.ntmps29
    go_wp2_with fail
    go_ret2
    exact ⟨ret_two rfl rfl, rfl⟩
  · have e1 := Pl.i64_and1 b
    go_enter Try.func29, Try.ntmps29
    go_wp2_with fail
    go_ret2
    exact ⟨ret_two rfl rfl, rfl⟩
  · have b1 : (m == 1) = false := beq_eq_false_iff_ne.2 h1
    have b2 : (m == 2) = false := beq_eq_false_iff_ne.2 h2
    have b3 : (m == 3) = false := beq_eq_false_iff_ne.2 h3
    have e1 : Pl.ba m a b = a := by unfold Pl.ba; rw [if_neg h2, if_neg h3]
    have e2 : Pl.bb m a b = b := by unfold Pl.bb; rw [if_neg h1, if_neg h3]
    rw [e1, e2]
    clear h1 h2 h3 e1 e2
    go_enter Try.func29, Try.ntmps29
    go_wp2_with fail
    go_ret2
    exact ⟨ret_two rfl rfl, rfl⟩
set_option maxHeartbeats 400000 in
theorem loudf_any (x n : Int) (p : Nat) (w : World) (hc : w.cell? ⟨p, 0, none⟩ = some (.int .i64 n)) : Calls Try.prog 38 #[.int .i64 x, .pointer (some ⟨p, 0, none⟩)] w fun e w' => e = .returned (.bool (!Pl.fits x n)) ∧ w = w' := by
  go_enter Try.func38, Try.ntmps38
  go_wp2_with (go_at_call 39; refine (fits_p _ _ _).mono ?_; rintro e w' ⟨rfl, rfl⟩)
  go_ret
  exact ⟨rfl, rfl⟩
set_option maxHeartbeats 400000 in
theorem indexFunc_loud (A : Option Addr) (n c B p : Nat) (xs : List Int) (b : Int) (w : World) (hn : xs.length = n) (hn2 : n ≤ 9223372036854775807) (hx : Rd w B A xs) (hc : w.cell? ⟨p, 0, none⟩ = some (.int .i64 b)) :
    Calls Try.prog 44 #[.slice A n c, .func (Fn.func 38) #[] #[.pointer (some ⟨p, 0, none⟩)]] w fun e w' => (∃ r : Int, e = .returned (.int .i64 r) ∧ decide (0 ≤ r) = Pl.loudB xs b) ∧ w = w' := by
  have HN := Lib.hid hn; clear hn
  go_enter Try.func44, Try.ntmps44
  go_wp2_with fail
  go_loop [8] (fun i => ∃ j : Nat, j ≤ n ∧ i = .int .i64 j ∧ Hid (∀ y ∈ xs.take j, Pl.fits y b = true)) (fun i => n - (intOf i).toNat)
  case atStart => exact ⟨0, by omega, rfl, fun y hy => by simp at hy⟩
  case round =>
    obtain ⟨j, hj, rfl, hp⟩ := hrel
    by_cases hlt : j < n
    · obtain ⟨b', off, x, rfl, hbb, hxx, hc'⟩ := hx.at (k := j) (by rw [HN.out]; exact hlt)
      have hji : (j : Int) < (n : Int) := by omega
      have HX := Lib.hid hxx; clear hxx
      rcases hf : Pl.fits x b
      · have E : Hid (Pl.loudB xs b = true) := Pl.loudB_true HX.out hf
        go_wp2_with (go_at_call 38; refine (loudf_any _ _ _ _ hc).mono ?_; rintro e w' ⟨rfl, rfl⟩)
        go_ret
        exact ⟨⟨(j : Int), rfl, by rw [E.out, decide_eq_true_iff]; omega⟩, rfl⟩
      · have E : Hid (∀ y ∈ xs.take (j + 1), Pl.fits y b = true) := Pl.take_fits HX.out hp.out hf
        go_wp2_with (go_at_call 38; refine (loudf_any _ _ _ _ hc).mono ?_; rintro e w' ⟨rfl, rfl⟩)
        go_round
        case rel => exact ⟨j + 1, by omega, by go_num, E⟩
        case measure => simp [intOf]; omega
    · have hd : decide ((j : Int) < (n : Int)) = false := by simp; omega
      have E : Hid (Pl.loudB xs b = false) := Pl.loudB_of (by
        have h := hp.out
        rw [List.take_of_length_le (by rw [HN.out]; omega)] at h
        exact h)
      go_wp2_with fail
      go_ret
      exact ⟨⟨-1, rfl, by rw [E.out]; rfl⟩, rfl⟩
set_option maxHeartbeats 400000 in
theorem containsFunc_loud (A : Option Addr) (n c B p : Nat) (xs : List Int) (b : Int) (w : World) (hn : xs.length = n) (hn2 : n ≤ 9223372036854775807) (hx : Rd w B A xs) (hc : w.cell? ⟨p, 0, none⟩ = some (.int .i64 b)) :
    Calls Try.prog 37 #[.slice A n c, .func (Fn.func 38) #[] #[.pointer (some ⟨p, 0, none⟩)]] w fun e w' => e = .returned (.bool (Pl.loudB xs b)) ∧ w = w' := by
  go_enter Try.func37, Try.ntmps37
  go_wp2_with (go_at_call 44; refine (indexFunc_loud _ _ _ _ _ _ _ _ hn hn2 hx hc).mono ?_; rintro e w' ⟨⟨r, rfl, hr⟩, rfl⟩)
  go_ret
  exact ⟨rfl, rfl⟩
set_option maxHeartbeats 400000 in
theorem loud_p (A : Option Addr) (n c B : Nat) (xs : List Int) (b : Int) (w : World) (hn : xs.length = n) (hn2 : n ≤ 9223372036854775807) (hx : Rd w B A xs) (hB : B ≤ w.heap.size) : Calls Try.prog 20 #[.slice A n c, .int .i64 b] w fun e w' => e = .returned (.bool (Pl.loudB xs b)) ∧ Below w.heap.size w w' := by
  have b1 : Below w.heap.size w (w.alloc (.cells #[.int .i64 b] 3)) := (Below.refl _ _).alloc (Nat.le_refl _) _
  have r1 := hx.later b1 hB
  have c1 : (w.alloc (.cells #[.int .i64 b] 3)).cell? ⟨w.heap.size, 0, none⟩ = some (.int .i64 b) := (Blk.new w _ _).cell 0
  have HN := Lib.hid hn; clear hn
  go_enter Try.func20, Try.ntmps20
  go_wp2_with fail
  refine (containsFunc_loud _ _ _ _ _ _ _ _ HN.out hn2 r1 c1).mono ?_
  rintro e w' ⟨rfl, rfl⟩
  go_wp2_with fail
  go_ret
  exact ⟨rfl, b1⟩
set_option maxHeartbeats 400000 in
theorem refused_p (m n : Int) (A A' : Option Addr) (p q c c' : Nat) (w : World) : Calls Try.prog 19 #[.int .i64 m, .int .i64 n, .slice A p c, .slice A' q c'] w fun e w' => e = .returned (.int .i64 (if Pl.may m n = false then 1 else if p = q then 0 else 22)) ∧ w = w' := by
  rcases hm : Pl.may m n
  · go_enter Try.func19, Try.ntmps19
    go_wp2_with (go_at_call 25; refine (may_p _ _ _).mono ?_; rintro e w' ⟨rfl, rfl⟩)
    go_ret
    exact ⟨rfl, rfl⟩
  · by_cases hpq : p = q
    · subst hpq
      go_enter Try.func19, Try.ntmps19
      go_wp2_with (go_at_call 25; refine (may_p _ _ _).mono ?_; rintro e w' ⟨rfl, rfl⟩)
      go_ret
      exact ⟨ret_int (by simp), rfl⟩
    · have hd : ((p : Int) != (q : Int)) = true := by rw [bne_iff_ne]; omega
      have HQ := Lib.hid hpq; clear hpq
      go_enter Try.func19, Try.ntmps19
      go_wp2_with (go_at_call 25; refine (may_p _ _ _).mono ?_; rintro e w' ⟨rfl, rfl⟩)
      go_ret
      exact ⟨ret_int (by first | rfl | simp [HQ.out]), rfl⟩
set_option maxHeartbeats 400000 in
theorem loud_r (A : Option Addr) (n c B : Nat) (xs : List Int) (b : Int) (w : World) (hn : xs.length = n) (hn2 : n ≤ 9223372036854775807) (hx : Rd w B A xs) : Calls Try.prog 14 #[.slice A n c, .int .i64 b] w fun e w' => e = .returned (.bool (Pl.loudB xs b)) ∧ w = w' := by
  have HN := Lib.hid hn; clear hn
  go_enter Try.func14, Try.ntmps14
  go_wp2_with fail
  go_loop [5] (fun i => ∃ j : Nat, j ≤ n ∧ i = .int .i64 j ∧ Hid (∀ y ∈ xs.take j, Pl.fits y b = true)) (fun i => n - (intOf i).toNat)
  case atStart => exact ⟨0, by omega, rfl, fun y hy => by simp at hy⟩
  case round =>
    obtain ⟨j, hj, rfl, hp⟩ := hrel
    by_cases hlt : j < n
    · obtain ⟨b', off, x, rfl, hbb, hxx, hc'⟩ := hx.at (k := j) (by rw [HN.out]; exact hlt)
      have hji : (j : Int) < (n : Int) := by omega
      have HX := Lib.hid hxx; clear hxx
      rcases hf : Pl.fits x b
      · have E : Hid (Pl.loudB xs b = true) := Pl.loudB_true HX.out hf
        go_wp2_with (go_at_call 27; refine (fits_r _ _ _).mono ?_; rintro e w' ⟨rfl, rfl⟩)
        go_ret
        exact ⟨ret_bool E.out.symm, rfl⟩
      · have E : Hid (∀ y ∈ xs.take (j + 1), Pl.fits y b = true) := Pl.take_fits HX.out hp.out hf
        go_wp2_with (go_at_call 27; refine (fits_r _ _ _).mono ?_; rintro e w' ⟨rfl, rfl⟩)
        go_round
        case rel => exact ⟨j + 1, by omega, by go_num, E⟩
        case measure => simp [intOf]; omega
    · have hd : decide ((j : Int) < (n : Int)) = false := by simp; omega
      have E : Hid (Pl.loudB xs b = false) := Pl.loudB_of (by
        have h := hp.out
        rw [List.take_of_length_le (by rw [HN.out]; omega)] at h
        exact h)
      go_wp2_with fail
      go_ret
      exact ⟨ret_bool E.out.symm, rfl⟩
set_option maxHeartbeats 400000 in
theorem one_r (m a b : Int) (ha : -8796093022208 ≤ a ∧ a ≤ 8796093022208) (hb : -8796093022208 ≤ b ∧ b ≤ 8796093022208) (w : World) : Calls Try.prog 24 #[.int .i64 m, .int .i64 a, .int .i64 b] w fun e w' => e = .returned (.tuple #[.int .i64 (Pl.ta m a b), .int .i64 (Pl.tb m a b)]) ∧ w = w' := by
  rw [Pl.tb_eq]
  rcases modes (m := m) with rfl | rfl | rfl | ⟨h1, h2, h3⟩
  · go_enter Try.func24, Try.ntmps24
    go_wp2_with fail
    go_ret2
    exact ⟨ret_two rfl rfl, rfl⟩
  · go_enter Try.func24, Try.ntmps24
    go_wp2_with fail
    go_ret2
    exact ⟨ret_two rfl rfl, rfl⟩
  · have e : Pl.floor (a + b) 2 = (a + b) / 2 := by unfold Pl.floor; rw [if_neg (by omega)]
    go_enter Try.func24, Try.ntmps24
    go_wp2_with (go_at_call 40; refine (floor_r _ _ (by omega) (by omega) _).mono ?_; rintro e w' ⟨rfl, rfl⟩)
    go_ret2
    exact ⟨ret_two rfl rfl, rfl⟩
  · have b1 : (m == 1) = false := beq_eq_false_iff_ne.2 h1
    have b2 : (m == 2) = false := beq_eq_false_iff_ne.2 h2
    have b3 : (m == 3) = false := beq_eq_false_iff_ne.2 h3
    have e1 : Pl.ta m a b = a := by unfold Pl.ta; rw [if_neg h2, if_neg h3]
    rw [e1, if_neg (show ¬ (m = 1 ∨ m = 3) by omega)]
    clear h1 h2 h3 e1
    go_enter Try.func24, Try.ntmps24
    go_wp2_with fail
    go_ret2
    exact ⟨ret_two rfl rfl, rfl⟩
end Go.Proofs.Ytjeiglckkjkkdaa
