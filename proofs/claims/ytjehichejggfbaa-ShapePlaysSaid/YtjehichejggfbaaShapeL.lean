/- The walks of the laws of chapter 16 but one: each returns true, for every input; nothing that was there has changed. -/
import Derived.Test.YtjehichejggfbaaShapeE
namespace Go.Proofs.Ytjehichejggfbaa
open Go.RowKit
set_option linter.unusedVariables false
theorem below_next {B : Nat} {a b c : World} (h : Below B a b) (hB : B ≤ b.heap.size) (k : Below b.heap.size b c) : Below B a c := h.trans (k.mono hB)
set_option maxHeartbeats 400000 in
theorem walkNil (x : Int) (w : World) : Calls Try.prog 4 #[.int .i64 x] w fun e w' => e = .returned (.bool true) ∧ Below w.heap.size w w' := by
  go_enter Try.func4, Try.ntmps4
  go_wp2_with (first
    | (go_at_call 12; refine (note_nil _ _).mono ?_; rintro e w' ⟨rfl, rfl⟩)
    | (go_at_call 11; refine (target_nil _ _).mono ?_; rintro e w' ⟨rfl, rfl⟩)
    | (go_at_call 14; refine (kind_nil _).mono ?_; rintro e w' ⟨rfl, rfl⟩)
    | (go_at_call 9; refine (known_any _).mono ?_; rintro e w1 ⟨rfl, hb⟩))
  go_ret
  exact ⟨rfl, hb⟩
set_option maxHeartbeats 400000 in
theorem walkWeights (k : Int) (w : World) : Calls Try.prog 5 #[.int .i64 k] w fun e w' => e = .returned (.bool true) ∧ Below w.heap.size w w' := by
  by_cases h0 : 0 ≤ k
  · by_cases h3 : k ≤ 3
    · have hd0 : decide (k < 0) = false := by simp; omega
      have hd3 : decide (3 < k) = false := by simp; omega
      go_enter Try.func5, Try.ntmps5
      go_wp2_with fail
      refine (new_any _ _ h0 h3).mono ?_
      rintro e w1 ⟨rfl, hw⟩
      have s1 : Shp w1 w.heap.size k 0 0 0 0 := hw ▸ Blk.new _ _ _
      have b1 : Below w.heap.size w w1 := hw ▸ (Below.refl _ _).alloc (Nat.le_refl _) _
      clear hw
      go_wp2_with fail
      refine (kind_any _ _ _ _ _ _ _ s1).mono ?_
      rintro e w2 ⟨rfl, rfl⟩
      go_wp2_with fail
      refine (shapeWeights_p k _ h0 h3).mono ?_
      rintro e w3 ⟨⟨A, n, c, rfl, hk, hl, hr⟩, b3⟩
      have HK := Lib.hid hk; have HL := Lib.hid hl; clear hk hl s1
      have bb3 := below_next b1 b1.size b3
      go_wp2_with fail
      refine (weights_r k _ h0 h3).mono ?_
      rintro e w4 ⟨⟨A', n', c', rfl, hk', hl', hr'⟩, b4⟩
      have HK' := Lib.hid hk'; have HL' := Lib.hid hl'; clear hk' hl'
      have bb4 := below_next bb3 bb3.size b4
      have hr4 := hr.later b4 (Nat.le_refl _)
      clear hr b3 b4 bb3 b1
      have hn3 : (n : Int) ≤ 3 := by rw [HK.out]; exact h3
      have hn3' : (n' : Int) ≤ 3 := by rw [HK'.out]; exact h3
      go_wp2_with fail
      refine (ints_any _ _ _ _ _ _ _ _ _ _ _ HL.out HL'.out hr4 hr' (by omega) (by omega)).mono ?_
      rintro e w5 ⟨rfl, d, rfl⟩
      go_wp2_with (go_at_call 9; refine (known_any _).mono ?_; rintro e w6 ⟨rfl, hb⟩)
      go_ret
      exact ⟨ret_bool (by simp), below_next (below_drawn bb4 d) (below_drawn bb4 d).size hb⟩
    · have h4 : 3 < k := by omega
      go_enter Try.func5, Try.ntmps5
      go_wp2_with (first
        | (go_at_call 8; refine (new_no _ _ (.inr h4)).mono ?_; rintro e w' ⟨rfl, rfl⟩)
        | (go_at_call 15; refine (shapeWeights_no _ _ (.inr h4)).mono ?_; rintro e w' ⟨rfl, rfl⟩)
        | (go_at_call 9; refine (known_any _).mono ?_; rintro e w6 ⟨rfl, hb⟩))
      go_ret
      exact ⟨rfl, hb⟩
  · have h4 : k < 0 := by omega
    go_enter Try.func5, Try.ntmps5
    go_wp2_with (first
      | (go_at_call 8; refine (new_no _ _ (.inl h4)).mono ?_; rintro e w' ⟨rfl, rfl⟩)
      | (go_at_call 15; refine (shapeWeights_no _ _ (.inl h4)).mono ?_; rintro e w' ⟨rfl, rfl⟩)
      | (go_at_call 9; refine (known_any _).mono ?_; rintro e w6 ⟨rfl, hb⟩))
    go_ret
    exact ⟨rfl, hb⟩
set_option maxHeartbeats 800000 in
theorem walkTargets (k : Int) (A A' : Option Addr) (n ca m cb : Nat) (xs ys : List Int) (w : World) (hn : xs.length = n) (hm : ys.length = m) (hx : Rd w w.heap.size A xs) (hy : Rd w w.heap.size A' ys) (hix : I64s xs) (hiy : I64s ys) (hn2 : n ≤ maxLen) (hm2 : m ≤ maxLen) :
    Calls Try.prog 6 #[.int .i64 k, .slice A n ca, .slice A' m cb] w fun e w' => e = .returned (.bool true) ∧ Below w.heap.size w w' := by
  unfold maxLen at hn2 hm2
  by_cases hn200 : 200 < n
  · have hd : (200 : Int) < (n : Int) := by omega
    clear hn hm hix hiy
    go_enter Try.func6, Try.ntmps6
    go_wp2_with (go_at_call 9; refine (known_any _).mono ?_; rintro e w6 ⟨rfl, hb⟩)
    go_ret
    exact ⟨rfl, hb⟩
  have hd1 : decide ((200 : Int) < (n : Int)) = false := by simp; omega
  by_cases hm200 : 200 < m
  · have hd : (200 : Int) < (m : Int) := by omega
    clear hn hm hix hiy
    go_enter Try.func6, Try.ntmps6
    go_wp2_with (go_at_call 9; refine (known_any _).mono ?_; rintro e w6 ⟨rfl, hb⟩)
    go_ret
    exact ⟨rfl, hb⟩
  have hd2 : decide ((200 : Int) < (m : Int)) = false := by simp; omega
  by_cases h4 : k < 0 ∨ 3 < k
  · have hk : (k < 0) ∨ (decide (k < 0) = false ∧ 3 < k) := by
      by_cases h : k < 0
      · exact .inl h
      · exact .inr ⟨by simpa using h, by omega⟩
    clear hn hm hix hiy
    rcases hk with hk | ⟨hk1, hk2⟩
    all_goals
      go_enter Try.func6, Try.ntmps6
      go_wp2_with (first
        | (go_at_call 18; refine (targets_bad _ _ _ _ _ _ _ _ h4).mono ?_; rintro e w' ⟨rfl, rfl⟩)
        | (go_at_call 9; refine (known_any _).mono ?_; rintro e w6 ⟨rfl, hb⟩))
      go_ret
      exact ⟨rfl, hb⟩
  have h0 : 0 ≤ k := by omega
  have h3 : k ≤ 3 := by omega
  have hd3 : decide (k < 0) = false := by simp; omega
  have hd4 : decide (3 < k) = false := by simp; omega
  clear h4
  by_cases hne : n = m
  · subst hne
    have HN := Lib.hid hn; have HM := Lib.hid hm; have HX := Lib.hid hix; have HY := Lib.hid hiy
    clear hn hm hix hiy
    go_enter Try.func6, Try.ntmps6
    go_wp2_with fail
    refine (targets_p k _ _ _ _ _ _ _ _ _ h0 h3 HN.out HM.out (by omega) hx hy (Nat.le_refl _) HX.out HY.out).mono ?_
    rintro e w1 ⟨⟨g2, rfl, hr⟩, b1⟩
    go_wp2_with fail
    have hx1 := hx.later b1 (Nat.le_refl _)
    have hy1 := hy.later b1 (Nat.le_refl _)
    refine (targets_r k _ _ _ _ _ _ _ _ _ h0 h3 HN.out HM.out (by omega) hx1 hy1 b1.size).mono ?_
    rintro e w2 ⟨⟨A2, c2, rfl, hr2⟩, b2⟩
    have bb2 := below_next b1 b1.size b2
    have hr1 := hr.later b2 (Nat.le_refl _)
    have HL := Lib.hid (Pl.trun_len k xs ys n).1
    clear hx1 hy1 hr b1
    go_wp2_with fail
    refine (ints_any _ _ _ _ _ _ _ _ _ _ _ HL.out HL.out hr1 hr2 (by omega) (by omega)).mono ?_
    rintro e w3 ⟨rfl, d, hw3⟩
    have b3 : Below w.heap.size w w3 := hw3 ▸ below_drawn bb2 d
    have hr3 : Rd w3 w2.heap.size (some ⟨g2, 0, none⟩) (Pl.trun k xs ys n).1 := hw3 ▸ (hr1.more (b2.size))
    clear hw3 bb2 hr1 hr2 b2
    go_wp2_with fail
    generalize w2.heap.size = B2 at *
    go_loopw [9] (fun i wr => ∃ j : Nat, j ≤ n ∧ i = .int .i64 j ∧ Rd wr B2 (some ⟨g2, 0, none⟩) (Pl.trun k xs ys n).1 ∧ Below w.heap.size w wr) (fun i _ => n - (intOf i).toNat)
    case atStart => exact ⟨0, by omega, rfl, hr3, b3⟩
    case round =>
      obtain ⟨j, hj, rfl, hr, hb⟩ := hrel
      clear hr3 b3
      by_cases hlt : j < n
      · obtain ⟨b, off, x, rfl, hbb, hxx, hc⟩ := (hx.later hb (Nat.le_refl _)).at (k := j) (by rw [HN.out]; exact hlt)
        obtain ⟨b2, off2, e2, hb2, hc2⟩ := hr j _ (Pl.trun_get k xs ys n j hlt)
        injection e2 with e2; injection e2 with e3 e4
        subst e3; subst e4
        rw [Nat.zero_add] at hc2
        have ht := Pl.tnow_near k xs ys j x hxx
        have hT := Pl.tnow_le k xs ys j
        have hcl := Pl.clamp_le x (-4294967296) 4294967296 (by omega)
        generalize Pl.tnow k xs ys j = T at *
        obtain ⟨X, hX⟩ : ∃ X, X = Pl.clamp x (-4294967296) 4294967296 := ⟨_, rfl⟩
        have hq : ∀ W : World, Calls Try.prog 20 #[.int .i64 x] W fun e w' => e = .returned (.int .i64 X) ∧ w' = W := fun W => (loud_r x W).mono fun _ _ ⟨he, hw⟩ => ⟨by rw [he, hX], hw.symm⟩
        rw [← hX] at ht hcl
        have HQ := Lib.hid hq
        have ew : IntKind.i64.wrap (T - X) = T - X := IntWalk.i64_in _ (by omega)
        have hji : (j : Int) < (n : Int) := by omega
        have hji0 : (0 : Int) ≤ (j : Int) := by omega
        have hdd : decide ((536870912 : Int) < T - X) = false := by simp; omega
        have hR := Lib.hid hr; have hBB := Lib.hid hb
        clear hX hq hxx hr hb
        go_wp2_with fail
        go_quiet ((go_at_call 20; exact Calls.quiet_of_same (HQ.out _)))
        clear ew
        go_wp2_with fail
        go_roundw
        case rel => exact ⟨j + 1, by omega, by go_num, hR.out, below_drawn hBB.out _⟩
        case measure => simp [intOf]; omega
      · have hd : decide ((j : Int) < (n : Int)) = false := by simp; omega
        go_wp2_with (go_at_call 9; refine (known_any _).mono ?_; rintro e w6 ⟨rfl, hb6⟩)
        go_ret
        exact ⟨rfl, below_next hb hb.size hb6⟩
  · have hdm : ((n : Int) != (m : Int)) = true := by rw [bne_iff_ne]; omega
    clear hn hm hix hiy
    go_enter Try.func6, Try.ntmps6
    go_wp2_with fail
    refine (targets_len _ _ _ _ _ _ _ _ h0 h3 hne).mono ?_
    rintro e w1 ⟨rfl, b1⟩
    go_wp2_with (go_at_call 9; refine (known_any _).mono ?_; rintro e w6 ⟨rfl, hb⟩)
    go_ret
    exact ⟨rfl, below_next b1 b1.size hb⟩
end Go.Proofs.Ytjehichejggfbaa
