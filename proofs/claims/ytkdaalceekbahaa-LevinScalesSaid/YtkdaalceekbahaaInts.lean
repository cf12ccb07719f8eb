/- The reference's function that tells whether two lists are the same: it does. -/
import Derived.Test.YtkdaalceekbahaaNumA
import Derived.Test.YtkdaalceekbahaaMem
import Derived.Deep.QuietTactic
import Derived.BigQuiet
namespace Go.Proofs.Ytkdaalceekbahaa
open Go.RowKit
set_option linter.unusedVariables false
theorem take_more {xs ys : List Int} {k : Nat} {x : Int} (h : xs.take k = ys.take k) (hx : xs[k]? = some x) (hy : ys[k]? = some x) : xs.take (k + 1) = ys.take (k + 1) := by
  rw [List.take_add_one, List.take_add_one, h, hx, hy]
theorem take_diff {xs ys : List Int} {k : Nat} {x y : Int} (hx : xs[k]? = some x) (hy : ys[k]? = some y) (hne : x ≠ y) : xs ≠ ys := by
  rintro rfl; rw [hx] at hy; exact hne (Option.some.inj hy)
set_option maxHeartbeats 400000 in
theorem ints_any (A A' : Option Addr) (xs ys : List Int) (n m ca cb B B' : Nat) (w : World) (hn : xs.length = n) (hm : ys.length = m) (h : Rd w B A xs) (h' : Rd w B' A' ys) (hmax : n ≤ 9223372036854775807) (hmax' : m ≤ 9223372036854775807) :
    Calls Try.prog 10 #[.slice A n ca, .slice A' m cb] w fun e w' => e = .returned (.bool (decide (xs = ys))) ∧ ∃ d, w.drewN d = w' := by
  by_cases hl : n = m
  · subst hl
    have Hn := Lib.hid hn; clear hn
    have Hm := Lib.hid hm; clear hm
    go_enter Try.func10, Try.ntmps10
    go_wp2_with fail
    go_loopw [5] (fun i wr => ∃ (k d : Nat), k ≤ n ∧ i = .int .i64 k ∧ wr = w.drewN d ∧ xs.take k = ys.take k) (fun i _ => n - (intOf i).toNat)
    case atStart => exact ⟨0, 0, by omega, rfl, rfl, by simp⟩
    case round =>
      obtain ⟨k, d, hk, rfl, rfl, hp⟩ := hrel
      have HP := Lib.hid hp; clear hp
      by_cases hlt : k < n
      · obtain ⟨b, off, x, rfl, hb, hx, hc⟩ := h.at (k := k) (by rw [Hn.out]; exact hlt)
        obtain ⟨b', off', y, rfl, hb', hy, hc'⟩ := h'.at (k := k) (by rw [Hm.out]; exact hlt)
        have HX := Lib.hid hx; have HY := Lib.hid hy
        clear hx hy
        have hki : (k : Int) < (n : Int) := by omega
        by_cases e : x = y
        · have he : (x != y) = false := by rw [e]; simp
          have HT := Lib.hid (take_more HP.out HX.out (by rw [e]; exact HY.out))
          clear e
          go_wp2_with fail
          go_quiet (fail)
          go_wp2_with fail
          go_roundw
          case rel => exact ⟨k + 1, _, by omega, by go_num, rfl, HT.out⟩
          case measure => simp [intOf]; omega
        · have he : (x != y) = true := by rw [bne_iff_ne]; exact e
          have HT := Lib.hid (take_diff HX.out HY.out e)
          clear e
          go_wp2_with fail
          go_quiet (fail)
          go_wp2_with fail
          go_ret
          exact ⟨ret_bool (by symm; rw [decide_eq_false_iff_not]; exact HT.out), _, (World.drewN_drewN _ _ _).symm⟩
      · have hkn : k = n := by omega
        have HE : Hid (xs = ys) := by
          have e := HP.out
          rw [hkn, List.take_of_length_le (by rw [Hn.out]; omega), List.take_of_length_le (by rw [Hm.out]; omega)] at e
          exact e
        have hd : decide ((k : Int) < (n : Int)) = false := by simp; omega
        clear hkn
        go_wp2_with fail
        go_ret
        exact ⟨ret_bool (by symm; rw [decide_eq_true_iff]; exact HE.out), _, rfl⟩
  · have hd : ((n : Int) != (m : Int)) = true := by rw [bne_iff_ne]; omega
    have hne : decide (xs = ys) = false := by rw [decide_eq_false_iff_not]; rintro rfl; exact hl (hn.symm.trans hm)
    rw [hne]
    clear hn hm hl
    go_enter Try.func10, Try.ntmps10
    go_wp2_with fail
    go_ret
    exact ⟨rfl, 0, rfl⟩
end Go.Proofs.Ytkdaalceekbahaa
