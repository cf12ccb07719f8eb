/- The walk of the law on the norm. -/
import Derived.Test.YtkdaalceekbahaaLevinK
namespace Go.Proofs.Ytkdaalceekbahaa
open Go.RowKit
set_option linter.unusedVariables false
set_option maxHeartbeats 1600000 in
theorem walkNorms (A : Option Addr) (n ca : Nat) (xs : List Int) (w : World) (hn : xs.length = n) (hx : Rd w w.heap.size A xs) (hn2 : n ≤ maxLen) :
    Calls Try.prog 3 #[.slice A n ca] w fun e w' => e = .returned (.bool true) ∧ Below w.heap.size w w' := by
  unfold maxLen at hn2
  by_cases hn100 : 100 < n
  · have hd : (100 : Int) < (n : Int) := by omega
    clear hn
    go_enter Try.func3, Try.ntmps3
    go_wp2_with (go_at_call 8; refine (known_any _).mono ?_; rintro e w6 ⟨rfl, hb⟩)
    go_ret
    exact ⟨rfl, hb⟩
  have hd1 : decide ((100 : Int) < (n : Int)) = false := by simp; omega
  have HN := Lib.hid hn
  clear hn
  go_enter Try.func3, Try.ntmps3
  go_wp2_with fail
  refine (norm_p _ _ _ _ _ _ HN.out (by omega) hx (Nat.le_refl _)).mono ?_
  rintro e w1 ⟨⟨A1, n1, c1, rfl, l1, r1⟩, b1⟩
  have L1 := Lib.hid l1
  have hnl : n1 ≤ n := by rw [← L1.out, ← HN.out]; unfold Pl.norm; split <;> simp
  clear l1
  go_wp2_with fail
  refine (norm_r _ _ _ _ _ _ HN.out (by omega) (hx.later b1 (Nat.le_refl _)) b1.size).mono ?_
  rintro e w2 ⟨⟨A2, n2, c2, rfl, l2, r2⟩, b2⟩
  have L2 := Lib.hid l2
  have e12 : n2 = n1 := by rw [← L1.out, ← L2.out]
  subst e12
  have bb2 := below_next' b1 b1.size b2
  have r1' := r1.later b2 (Nat.le_refl _)
  clear l2 b1 b2 r1
  go_wp2_with fail
  refine (ints_any _ _ _ _ _ _ _ _ _ _ _ L1.out L1.out r1' r2 (by omega) (by omega)).mono ?_
  rintro e w3 ⟨rfl, d3, hw3⟩
  have r3 : Rd w3 w1.heap.size A1 (Pl.norm xs) := hw3 ▸ (show Rd (w2.drewN d3) w1.heap.size A1 (Pl.norm xs) from r1')
  have bb3 : Below w.heap.size w w3 := hw3 ▸ below_drawn bb2 d3
  have hfst := @Pl.norm_first xs
  have HF := Lib.hid hfst
  clear hw3 r1' r2 bb2 hfst
  rw [show decide (Pl.norm xs = Pl.norm xs) = true by simp]
  generalize hl : Pl.norm xs = l at *
  clear hl
  go_wp2_with fail
  go_loopw [4] (fun i wr => ∃ k d : Nat, k ≤ n2 ∧ i = .int .i64 k ∧ wr = w3.drewN d) (fun i _ => n2 - (intOf i).toNat)
  case atStart => exact ⟨0, 0, by omega, rfl, rfl⟩
  case round =>
    obtain ⟨k, d, hk, rfl, hwr⟩ := hrel
    have rW : Rd wr w1.heap.size A1 l := hwr ▸ r3
    have HW := Lib.hid hwr
    clear hwr
    by_cases hlt : k < n2
    · obtain ⟨b, off, x, rfl, hb, hxx, hc⟩ := rW.at (k := k) (by rw [L1.out]; exact hlt)
      obtain ⟨b', off', x0, e2, _, hx0, hc0⟩ := rW.at (k := 0) (by rw [L1.out]; omega)
      injection e2 with e2; injection e2 with e3 e4
      subst e3; subst e4
      have hne : l ≠ [] := by rintro rfl; simp at hx0
      have f := HF.out hne
      rw [getD_get hx0] at f
      have fx := f.2.2 x (List.mem_of_getElem? hxx)
      have f1 := f.1
      have f2 := f.2.1
      have hc0' : wr.cell? ⟨b, off, none⟩ = some (.int .i64 x0) := hc0
      have hki : (k : Int) < (n2 : Int) := by omega
      have hn0 : (0 : Int) < (n2 : Int) := by omega
      have g1 : decide (x0 < 1073741824) = false := by simp; omega
      have g2 : decide (2147483648 ≤ x0) = false := by simp; omega
      have g3 : decide (x0 < x) = false := by simp; omega
      have g4 : decide (x < -x0) = false := by simp; omega
      have wn : IntKind.i64.wrap (-x0) = -x0 := IntWalk.i64_in _ (by omega)
      clear hxx hx0 hne f hc0 rW
      go_wp2_with fail
      go_quiet (fail)
      go_wp2_with fail
      go_roundw
      case rel => exact ⟨k + 1, _, by omega, by go_num, by rw [HW.out, World.drewN_drewN]⟩
      case measure => simp [intOf]; omega
    · have ek : n2 = k := by omega
      subst ek
      have hdk : decide ((n2 : Int) < (n2 : Int)) = false := by simp
      have bb4 : Below w.heap.size w wr := HW.out ▸ below_drawn bb3 d
      clear bb3 rW
      go_wp2_with (go_at_call 8; refine (known_any _).mono ?_; rintro e w6 ⟨rfl, hb6⟩)
      go_ret
      exact ⟨rfl, below_next' bb4 bb4.size hb6⟩
end Go.Proofs.Ytkdaalceekbahaa
