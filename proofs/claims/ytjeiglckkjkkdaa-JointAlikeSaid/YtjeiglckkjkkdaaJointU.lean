/- The walks of how rough a list is, and of two channels that are the same, made one of halves and one of differences. -/
import Derived.Test.YtjeiglckkjkkdaaJointT
import Derived.RegionTactic
import Derived.BigRegion
namespace Go.Proofs.Ytjeiglckkjkkdaa
open Go.RowKit
set_option linter.unusedVariables false
theorem absI_eq (x : Int) : (if x < -x then -x else x) = Pl.absI x := by unfold Pl.absI; split <;> split <;> omega
set_option maxHeartbeats 800000 in
theorem rough_any (A : Option Addr) (n c B : Nat) (xs : List Int) (w : World) (hn : xs.length = n) (hn2 : n ≤ 1000000) (hx : Rd w B A xs) (hf : ∀ x ∈ xs, Pl.Far x) :
    Calls Try.prog 18 #[.slice A n c] w fun e w' => e = .returned (.int .i64 (Pl.rough xs)) ∧ Below w.heap.size w w' := by
  have hd := Pl.d1_le (Pl.d1 xs) (2 * 1099511627776) (by omega) (by omega) (Pl.d1_le xs 1099511627776 (by omega) (by omega) hf)
  have HD := Lib.hid hd; clear hd hf
  have HL : Hid ((Pl.d1 (Pl.d1 xs)).length = n) := by show _ = _; rw [Pl.d1_len, Pl.d1_len, hn]
  have HR : Hid (Pl.rough xs = Pl.rsum (Pl.d1 (Pl.d1 xs))) := rfl
  rw [HR.out]
  go_enter Try.func18, Try.ntmps18
  go_wp2_with fail
  refine (steps_any _ _ _ _ _ _ hn hn2 hx).mono ?_
  rintro e w1 ⟨⟨A1, c1, rfl, r1⟩, b1⟩
  clear hn
  generalize Pl.d1 (Pl.d1 xs) = ds at *
  go_wp2_with fail
  go_loop [3, 9] (fun s i => ∃ j : Nat, j ≤ n ∧ i = .int .i64 j ∧ s = .int .i64 (Pl.rsum (ds.take j))) (fun _ i => n - (intOf i).toNat)
  case atStart => exact ⟨0, by omega, rfl, rfl⟩
  case round =>
    obtain ⟨j, hj, rfl, rfl⟩ := hrel
    by_cases hlt : j < n
    · obtain ⟨b, off, x, rfl, hbb, hxx, hc⟩ := r1.at (k := j) (by rw [HL.out]; exact hlt)
      have hji : (j : Int) < (n : Int) := by omega
      have hxb := HD.out x (List.mem_of_getElem? hxx)
      have E : Hid (Pl.rsum (ds.take (j + 1)) = Pl.add (Pl.rsum (ds.take j)) (Pl.absI x)) := by
        show _ = _
        rw [List.take_add_one, hxx]; exact Pl.rsum_snoc _ _
      have ea : max x (-x) = Pl.absI x := by unfold Pl.absI; omega
      clear hxx
      go_wp2_with fail
      refine (add_p _ _ _).mono ?_
      rintro e w' ⟨rfl, rfl⟩
      go_wp2_with fail
      go_round
      case rel => exact ⟨j + 1, by omega, by congr 1, by rw [E.out]⟩
      case measure => simp [intOf]; omega
    · have hj2 : j = n := by omega
      subst hj2
      have hnl : ¬((j : Int) < (j : Int)) := by omega
      have et : ds.take j = ds := List.take_of_length_le (by rw [HL.out]; exact Nat.le_refl _)
      rw [et]
      go_wp2_with fail
      go_ret
      exact ⟨ret_int HR.out.symm, b1⟩
end Go.Proofs.Ytjeiglckkjkkdaa
