/- The walk of the law on two channels that are alike. -/
import Derived.Test.YtjeiglckkjkkdaaJointW
import Derived.Test.YtjeiglckkjkkdaaJointL
namespace Go.Proofs.Ytjeiglckkjkkdaa
open Go.RowKit
set_option linter.unusedVariables false
set_option maxHeartbeats 1600000 in
theorem walkAlike (A : Option Addr) (n ca : Nat) (xs : List Int) (w : World) (hn : xs.length = n) (hx : Rd w w.heap.size A xs) (hix : I64s xs) (hn2 : n ≤ maxLen) :
    Calls Try.prog 6 #[.slice A n ca] w fun e w' => e = .returned (.bool true) ∧ Below w.heap.size w w' := by
  unfold maxLen at hn2
  by_cases hn200 : 200 < n
  · have hd : (200 : Int) < (n : Int) := by omega
    clear hn
    go_enter Try.func6, Try.ntmps6
    go_wp2_with (go_at_call 7; refine (known_any _).mono ?_; rintro e w6 ⟨rfl, hb⟩)
    go_ret
    exact ⟨rfl, hb⟩
  have hd1 : decide ((200 : Int) < (n : Int)) = false := by simp; omega
  have HN := Lib.hid hn
  have HI := Lib.hid hix
  clear hn hix
  go_enter Try.func6, Try.ntmps6
  go_wp2_with fail
  go_loopw [3, 4] (fun o i wr => ∃ (j : Nat) (Ao : Option Addr) (co : Nat), j ≤ n ∧ i = .int .i64 j ∧ o = .slice Ao j co ∧ Own wr w.heap.size Ao j co ((xs.map Pl.near).take j) ∧ Below w.heap.size w wr) (fun _ i _ => n - (intOf i).toNat)
  case atStart => exact ⟨0, none, 0, by omega, rfl, rfl, by simpa using Own.nil w w.heap.size, Below.refl _ _⟩
  case round =>
    obtain ⟨j, A1, c1, hj, rfl, rfl, ho, hb⟩ := hrel
    by_cases hlt : j < n
    · obtain ⟨b, off, x, rfl, hbb, hxx, hc⟩ := (hx.later hb (Nat.le_refl _)).at (k := j) (by rw [HN.out]; exact hlt)
      have hji : (j : Int) < (n : Int) := by omega
      have hw3 := hb.size
      have HX2 := Lib.hid hxx
      clear hxx
      by_cases hp : 1099511627776 < x
      · have en : Hid (x / 16777216 = Pl.near x) := by show _ = _; unfold Pl.near; rw [if_pos (.inl hp)]
        go_wp2_with (at_builtin; refine app1 rfl (.tmp 29) (.tmp 31) rfl w.heap.size A1 j c1 _ (x / 16777216) rfl rfl ho (by omega) hw3 ?_; intro A4 c4 w4 o4 g4 e4)
        have bb4 := hb.grown g4 hw3 (fun g h => (ho.lt h).1)
        have O4 : Own w4 w.heap.size A4 (j + 1) c4 ((xs.map Pl.near).take (j + 1)) := by
          rw [List.take_add_one, List.getElem?_map, HX2.out]; rw [en.out] at o4; exact o4
        clear o4 g4 e4 ho hb hc
        go_roundw
        case rel => exact ⟨j + 1, A4, c4, by omega, by go_num, rfl, O4, bb4⟩
        case measure => simp [intOf]; omega
      · have hdp : decide (1099511627776 < x) = false := by simpa using hp
        by_cases hq : x < -1099511627776
        · have en : Hid (x / 16777216 = Pl.near x) := by show _ = _; unfold Pl.near; rw [if_pos (.inr hq)]
          go_wp2_with (at_builtin; refine app1 rfl (.tmp 29) (.tmp 31) rfl w.heap.size A1 j c1 _ (x / 16777216) rfl rfl ho (by omega) hw3 ?_; intro A4 c4 w4 o4 g4 e4)
          have bb4 := hb.grown g4 hw3 (fun g h => (ho.lt h).1)
          have O4 : Own w4 w.heap.size A4 (j + 1) c4 ((xs.map Pl.near).take (j + 1)) := by
            rw [List.take_add_one, List.getElem?_map, HX2.out]; rw [en.out] at o4; exact o4
          clear o4 g4 e4 ho hb hc
          go_roundw
          case rel => exact ⟨j + 1, A4, c4, by omega, by go_num, rfl, O4, bb4⟩
          case measure => simp [intOf]; omega
        · have hdq : decide (x < -1099511627776) = false := by simpa using hq
          have en : Hid (x = Pl.near x) := by show _ = _; unfold Pl.near; rw [if_neg (by omega)]
          go_wp2_with (at_builtin; refine app1 rfl (.tmp 29) (.tmp 31) rfl w.heap.size A1 j c1 _ x rfl rfl ho (by omega) hw3 ?_; intro A4 c4 w4 o4 g4 e4)
          have bb4 := hb.grown g4 hw3 (fun g h => (ho.lt h).1)
          have O4 : Own w4 w.heap.size A4 (j + 1) c4 ((xs.map Pl.near).take (j + 1)) := by
            rw [List.take_add_one, List.getElem?_map, HX2.out]; rw [en.out] at o4; exact o4
          clear o4 g4 e4 ho hb hc
          go_roundw
          case rel => exact ⟨j + 1, A4, c4, by omega, by go_num, rfl, O4, bb4⟩
          case measure => simp [intOf]; omega
    · have hdj : decide ((j : Int) < (n : Int)) = false := by simp; omega
      have ejn : n = j := by omega
      subst ejn
      have et : (xs.map Pl.near).take n = xs.map Pl.near := List.take_of_length_le (by rw [List.length_map, HN.out]; exact Nat.le_refl _)
      rw [et] at ho
      have hl : (xs.map Pl.near).length = n := by rw [List.length_map]; exact HN.out
      have hf : ∀ z ∈ xs.map Pl.near, Pl.Far z := by
        intro z hz
        obtain ⟨x, hxm, rfl⟩ := List.mem_map.1 hz
        have := HI.out x hxm
        exact Pl.near_far x (by omega) (by omega)
      have r0 := ho.rd
      have hw3 := hb.size
      clear et ho
      generalize xs.map Pl.near = bs at *
      go_wp2_with fail
      refine (choose_same _ _ _ _ _ _ hl (by omega) r0 (Nat.le_refl _) hf).mono ?_
      rintro e w1 ⟨rfl, b1⟩
      have bb1 := below_next' hb hw3 b1
      have hw4 := bb1.size
      have r1 := r0.later b1 (Nat.le_refl _)
      clear r0 b1 hb
      by_cases hR : Pl.rough bs = 0
      · have hpk : Pl.pick (Pl.rough bs) = 0 := by unfold Pl.pick; rw [if_pos hR]
        rw [hpk]
        have HRR := Lib.hid hR
        clear hR hpk
        go_wp2_with fail
        refine (rough_any _ _ _ _ _ _ hl (by omega) r1 hf).mono ?_
        rintro e w2 ⟨rfl, b2⟩
        rw [HRR.out]
        have bb2 := below_next' bb1 hw4 b2
        have hw5 := bb2.size
        clear b2 bb1 r1
        go_wp2_with fail
        refine (known_any _).mono ?_
        rintro e w3 ⟨rfl, b3⟩
        have bb3 := below_next' bb2 hw5 b3
        go_wp2_with fail
        go_ret
        exact ⟨rfl, bb3⟩
      · have hpk : Pl.pick (Pl.rough bs) = 1 := by unfold Pl.pick; rw [if_neg hR]
        rw [hpk]
        clear hpk
        go_wp2_with fail
        refine (rough_any _ _ _ _ _ _ hl (by omega) r1 hf).mono ?_
        rintro e w2 ⟨rfl, b2⟩
        have bb2 := below_next' bb1 hw4 b2
        have hw5 := bb2.size
        clear b2 bb1 r1
        have hdR : decide (Pl.rough bs = 0) = false := by simpa using hR
        go_wp2_with fail
        refine (known_any _).mono ?_
        rintro e w3 ⟨rfl, b3⟩
        have bb3 := below_next' bb2 hw5 b3
        go_wp2_with fail
        go_ret
        exact ⟨rfl, bb3⟩
end Go.Proofs.Ytjeiglckkjkkdaa
