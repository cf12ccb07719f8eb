/- The walk of the law on numbers that are all multiplied by one power of 2. -/
import Derived.Test.YtkdaalceekbahaaLevinM
import Derived.Test.YtkdaalceekbahaaLevinR
namespace Go.Proofs.Ytkdaalceekbahaa
open Go.RowKit
set_option linter.unusedVariables false
/-- two rows that lie apart -/
def Apart (A B : Option Addr) : Prop := ∀ g, blk A = some g → blk B ≠ some g
theorem Apart.kept {A B : Option Addr} (h : Apart A B) : blk B = none ∨ blk B ≠ blk A := by
  rcases hb : blk B with _ | g
  · exact .inl rfl
  · exact .inr fun e => h g e.symm hb
theorem Apart.symm {A B : Option Addr} (h : Apart A B) : Apart B A := fun g h1 h2 => h g h2 h1
theorem Apart.next {A A' B : Option Addr} {w : World} {base n c : Nat} {xs : List Int} {k : Nat} (h : Apart A B) (ho : Own w base B n c xs) (e : blk A' = blk A ∨ blk A' = some k) (hk : w.heap.size ≤ k) : Apart A' B := by
  intro g hg hB
  rcases e with e | e
  · exact h g (e ▸ hg) hB
  · rw [e] at hg; have := (ho.lt hB).2; injection hg with hg; omega
theorem base_take {xs : List Int} {k : Nat} {x : Int} (h : xs[k]? = some x) : (Pl.base xs).take (k + 1) = (Pl.base xs).take k ++ [x / 262144] := by
  unfold Pl.base; rw [List.take_add_one, List.getElem?_map, h]; rfl
theorem times_take {xs : List Int} {k : Nat} {x : Int} (b : Nat) (h : xs[k]? = some x) : (Pl.times b xs).take (k + 1) = (Pl.times b xs).take k ++ [x / 262144 * Pl.pow b] := by
  unfold Pl.times Pl.base; rw [List.take_add_one, List.getElem?_map, List.getElem?_map, h]; rfl
set_option maxHeartbeats 3200000 in
theorem walkScales (A : Option Addr) (n ca : Nat) (xs : List Int) (by_ order : Int) (w : World) (hn : xs.length = n) (hx : Rd w w.heap.size A xs) (hix : I64s xs) (hn2 : n ≤ maxLen) :
    Calls Try.prog 6 #[.slice A n ca, .int .i64 by_, .int .i64 order] w fun e w' => e = .returned (.bool true) ∧ Below w.heap.size w w' := by
  unfold maxLen at hn2
  by_cases hn60 : 60 < n
  · have hd : (60 : Int) < (n : Int) := by omega
    clear hn
    go_enter Try.func6, Try.ntmps6
    go_wp2_with (go_at_call 8; refine (known_any _).mono ?_; rintro e w6 ⟨rfl, hb⟩)
    go_ret
    exact ⟨rfl, hb⟩
  have hd1 : decide ((60 : Int) < (n : Int)) = false := by simp; omega
  have HN := Lib.hid hn
  have HI := Lib.hid hix
  obtain ⟨b, hb15, hand⟩ : ∃ b : Nat, b ≤ 15 ∧ bits .and .i64 by_ 15 = (b : Int) := ⟨(by_ % 16).toNat, by omega, by rw [Pl.i64_and15]; omega⟩
  have hpw : (2 : Int) ^ b = Pl.pow b := (Pl.pow_two_nat b (by omega)).symm
  clear hn hix
  go_enter Try.func6, Try.ntmps6
  go_wp2_with fail
  clear hand
  go_loopw [7, 8, 9, 10] (fun l m i _ wr => ∃ (j : Nat) (Al : Option Addr) (cl : Nat) (Am : Option Addr) (cm : Nat), j ≤ n ∧ i = .int .i64 j ∧ l = .slice Al j cl ∧ m = .slice Am j cm ∧
      Own wr w.heap.size Al j cl ((Pl.base xs).take j) ∧ Own wr w.heap.size Am j cm ((Pl.times b xs).take j) ∧ Apart Al Am ∧ Below w.heap.size w wr) (fun _ _ i _ _ => n - (intOf i).toNat)
  case atStart => exact ⟨0, none, 0, none, 0, by omega, rfl, rfl, rfl, by simpa using Own.nil w w.heap.size, by simpa using Own.nil w w.heap.size, (fun g h => by cases h), Below.refl _ _⟩
  case round =>
    obtain ⟨j, Al, cl, Am, cm, hj, rfl, rfl, rfl, ol, om, hap, hb⟩ := hrel
    by_cases hlt : j < n
    · obtain ⟨bA, oA, x, rfl, hbb, hxx, hc⟩ := (hx.later hb (Nat.le_refl _)).at (k := j) (by rw [HN.out]; exact hlt)
      have hji : (j : Int) < (n : Int) := by omega
      have hw3 := hb.size
      have HT := Lib.hid (base_take hxx)
      have HM := Lib.hid (times_take b hxx)
      have hx64 := HI.out x (List.mem_of_getElem? hxx)
      have ht := Pl.times_le (x := x / 262144) (by omega) b hb15
      clear hxx
      go_wp2_with (first
        | (at_builtin; refine app1 rfl (.tmp 30) (.tmp 32) rfl w.heap.size Al j cl _ (x / 262144) rfl rfl ol (by omega) hw3 ?_; intro A4 c4 w4 o4 g4 e4; have bb4 := hb.grown g4 hw3 (fun g h => (ol.lt h).1); have om4 := om.kept g4 hap.kept; have hap4 : Apart A4 Am := hap.next om e4 (Nat.le_succ _); rw [← HT.out] at o4; have hw4 := bb4.size; clear g4 e4 ol om hap hb hc)
        | (at_builtin; refine app1 rfl (.tmp 34) (.tmp 38) rfl w.heap.size Am j cm _ (x / 262144 * Pl.pow b) rfl rfl om4 (by omega) hw4 ?_; intro A5 c5 w5 o5 g5 e5))
      have bb5 := bb4.grown g5 hw4 (fun g h => (om4.lt h).1)
      have ol5 := o4.kept g5 hap4.symm.kept
      have hap5 : Apart A4 A5 := (hap4.symm.next o4 e5 (Nat.le_succ _)).symm
      rw [← HM.out] at o5
      clear g5 e5 om4 o4 hap4 bb4
      go_roundw
      case rel => exact ⟨j + 1, A4, c4, A5, c5, by omega, by go_num, rfl, rfl, ol5, o5, hap5, bb5⟩
      case measure => simp [intOf]; omega
    · have hdj : decide ((j : Int) < (n : Int)) = false := by simp; omega
      have ejn : n = j := by omega
      subst ejn
      have lb : (Pl.base xs).length = n := by unfold Pl.base; rw [List.length_map, HN.out]
      have lt : (Pl.times b xs).length = n := by unfold Pl.times; rw [List.length_map, lb]
      have r0 : Rd wr wr.heap.size Al (Pl.base xs) := by have := ol.rd; rwa [List.take_of_length_le (by omega)] at this
      have m0 : Rd wr wr.heap.size Am (Pl.times b xs) := by have := om.rd; rwa [List.take_of_length_le (by omega)] at this
      have LB := Lib.hid lb; have LT := Lib.hid lt
      have hsl := Pl.solve_len (Pl.base xs) order
      have hml : Pl.most order ≤ 32 := by unfold Pl.most; omega
      have HST := Lib.hid (Pl.solve_times HI.out b hb15 order)
      have hw3 := hb.size
      clear ol om hap lb lt hpw
      go_wp2_with fail
      refine (solve_r _ _ _ _ _ _ _ LB.out (by omega) r0 (Nat.le_refl _)).mono ?_
      rintro e w1 ⟨⟨A1, c1, rfl, base1, o1⟩, b1⟩
      have bb1 := below_next' hb hw3 b1
      have m1 := m0.later b1 (Nat.le_refl _)
      clear r0 m0 hb
      have hs1 := b1.size
      clear b1
      go_wp2_with fail
      refine (solve_p _ _ _ _ _ _ _ LT.out (by omega) m1 hs1).mono ?_
      rintro e w2 ⟨⟨A2, c2, rfl, base2, o2⟩, b2⟩
      have bb2 := below_next' bb1 bb1.size b2
      have o1' := o1.later b2
      rw [HST.out] at o2
      rw [HST.out]
      have HQ : Hid (Calls Try.prog 14 #[.slice A2 (Pl.solve (Pl.base xs) order).length c2, .slice A1 (Pl.solve (Pl.base xs) order).length c1] w2 fun e w' => e = .returned (.bool true) ∧ ∃ d, w' = w2.drewN d) :=
        same_all _ _ _ _ _ _ _ _ _ _ _ _ rfl o2 o1'
      clear b2 o1 o1' o2 m1 bb1
      generalize Pl.solve (Pl.base xs) order = ss at *
      go_wp2_with fail
      refine HQ.out.mono ?_
      rintro e w3 ⟨rfl, d3, hw3'⟩
      have bb3 : Below w.heap.size w w3 := hw3' ▸ below_drawn bb2 d3
      clear hw3' HQ bb2
      go_wp2_with fail
      refine (known_any _).mono ?_
      rintro e w6 ⟨rfl, b6⟩
      have bb6 := below_next' bb3 bb3.size b6
      go_wp2_with fail
      go_ret
      exact ⟨rfl, bb6⟩
end Go.Proofs.Ytkdaalceekbahaa
