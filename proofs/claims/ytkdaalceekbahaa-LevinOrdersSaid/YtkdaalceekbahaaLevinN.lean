/- The walk of the law on a lower order. -/
import Derived.Test.YtkdaalceekbahaaLevinM
namespace Go.Proofs.Ytkdaalceekbahaa
open Go.RowKit
set_option linter.unusedVariables false
theorem take_own {α : Type} {l m : List α} {k : Nat} (h : l.take k = m) : m = l.take m.length ∧ m.length = min k l.length := by
  subst h
  rw [List.length_take]
  refine ⟨?_, rfl⟩
  rcases Nat.le_total k l.length with h | h
  · rw [Nat.min_eq_left h]
  · rw [Nat.min_eq_right h, List.take_of_length_le h, List.take_of_length_le (Nat.le_refl _)]
set_option maxHeartbeats 3200000 in
theorem walkOrders (A : Option Addr) (n ca : Nat) (xs : List Int) (order less : Int) (w : World) (hn : xs.length = n) (hx : Rd w w.heap.size A xs) (hn2 : n ≤ maxLen) :
    Calls Try.prog 7 #[.slice A n ca, .int .i64 order, .int .i64 less] w fun e w' => e = .returned (.bool true) ∧ Below w.heap.size w w' := by
  unfold maxLen at hn2
  by_cases hn60 : 60 < n
  · have hd : (60 : Int) < (n : Int) := by omega
    clear hn
    go_enter Try.func7, Try.ntmps7
    go_wp2_with (go_at_call 8; refine (known_any _).mono ?_; rintro e w6 ⟨rfl, hb⟩)
    go_ret
    exact ⟨rfl, hb⟩
  have hd1 : decide ((60 : Int) < (n : Int)) = false := by simp; omega
  by_cases hlo : order < less
  · clear hn
    go_enter Try.func7, Try.ntmps7
    go_wp2_with (go_at_call 8; refine (known_any _).mono ?_; rintro e w6 ⟨rfl, hb⟩)
    go_ret
    exact ⟨rfl, hb⟩
  have hd2 : decide (order < less) = false := by simp; omega
  have HN := Lib.hid hn
  obtain ⟨hp, hpl⟩ := take_own (Pl.solve_take xs less order (by omega))
  have hsl := Pl.solve_len xs order
  have hml : Pl.most order ≤ 32 := by unfold Pl.most; omega
  have hmo : Pl.most less = (min (max less 0) 32).toNat := rfl
  have SM := Lib.hid (solve_small xs less)
  have HP := Lib.hid hp
  have HPL := Lib.hid hpl
  have HMO := Lib.hid hmo
  clear hn hp hpl hmo
  go_enter Try.func7, Try.ntmps7
  go_wp2_with fail
  refine (solve_p _ _ _ _ _ _ _ HN.out (by omega) hx (Nat.le_refl _)).mono ?_
  rintro e w1 ⟨⟨A1, c1, rfl, base1, o1⟩, b1⟩
  go_wp2_with fail
  refine (solve_r _ _ _ _ _ _ _ HN.out (by omega) (hx.later b1 (Nat.le_refl _)) b1.size).mono ?_
  rintro e w2 ⟨⟨A2, c2, rfl, base2, o2⟩, b2⟩
  have bb2 := below_next' b1 b1.size b2
  have o1' := o1.later b2
  have HQ : Hid (∀ W : World, Outs 36 W base1 A1 (Pl.solve xs less).length c1 (Pl.solve xs less) → Outs 33 W base2 A2 (Pl.solve xs order).length c2 (Pl.solve xs order) → Calls Try.prog 14 #[.slice A1 (Pl.solve xs less).length c1, .slice A2 (Pl.solve xs order).length c2] W fun e w' => e = .returned (.bool true) ∧ ∃ d, w' = W.drewN d) :=
    fun W h1 h2 => same_any _ _ _ _ _ _ _ _ _ _ _ _ W h1 h2 (by have := HPL.out; omega) (by omega) HP.out SM.out
  clear b1 b2 o1 hx HP SM
  generalize Pl.solve xs order = tt at *
  generalize Pl.solve xs less = ss at *
  have H1 : Hid (Outs 36 w2 base1 A1 ss.length c1 ss) := o1'
  have H2 : Hid (Outs 33 w2 base2 A2 tt.length c2 tt) := o2
  clear o1' o2
  generalize hA : ss.length = p at *
  generalize hB : tt.length = q at *
  have hpl2 : p = min (Pl.most less) q := HPL.out
  have hmo := HMO.out
  clear hA hB HPL HMO
  by_cases h0 : less < 0
  · have hp0 : p = 0 := by omega
    subst hp0
    have hq0 : decide ((q : Int) < 0) = false := by simp
    clear hpl2 hmo
    go_wp2_with fail
    refine (HQ.out _ H1.out H2.out).mono ?_
    rintro e w3 ⟨rfl, d3, hw3⟩
    have bb3 : Below w.heap.size w w3 := hw3 ▸ below_drawn bb2 d3
    clear hw3 H1 H2 HQ bb2
    go_wp2_with fail
    refine (known_any _).mono ?_
    rintro e w6 ⟨rfl, b6⟩
    have bb6 := below_next' bb3 bb3.size b6
    go_wp2_with fail
    go_ret
    exact ⟨rfl, bb6⟩
  · have hd3 : decide (less < 0) = false := by simp; omega
    obtain ⟨l, rfl⟩ := Int.eq_ofNat_of_zero_le (by omega : 0 ≤ less)
    by_cases h1 : q < l
    · have hpq : p = q := by omega
      subst hpq
      have h1i : (p : Int) < (l : Int) := by omega
      clear hpl2 hmo
      go_wp2_with fail
      refine (HQ.out _ H1.out H2.out).mono ?_
      rintro e w3 ⟨rfl, d3, hw3⟩
      have bb3 : Below w.heap.size w w3 := hw3 ▸ below_drawn bb2 d3
      clear hw3 H1 H2 HQ bb2
      go_wp2_with fail
      refine (known_any _).mono ?_
      rintro e w6 ⟨rfl, b6⟩
      have bb6 := below_next' bb3 bb3.size b6
      go_wp2_with fail
      go_ret
      exact ⟨rfl, bb6⟩
    · have hpq : p = l := by omega
      subst hpq
      have h1i : decide ((q : Int) < (p : Int)) = false := by simp; omega
      clear hpl2 hmo
      go_wp2_with fail
      refine (HQ.out _ H1.out H2.out).mono ?_
      rintro e w3 ⟨rfl, d3, hw3⟩
      have bb3 : Below w.heap.size w w3 := hw3 ▸ below_drawn bb2 d3
      clear hw3 H1 H2 HQ bb2
      go_wp2_with fail
      refine (known_any _).mono ?_
      rintro e w6 ⟨rfl, b6⟩
      have bb6 := below_next' bb3 bb3.size b6
      go_wp2_with fail
      go_ret
      exact ⟨rfl, bb6⟩
end Go.Proofs.Ytkdaalceekbahaa
