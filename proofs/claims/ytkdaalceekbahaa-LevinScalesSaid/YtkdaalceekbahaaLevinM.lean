/- The walk of the law on all steps. -/
import Derived.Test.YtkdaalceekbahaaLevinL
namespace Go.Proofs.Ytkdaalceekbahaa
open Go.RowKit
set_option linter.unusedVariables false
/-- the coefficients of a step of a list are not many -/
theorem solve_small (xs : List Int) (order : Int) : (∀ s ∈ Pl.solve xs order, s.2.2.length ≤ 1000) := by
  intro s hs
  obtain ⟨i, hi⟩ := List.mem_iff_getElem?.1 hs
  have hl := Pl.solve_len xs order
  have hm : Pl.most order ≤ 32 := by unfold Pl.most; omega
  have hil : i < (Pl.solve xs order).length := (List.getElem?_eq_some_iff.1 hi).1
  unfold Pl.solve at hi hil hl
  split at hi
  · simp at hi
  · rename_i h
    have hf := Pl.norm_first h
    have := (Pl.solveF_all _ _ _ _ i s (by omega) hi).2.2.2.1
    rw [if_neg h] at hl hil
    simp at this
    omega
theorem same_all (T1 T2 : TypeId) (A B : Option Addr) (n ca cb b1 b2 : Nat) (xs : List Int) (order : Int) (w : World) (hn : (Pl.solve xs order).length = n) (h1 : Outs T1 w b1 A n ca (Pl.solve xs order)) (h2 : Outs T2 w b2 B n cb (Pl.solve xs order)) :
    Calls Try.prog 14 #[.slice A n ca, .slice B n cb] w fun e w' => e = .returned (.bool true) ∧ ∃ d, w' = w.drewN d :=
  have hm : n ≤ 1000 := by
    have h3 := Pl.solve_len xs order
    have h4 : Pl.most order ≤ 32 := by unfold Pl.most; omega
    omega
  same_any T1 T2 A B n n ca cb b1 b2 _ _ w h1 h2 (Nat.le_refl _) hm (by rw [List.take_of_length_le (by omega)]) (solve_small xs order)
set_option maxHeartbeats 3200000 in
theorem walkSolves (A : Option Addr) (n ca : Nat) (xs : List Int) (order : Int) (w : World) (hn : xs.length = n) (hx : Rd w w.heap.size A xs) (hn2 : n ≤ maxLen) :
    Calls Try.prog 4 #[.slice A n ca, .int .i64 order] w fun e w' => e = .returned (.bool true) ∧ Below w.heap.size w w' := by
  unfold maxLen at hn2
  by_cases hn60 : 60 < n
  · have hd : (60 : Int) < (n : Int) := by omega
    clear hn
    go_enter Try.func4, Try.ntmps4
    go_wp2_with (go_at_call 8; refine (known_any _).mono ?_; rintro e w6 ⟨rfl, hb⟩)
    go_ret
    exact ⟨rfl, hb⟩
  have hd1 : decide ((60 : Int) < (n : Int)) = false := by simp; omega
  have HN := Lib.hid hn
  clear hn
  go_enter Try.func4, Try.ntmps4
  go_wp2_with fail
  refine (solve_p _ _ _ _ _ _ _ HN.out (by omega) hx (Nat.le_refl _)).mono ?_
  rintro e w1 ⟨⟨A1, c1, rfl, base1, o1⟩, b1⟩
  go_wp2_with fail
  refine (solve_r _ _ _ _ _ _ _ HN.out (by omega) (hx.later b1 (Nat.le_refl _)) b1.size).mono ?_
  rintro e w2 ⟨⟨A2, c2, rfl, base2, o2⟩, b2⟩
  have bb2 := below_next' b1 b1.size b2
  have o1' := o1.later b2
  have hsl := Pl.solve_len xs order
  have hml : Pl.most order ≤ 32 := by unfold Pl.most; omega
  have HC : Hid (∀ W : World, Below w.heap.size w W → Calls Try.prog 15 #[.slice A n ca, .int .i64 order] W fun e w' => (∃ A' n' c', e = .returned (.slice A' n' c') ∧ (Pl.lastC (Pl.solve xs order)).length = n' ∧ Rd w' w'.heap.size A' (Pl.lastC (Pl.solve xs order))) ∧ Below W.heap.size W w') :=
    fun W hb => coefs_p A n ca w.heap.size xs order W HN.out (by omega) (hx.later hb (Nat.le_refl _)) hb.size
  have HQ : Hid (∀ W : World, Outs 36 W base1 A1 (Pl.solve xs order).length c1 (Pl.solve xs order) → Outs 33 W base2 A2 (Pl.solve xs order).length c2 (Pl.solve xs order) → Calls Try.prog 14 #[.slice A1 (Pl.solve xs order).length c1, .slice A2 (Pl.solve xs order).length c2] W fun e w' => e = .returned (.bool true) ∧ ∃ d, w' = W.drewN d) :=
    fun W h1 h2 => same_all _ _ _ _ _ _ _ _ _ _ _ _ rfl h1 h2
  have HSM := Lib.hid (solve_small xs order)
  clear b1 b2 o1 hx
  generalize Pl.solve xs order = ss at *
  go_wp2_with fail
  refine (HQ.out _ o1' o2).mono ?_
  rintro e w3 ⟨rfl, d3, hw3⟩
  have bb3 : Below w.heap.size w w3 := hw3 ▸ below_drawn bb2 d3
  have o3 : Outs 33 w3 base2 A2 ss.length c2 ss := hw3 ▸ o2.drawn d3
  clear hw3 o1' o2 bb2 HQ
  rcases Nat.eq_zero_or_pos ss.length with h0 | hpos
  · have HL := Lib.hid (Pl.lastC_nil h0)
    rw [h0]
    clear h0 o3 hsl
    go_wp2_with fail
    refine (HC.out _ bb3).mono ?_
    rintro e w4 ⟨⟨A4, n4, c4, rfl, l4, r4⟩, b4⟩
    have bb4 := below_next' bb3 bb3.size b4
    have hn4 : n4 = 0 := by rw [← l4, HL.out]; rfl
    subst hn4
    clear b4 bb3
    go_wp2_with fail
    refine (ints_any _ _ _ [] _ 0 _ _ w4.heap.size w4.heap.size _ l4 rfl r4 (Rd.nil _ _ _) (by omega) (by omega)).mono ?_
    rintro e w5 ⟨rfl, d5, hw5⟩
    have bb5 : Below w.heap.size w w5 := hw5 ▸ below_drawn bb4 d5
    rw [HL.out]
    clear hw5 bb4 l4 r4
    go_wp2_with fail
    refine (known_any _).mono ?_
    rintro e w6 ⟨rfl, b6⟩
    have bb6 := below_next' bb5 bb5.size b6
    go_wp2_with fail
    go_ret
    exact ⟨rfl, bb6⟩
  · obtain ⟨k, hk⟩ : ∃ k, ss.length = k + 1 := ⟨ss.length - 1, by omega⟩
    obtain ⟨s, hs⟩ : ∃ s, ss[k]? = some s := ⟨ss[k], List.getElem?_eq_getElem (by omega)⟩
    have HL := Lib.hid (Pl.lastC_some hk hs)
    obtain ⟨g, b, q, rfl, k0, k1, k2, hr⟩ := o3.at hs
    have hsm := HSM.out s (List.mem_of_getElem? hs)
    have hk32 : k ≤ 32 := by omega
    have hz : (0 : Int) < (k : Int) + 1 := by omega
    rw [hk]
    clear o3 hs hk hsl hpos HSM
    go_wp2_with fail
    refine (HC.out _ bb3).mono ?_
    rintro e w4 ⟨⟨A4, n4, c4, rfl, l4, r4⟩, b4⟩
    have bb4 := below_next' bb3 bb3.size b4
    rw [HL.out] at l4 r4
    have L4 := Lib.hid l4
    have hn4 : n4 ≤ 1000 := by omega
    have hr4 := hr.later b4 (Nat.le_refl _)
    clear b4 bb3 l4 hr k0 k1 k2
    go_wp2_with fail
    refine (ints_any _ _ _ _ _ _ _ _ _ _ _ L4.out rfl r4 hr4 (by omega) (by omega)).mono ?_
    rintro e w5 ⟨rfl, d5, hw5⟩
    have bb5 : Below w.heap.size w w5 := hw5 ▸ below_drawn bb4 d5
    rw [show decide (s.2.2 = s.2.2) = true by simp]
    clear hw5 bb4 r4 hr4
    go_wp2_with fail
    refine (known_any _).mono ?_
    rintro e w6 ⟨rfl, b6⟩
    have bb6 := below_next' bb5 bb5.size b6
    go_wp2_with fail
    go_ret
    exact ⟨rfl, bb6⟩
end Go.Proofs.Ytkdaalceekbahaa
