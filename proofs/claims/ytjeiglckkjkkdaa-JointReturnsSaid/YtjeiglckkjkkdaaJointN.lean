/- The walk of the law on turning and going back, and the other way round. -/
import Derived.Test.YtjeiglckkjkkdaaJointM
namespace Go.Proofs.Ytjeiglckkjkkdaa
open Go.RowKit
set_option linter.unusedVariables false
set_option maxHeartbeats 1600000 in
theorem walkReturns (m b : Int) (A A' : Option Addr) (n ca q cb : Nat) (xs ys : List Int) (w : World) (hn : xs.length = n) (hm : ys.length = q) (hx : Rd w w.heap.size A xs) (hy : Rd w w.heap.size A' ys) (hn2 : n ≤ maxLen) (hq2 : q ≤ maxLen) :
    Calls Try.prog 5 #[.int .i64 m, .slice A n ca, .slice A' q cb, .int .i64 b] w fun e w' => e = .returned (.bool true) ∧ Below w.heap.size w w' := by
  unfold maxLen at hn2 hq2
  by_cases hn200 : 200 < n
  · have hd : (200 : Int) < (n : Int) := by omega
    clear hn hm
    go_enter Try.func5, Try.ntmps5
    go_wp2_with (go_at_call 7; refine (known_any _).mono ?_; rintro e w6 ⟨rfl, hb⟩)
    go_ret
    exact ⟨rfl, hb⟩
  have hd1 : decide ((200 : Int) < (n : Int)) = false := by simp; omega
  by_cases hq200 : 200 < q
  · have hd : (200 : Int) < (q : Int) := by omega
    clear hn hm
    go_enter Try.func5, Try.ntmps5
    go_wp2_with (go_at_call 7; refine (known_any _).mono ?_; rintro e w6 ⟨rfl, hb⟩)
    go_ret
    exact ⟨rfl, hb⟩
  have hd2 : decide ((200 : Int) < (q : Int)) = false := by simp; omega
  have HN := Lib.hid hn; have HM := Lib.hid hm
  clear hn hm
  by_cases hT : Pl.turnE m b xs ys = 0
  · have HLT := Lib.hid (Pl.turnE_zero hT).2.1
    have tc := Pl.turnC_ok hT
    obtain ⟨g1, g2, g3⟩ := Pl.turn_back hT
    have bc := Pl.backC_ok g1
    have TT : Hid (Pl.turnE m b xs ys = 0 ∧ Pl.turnC m b xs ys = Pl.map2 (Pl.ta m) xs ys ∧ Pl.turnD m b xs ys = Pl.map2 (Pl.tb m) xs ys) := ⟨hT, tc.1, tc.2⟩
    have TB : Hid (Pl.backE m b (Pl.map2 (Pl.ta m) xs ys) (Pl.map2 (Pl.tb m) xs ys) = 0 ∧ Pl.backC m b (Pl.map2 (Pl.ta m) xs ys) (Pl.map2 (Pl.tb m) xs ys) = xs ∧ Pl.backD m b (Pl.map2 (Pl.ta m) xs ys) (Pl.map2 (Pl.tb m) xs ys) = ys) := ⟨g1, bc.1.trans g2, bc.2.trans g3⟩
    clear hT tc g1 g2 g3 bc
    by_cases hK : Pl.backE m b xs ys = 0
    · have HLL := Lib.hid (Pl.backE_zero hK).2.1
      have bc := Pl.backC_ok hK
      obtain ⟨g1, g2, g3⟩ := Pl.back_turn hK
      have tc := Pl.turnC_ok g1
      have BE : Hid (Pl.backE m b xs ys = 0 ∧ Pl.backC m b xs ys = Pl.map2 (Pl.ba m) xs ys ∧ Pl.backD m b xs ys = Pl.map2 (Pl.bb m) xs ys) := ⟨hK, bc.1, bc.2⟩
      have TE : Hid (Pl.turnE m b (Pl.map2 (Pl.ba m) xs ys) (Pl.map2 (Pl.bb m) xs ys) = 0 ∧ Pl.turnC m b (Pl.map2 (Pl.ba m) xs ys) (Pl.map2 (Pl.bb m) xs ys) = xs ∧ Pl.turnD m b (Pl.map2 (Pl.ba m) xs ys) (Pl.map2 (Pl.bb m) xs ys) = ys) := ⟨g1, tc.1.trans g2, tc.2.trans g3⟩
      clear hK bc g1 g2 g3 tc
      go_enter Try.func5, Try.ntmps5
      go_wp2_with fail
      refine (turn_any m b _ _ _ _ _ _ _ _ _ _ HN.out HM.out (by omega) (by omega) hx hy (Nat.le_refl _)).mono ?_
      rintro e w1 ⟨⟨A1, A2, k1, c1, k2, c2, rfl, l1, l2, r1, r2⟩, b1⟩
      rw [TT.out.2.1] at l1 r1
      rw [TT.out.2.2] at l2 r2
      rw [TT.out.1]
      have L1 := Lib.hid l1; have L2 := Lib.hid l2
      have hp1 : k1 ≤ 1000000 := by rw [← L1.out, Pl.map2_len _ _ _ HLT.out, HN.out]; omega
      have hp2 : k2 ≤ 1000000 := by rw [← L2.out, Pl.map2_len _ _ _ HLT.out, HN.out]; omega
      clear l1 l2
      go_wp2_with fail
      refine (back_any m b _ _ _ _ _ _ _ _ _ _ L1.out L2.out hp1 hp2 r1 r2 (Nat.le_refl _)).mono ?_
      rintro e w2 ⟨⟨B1, B2, j1, d1, j2, d2, rfl, l1, l2, q1, q2⟩, b2⟩
      rw [TB.out.2.1] at l1 q1
      rw [TB.out.2.2] at l2 q2
      rw [TB.out.1]
      have J1 := Lib.hid l1; have J2 := Lib.hid l2
      have hj1 : j1 ≤ 1000000 := by rw [← J1.out, HN.out]; omega
      have hj2 : j2 ≤ 1000000 := by rw [← J2.out, HM.out]; omega
      have bb2 := below_next b1 b1.size b2
      clear l1 l2 b2 b1 r1 r2
      go_wp2_with fail
      refine (ints_any _ _ _ _ _ _ _ _ _ _ _ J1.out HN.out q1 (hx.later bb2 (Nat.le_refl _)) (by omega) (by omega)).mono ?_
      rintro e w3 ⟨rfl, d3, hw3⟩
      have u2 : Rd w3 w2.heap.size B2 ys := hw3 ▸ (show Rd (w2.drewN d3) w2.heap.size B2 ys from q2)
      have bb3 : Below w.heap.size w w3 := hw3 ▸ below_drawn bb2 d3
      clear hw3 q1 q2 bb2
      go_wp2_with fail
      refine (ints_any _ _ _ _ _ _ _ _ _ _ _ J2.out HM.out u2 (hy.later bb3 (Nat.le_refl _)) (by omega) (by omega)).mono ?_
      rintro e w4 ⟨rfl, d4, hw4⟩
      have bb : Below w.heap.size w w4 := hw4 ▸ below_drawn bb3 d4
      clear hw4 u2 bb3
      go_wp2_with fail
      refine (back_any m b _ _ _ _ _ _ _ _ _ _ HN.out HM.out (by omega) (by omega) (hx.later bb (Nat.le_refl _)) (hy.later bb (Nat.le_refl _)) bb.size).mono ?_
      rintro e wa ⟨⟨P1, P2, p1, e1, p2, e2, rfl, l1, l2, r1, r2⟩, ba⟩
      have bba := below_next bb bb.size ba
      clear bb ba
      rw [BE.out.2.1] at l1 r1
      rw [BE.out.2.2] at l2 r2
      rw [BE.out.1]
      have L1 := Lib.hid l1; have L2 := Lib.hid l2
      have hp1 : p1 ≤ 1000000 := by rw [← L1.out, Pl.map2_len _ _ _ HLL.out, HN.out]; omega
      have hp2 : p2 ≤ 1000000 := by rw [← L2.out, Pl.map2_len _ _ _ HLL.out, HN.out]; omega
      clear l1 l2
      go_wp2_with fail
      refine (turn_any m b _ _ _ _ _ _ _ _ _ _ L1.out L2.out hp1 hp2 r1 r2 (Nat.le_refl _)).mono ?_
      rintro e wc ⟨⟨Q1, Q2, q1, f1, q2, f2, rfl, l1, l2, t1, t2⟩, bc⟩
      rw [TE.out.2.1] at l1 t1
      rw [TE.out.2.2] at l2 t2
      rw [TE.out.1]
      have M1 := Lib.hid l1; have M2 := Lib.hid l2
      have hq1 : q1 ≤ 1000000 := by rw [← M1.out, HN.out]; omega
      have hq2 : q2 ≤ 1000000 := by rw [← M2.out, HM.out]; omega
      have bbc := below_next bba bba.size bc
      clear l1 l2 bc bba r1 r2
      go_wp2_with fail
      refine (ints_any _ _ _ _ _ _ _ _ _ _ _ M1.out HN.out t1 (hx.later bbc (Nat.le_refl _)) (by omega) (by omega)).mono ?_
      rintro e wd ⟨rfl, dd, hwd⟩
      have u2 : Rd wd wc.heap.size Q2 ys := hwd ▸ (show Rd (wc.drewN dd) wc.heap.size Q2 ys from t2)
      have bbd : Below w.heap.size w wd := hwd ▸ below_drawn bbc dd
      clear hwd t1 t2 bbc
      go_wp2_with fail
      refine (ints_any _ _ _ _ _ _ _ _ _ _ _ M2.out HM.out u2 (hy.later bbd (Nat.le_refl _)) (by omega) (by omega)).mono ?_
      rintro e we ⟨rfl, de, hwe⟩
      have bbe : Below w.heap.size w we := hwe ▸ below_drawn bbd de
      clear hwe u2 bbd
      go_wp2_with (go_at_call 7; refine (known_any _).mono ?_; rintro e w9 ⟨rfl, hb9⟩)
      go_ret
      exact ⟨rfl, below_next bbe bbe.size hb9⟩
    · have BE : Hid (Pl.backE m b xs ys ≠ 0) := hK
      clear hK
      go_enter Try.func5, Try.ntmps5
      go_wp2_with fail
      refine (turn_any m b _ _ _ _ _ _ _ _ _ _ HN.out HM.out (by omega) (by omega) hx hy (Nat.le_refl _)).mono ?_
      rintro e w1 ⟨⟨A1, A2, k1, c1, k2, c2, rfl, l1, l2, r1, r2⟩, b1⟩
      rw [TT.out.2.1] at l1 r1
      rw [TT.out.2.2] at l2 r2
      rw [TT.out.1]
      have L1 := Lib.hid l1; have L2 := Lib.hid l2
      have hp1 : k1 ≤ 1000000 := by rw [← L1.out, Pl.map2_len _ _ _ HLT.out, HN.out]; omega
      have hp2 : k2 ≤ 1000000 := by rw [← L2.out, Pl.map2_len _ _ _ HLT.out, HN.out]; omega
      clear l1 l2
      go_wp2_with fail
      refine (back_any m b _ _ _ _ _ _ _ _ _ _ L1.out L2.out hp1 hp2 r1 r2 (Nat.le_refl _)).mono ?_
      rintro e w2 ⟨⟨B1, B2, j1, d1, j2, d2, rfl, l1, l2, q1, q2⟩, b2⟩
      rw [TB.out.2.1] at l1 q1
      rw [TB.out.2.2] at l2 q2
      rw [TB.out.1]
      have J1 := Lib.hid l1; have J2 := Lib.hid l2
      have hj1 : j1 ≤ 1000000 := by rw [← J1.out, HN.out]; omega
      have hj2 : j2 ≤ 1000000 := by rw [← J2.out, HM.out]; omega
      have bb2 := below_next b1 b1.size b2
      clear l1 l2 b2 b1 r1 r2
      go_wp2_with fail
      refine (ints_any _ _ _ _ _ _ _ _ _ _ _ J1.out HN.out q1 (hx.later bb2 (Nat.le_refl _)) (by omega) (by omega)).mono ?_
      rintro e w3 ⟨rfl, d3, hw3⟩
      have u2 : Rd w3 w2.heap.size B2 ys := hw3 ▸ (show Rd (w2.drewN d3) w2.heap.size B2 ys from q2)
      have bb3 : Below w.heap.size w w3 := hw3 ▸ below_drawn bb2 d3
      clear hw3 q1 q2 bb2
      go_wp2_with fail
      refine (ints_any _ _ _ _ _ _ _ _ _ _ _ J2.out HM.out u2 (hy.later bb3 (Nat.le_refl _)) (by omega) (by omega)).mono ?_
      rintro e w4 ⟨rfl, d4, hw4⟩
      have bb : Below w.heap.size w w4 := hw4 ▸ below_drawn bb3 d4
      clear hw4 u2 bb3
      go_wp2_with fail
      refine (back_any m b _ _ _ _ _ _ _ _ _ _ HN.out HM.out (by omega) (by omega) (hx.later bb (Nat.le_refl _)) (hy.later bb (Nat.le_refl _)) bb.size).mono ?_
      rintro e wa ⟨⟨P1, P2, p1, e1, p2, e2, rfl, l1, l2, r1, r2⟩, ba⟩
      have bba := below_next bb bb.size ba
      clear bb ba
      have hne : (Pl.backE m b xs ys == 0) = false := beq_eq_false_iff_ne.2 BE.out
      clear l1 l2 r1 r2
      go_wp2_with (go_at_call 7; refine (known_any _).mono ?_; rintro e w9 ⟨rfl, hb9⟩)
      go_ret
      exact ⟨rfl, below_next bba bba.size hb9⟩
  · have TT : Hid (Pl.turnE m b xs ys ≠ 0) := hT
    clear hT
    by_cases hK : Pl.backE m b xs ys = 0
    · have HLL := Lib.hid (Pl.backE_zero hK).2.1
      have bc := Pl.backC_ok hK
      obtain ⟨g1, g2, g3⟩ := Pl.back_turn hK
      have tc := Pl.turnC_ok g1
      have BE : Hid (Pl.backE m b xs ys = 0 ∧ Pl.backC m b xs ys = Pl.map2 (Pl.ba m) xs ys ∧ Pl.backD m b xs ys = Pl.map2 (Pl.bb m) xs ys) := ⟨hK, bc.1, bc.2⟩
      have TE : Hid (Pl.turnE m b (Pl.map2 (Pl.ba m) xs ys) (Pl.map2 (Pl.bb m) xs ys) = 0 ∧ Pl.turnC m b (Pl.map2 (Pl.ba m) xs ys) (Pl.map2 (Pl.bb m) xs ys) = xs ∧ Pl.turnD m b (Pl.map2 (Pl.ba m) xs ys) (Pl.map2 (Pl.bb m) xs ys) = ys) := ⟨g1, tc.1.trans g2, tc.2.trans g3⟩
      clear hK bc g1 g2 g3 tc
      go_enter Try.func5, Try.ntmps5
      go_wp2_with fail
      refine (turn_any m b _ _ _ _ _ _ _ _ _ _ HN.out HM.out (by omega) (by omega) hx hy (Nat.le_refl _)).mono ?_
      rintro e w1 ⟨⟨A1, A2, k1, c1, k2, c2, rfl, l1, l2, r1, r2⟩, b1⟩
      have hnt : (Pl.turnE m b xs ys == 0) = false := beq_eq_false_iff_ne.2 TT.out
      have bb := b1
      clear l1 l2 r1 r2 b1
      go_wp2_with fail
      refine (back_any m b _ _ _ _ _ _ _ _ _ _ HN.out HM.out (by omega) (by omega) (hx.later bb (Nat.le_refl _)) (hy.later bb (Nat.le_refl _)) bb.size).mono ?_
      rintro e wa ⟨⟨P1, P2, p1, e1, p2, e2, rfl, l1, l2, r1, r2⟩, ba⟩
      have bba := below_next bb bb.size ba
      clear bb ba
      rw [BE.out.2.1] at l1 r1
      rw [BE.out.2.2] at l2 r2
      rw [BE.out.1]
      have L1 := Lib.hid l1; have L2 := Lib.hid l2
      have hp1 : p1 ≤ 1000000 := by rw [← L1.out, Pl.map2_len _ _ _ HLL.out, HN.out]; omega
      have hp2 : p2 ≤ 1000000 := by rw [← L2.out, Pl.map2_len _ _ _ HLL.out, HN.out]; omega
      clear l1 l2
      go_wp2_with fail
      refine (turn_any m b _ _ _ _ _ _ _ _ _ _ L1.out L2.out hp1 hp2 r1 r2 (Nat.le_refl _)).mono ?_
      rintro e wc ⟨⟨Q1, Q2, q1, f1, q2, f2, rfl, l1, l2, t1, t2⟩, bc⟩
      rw [TE.out.2.1] at l1 t1
      rw [TE.out.2.2] at l2 t2
      rw [TE.out.1]
      have M1 := Lib.hid l1; have M2 := Lib.hid l2
      have hq1 : q1 ≤ 1000000 := by rw [← M1.out, HN.out]; omega
      have hq2 : q2 ≤ 1000000 := by rw [← M2.out, HM.out]; omega
      have bbc := below_next bba bba.size bc
      clear l1 l2 bc bba r1 r2
      go_wp2_with fail
      refine (ints_any _ _ _ _ _ _ _ _ _ _ _ M1.out HN.out t1 (hx.later bbc (Nat.le_refl _)) (by omega) (by omega)).mono ?_
      rintro e wd ⟨rfl, dd, hwd⟩
      have u2 : Rd wd wc.heap.size Q2 ys := hwd ▸ (show Rd (wc.drewN dd) wc.heap.size Q2 ys from t2)
      have bbd : Below w.heap.size w wd := hwd ▸ below_drawn bbc dd
      clear hwd t1 t2 bbc
      go_wp2_with fail
      refine (ints_any _ _ _ _ _ _ _ _ _ _ _ M2.out HM.out u2 (hy.later bbd (Nat.le_refl _)) (by omega) (by omega)).mono ?_
      rintro e we ⟨rfl, de, hwe⟩
      have bbe : Below w.heap.size w we := hwe ▸ below_drawn bbd de
      clear hwe u2 bbd
      go_wp2_with (go_at_call 7; refine (known_any _).mono ?_; rintro e w9 ⟨rfl, hb9⟩)
      go_ret
      exact ⟨rfl, below_next bbe bbe.size hb9⟩
    · have BE : Hid (Pl.backE m b xs ys ≠ 0) := hK
      clear hK
      go_enter Try.func5, Try.ntmps5
      go_wp2_with fail
      refine (turn_any m b _ _ _ _ _ _ _ _ _ _ HN.out HM.out (by omega) (by omega) hx hy (Nat.le_refl _)).mono ?_
      rintro e w1 ⟨⟨A1, A2, k1, c1, k2, c2, rfl, l1, l2, r1, r2⟩, b1⟩
      have hnt : (Pl.turnE m b xs ys == 0) = false := beq_eq_false_iff_ne.2 TT.out
      have bb := b1
      clear l1 l2 r1 r2 b1
      go_wp2_with fail
      refine (back_any m b _ _ _ _ _ _ _ _ _ _ HN.out HM.out (by omega) (by omega) (hx.later bb (Nat.le_refl _)) (hy.later bb (Nat.le_refl _)) bb.size).mono ?_
      rintro e wa ⟨⟨P1, P2, p1, e1, p2, e2, rfl, l1, l2, r1, r2⟩, ba⟩
      have bba := below_next bb bb.size ba
      clear bb ba
      have hne : (Pl.backE m b xs ys == 0) = false := beq_eq_false_iff_ne.2 BE.out
      clear l1 l2 r1 r2
      go_wp2_with (go_at_call 7; refine (known_any _).mono ?_; rintro e w9 ⟨rfl, hb9⟩)
      go_ret
      exact ⟨rfl, below_next bba bba.size hb9⟩
end Go.Proofs.Ytjeiglckkjkkdaa
