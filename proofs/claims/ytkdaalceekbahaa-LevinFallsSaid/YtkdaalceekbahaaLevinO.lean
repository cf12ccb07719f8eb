/- The walk of the law on steps that fall. -/
import Derived.Test.YtkdaalceekbahaaLevinM
namespace Go.Proofs.Ytkdaalceekbahaa
open Go.RowKit
set_option linter.unusedVariables false
/-- the error ahead of a step -/
def Pl.errAt (ss : List St) (k : Nat) : Int := if k = 0 then 2147483648 else ((ss[k - 1]?).map (·.2.1)).getD 0
theorem Pl.errAt_succ {ss : List St} {k : Nat} {s : St} (h : ss[k]? = some s) : Pl.errAt ss (k + 1) = s.2.1 := by
  unfold Pl.errAt; rw [if_neg (by omega), Nat.add_sub_cancel, h]; rfl
theorem Pl.solve_all {xs : List Int} {order : Int} {i : Nat} {s : St} (h : (Pl.solve xs order)[i]? = some s) :
    (-16777216 ≤ s.1 ∧ s.1 < 16777216) ∧ 0 ≤ s.2.1 ∧ s.2.1 ≤ Pl.errAt (Pl.solve xs order) i ∧ s.2.2.length = i + 1 ∧ s.2.2[i]? = some s.1 := by
  unfold Pl.solve at h ⊢
  split at h
  · simp at h
  · rename_i h0
    rw [if_neg h0]
    have hf := Pl.norm_first h0
    have a := Pl.solveF_all _ _ _ _ i s (by omega) h
    have hl : s.2.2.length = i + 1 := by have := a.2.2.2.1; simpa using this
    refine ⟨a.1, a.2.1, ?_, hl, ?_⟩
    · unfold Pl.errAt
      by_cases hi : i = 0
      · rw [if_pos hi]; have := a.2.2.1; rw [if_pos hi] at this; omega
      · rw [if_neg hi]; have := a.2.2.1; rw [if_neg hi] at this; exact this
    · have h5 := a.2.2.2.2
      simp only [List.length_nil, Nat.zero_add] at h5
      rw [List.getElem?_eq_getElem (by omega)]
      rw [List.getD_eq_getElem?_getD, List.getElem?_eq_getElem (by omega)] at h5
      simpa using h5
theorem Pl.errAt_le (xs : List Int) (order : Int) : ∀ k : Nat, k ≤ (Pl.solve xs order).length → 0 ≤ Pl.errAt (Pl.solve xs order) k ∧ Pl.errAt (Pl.solve xs order) k ≤ 2147483648
  | 0, _ => by unfold Pl.errAt; rw [if_pos rfl]; omega
  | k + 1, h => by
    have hs : (Pl.solve xs order)[k]? = some (Pl.solve xs order)[k] := List.getElem?_eq_getElem (by omega)
    rw [Pl.errAt_succ hs]
    have a := Pl.solve_all hs
    have := Pl.errAt_le xs order k (by omega)
    omega
set_option maxHeartbeats 3200000 in
theorem walkFalls (A : Option Addr) (n ca : Nat) (xs : List Int) (order : Int) (w : World) (hn : xs.length = n) (hx : Rd w w.heap.size A xs) (hn2 : n ≤ maxLen) :
    Calls Try.prog 5 #[.slice A n ca, .int .i64 order] w fun e w' => e = .returned (.bool true) ∧ Below w.heap.size w w' := by
  unfold maxLen at hn2
  by_cases hn60 : 60 < n
  · have hd : (60 : Int) < (n : Int) := by omega
    clear hn
    go_enter Try.func5, Try.ntmps5
    go_wp2_with (go_at_call 8; refine (known_any _).mono ?_; rintro e w6 ⟨rfl, hb⟩)
    go_ret
    exact ⟨rfl, hb⟩
  have hd1 : decide ((60 : Int) < (n : Int)) = false := by simp; omega
  have HN := Lib.hid hn
  clear hn
  go_enter Try.func5, Try.ntmps5
  go_wp2_with fail
  refine (solve_p _ _ _ _ _ _ _ HN.out (by omega) hx (Nat.le_refl _)).mono ?_
  rintro e w1 ⟨⟨A1, c1, rfl, base1, o1⟩, b1⟩
  have hsl := Pl.solve_len xs order
  have hml : Pl.most order ≤ 32 := by unfold Pl.most; omega
  have HA := Lib.hid (fun i s h => @Pl.solve_all xs order i s h)
  have HE := Lib.hid (Pl.errAt_le xs order)
  clear hx
  generalize Pl.solve xs order = ss at *
  have O1 := Lib.hid o1
  have HL : Hid (ss.length = ss.length) := rfl
  obtain ⟨m, hm⟩ : ∃ m, ss.length = m := ⟨_, rfl⟩
  have HM := Lib.hid hm
  rw [hm] at hsl o1
  rw [hm]
  clear hm HL O1
  go_wp2_with fail
  go_loopw [6, 7] (fun er i wr => ∃ k d : Nat, k ≤ m ∧ i = .int .i64 k ∧ er = .int .i64 (Pl.errAt ss k) ∧ wr = w1.drewN d) (fun _ i _ => m - (intOf i).toNat)
  case atStart => exact ⟨0, 0, by omega, rfl, rfl, rfl⟩
  case round =>
    obtain ⟨k, d, hk, rfl, rfl, hwr⟩ := hrel
    have oW : Outs 36 wr base1 A1 m c1 ss := hwr ▸ o1
    have HW := Lib.hid hwr
    clear hwr
    by_cases hlt : k < m
    · obtain ⟨s, hs⟩ : ∃ s, ss[k]? = some s := ⟨ss[k]'(by rw [HM.out]; exact hlt), List.getElem?_eq_getElem (by rw [HM.out]; exact hlt)⟩
      obtain ⟨g, b, q, rfl, k0, k1, k2, hr⟩ := oW.at hs
      obtain ⟨a1, a2, a3, a4, a5⟩ := HA.out k s hs
      have ee := HE.out k (by rw [HM.out]; omega)
      obtain ⟨b', off', x, e2, hb, hxx, hc⟩ := hr.at (k := k) (by omega)
      injection e2 with e2; injection e2 with e3 e4
      subst e3; subst e4
      have ex : x = s.1 := by rw [a5] at hxx; exact (Option.some.inj hxx).symm
      subst ex
      have ES := Lib.hid (Pl.errAt_succ hs)
      have hc' : wr.cell? ⟨b, k, none⟩ = some (.int .i64 s.1) := by simpa using hc
      rw [a4] at k2
      have hki : (k : Int) < (m : Int) := by omega
      have hk0 : (0 : Int) ≤ (k : Int) := by omega
      have hk1 : (k : Int) < (k : Int) + 1 := by omega
      have hk2 : k < k + 1 := by omega
      have wk : IntKind.i64.wrap ((k : Int) + 1) = (k : Int) + 1 := IntWalk.i64_in _ (by omega)
      obtain ⟨s1, s2, s3⟩ := s
      simp only at k0 k1 k2 hc' a1 a2 a3
      have g1 : decide (s1 < -16777216) = false := by simp; omega
      have g2 : decide (16777216 ≤ s1) = false := by simp; omega
      have g3 : decide (Pl.errAt ss k < s2) = false := by simp; omega
      have g4 : decide (s2 < 0) = false := by simp; omega
      clear hs hr hxx hc a4 a5 oW
      generalize Pl.errAt ss k = E at *
      go_wp2_with fail
      go_quiet (fail)
      go_wp2_with fail
      go_roundw
      case rel => exact ⟨k + 1, _, by omega, by go_num, by rw [ES.out], by rw [HW.out, World.drewN_drewN]⟩
      case measure => simp [intOf]; omega
    · have ek : m = k := by omega
      subst ek
      have hdk : decide ((m : Int) < (m : Int)) = false := by simp
      have hm32 : (m : Int) ≤ 32 := by omega
      have bb4 : Below w.heap.size w wr := HW.out ▸ below_drawn b1 d
      clear b1 oW
      go_wp2_with (go_at_call 8; refine (known_any _).mono ?_; rintro e w6 ⟨rfl, hb6⟩)
      go_ret
      exact ⟨rfl, below_next' bb4 bb4.size hb6⟩
end Go.Proofs.Ytkdaalceekbahaa
