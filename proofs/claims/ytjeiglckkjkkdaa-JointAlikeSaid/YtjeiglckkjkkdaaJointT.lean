/- The walk of differences, made twice in place: it makes the plain list. -/
import Derived.Test.YtjeiglckkjkkdaaJointS
namespace Go.Proofs.Ytjeiglckkjkkdaa
open Go.RowKit
set_option linter.unusedVariables false
set_option maxHeartbeats 1600000 in
theorem steps_any (A : Option Addr) (n c B : Nat) (xs : List Int) (w : World) (hn : xs.length = n) (hn2 : n ≤ 1000000) (hx : Rd w B A xs) :
    Calls Try.prog 36 #[.slice A n c, .int .i64 2] w fun e w' => (∃ A' c', e = .returned (.slice A' n c') ∧ Rd w' w'.heap.size A' (Pl.d1 (Pl.d1 xs))) ∧ Below w.heap.size w w' := by
  have HN := Lib.hid hn
  have kc : Pl.clamp 2 0 8 = 2 := by decide
  go_enter Try.func36, Try.ntmps36
  go_wp2_with fail
  refine (clone_any _ _ _ _ _ _ hn hn2 hx).mono ?_
  rintro e w1 ⟨⟨A1, c1, rfl, o1⟩, b1⟩
  clear hn
  go_wp2_with (go_at_call 43; refine (clamp_p _ _ _ _).mono ?_; rintro e w' ⟨rfl, rfl⟩)
  go_loopw [6, 7, 12] (fun _ _ i wr => ∃ r : Nat, r ≤ 2 ∧ i = .int .i64 r ∧ Own wr w.heap.size A1 n c1 (Pl.dn xs r) ∧ Below w.heap.size w wr) (fun _ _ i _ => 2 - (intOf i).toNat)
  case atStart => exact ⟨0, by omega, rfl, o1, b1⟩
  case round =>
    obtain ⟨r, hr, rfl, ho, hb⟩ := hrel
    clear o1 b1
    by_cases hlt : r < 2
    · have hri : (r : Int) < 2 := by omega
      have HL : Hid ((Pl.dn xs r).length = n) := by show _ = _; rw [Pl.dn_len, HN.out]
      have HD : Hid (Pl.dn xs (r + 1) = Pl.mix (Pl.dn xs r) 0) := rfl
      have ho2 : Own wr w.heap.size A1 n c1 (Pl.mix (Pl.dn xs r) n) := by rw [← HL.out, Pl.mix_full, HL.out]; exact ho
      clear ho
      generalize hl : Pl.dn xs r = l at *
      obtain ⟨wo, rfl⟩ : ∃ wo : World, wo = wr := ⟨_, rfl⟩
      go_wp2_with fail
      go_loopw [6, 7] (fun i _ wr => ∃ I : Int, -1 ≤ I ∧ I < n ∧ i = .int .i64 I ∧ Own wr w.heap.size A1 n c1 (Pl.mix l (I + 1).toNat) ∧ Below w.heap.size w wr) (fun i _ _ => (intOf i + 1).toNat)
      case atStart => exact ⟨(n : Int) - 1, by omega, by omega, rfl, by rw [show ((n : Int) - 1 + 1).toNat = n by omega]; exact ho2, hb⟩
      case round =>
        obtain ⟨I, hI, hIn, rfl, ho, hb2⟩ := hrel
        clear ho2 hb
        by_cases hI0 : 0 ≤ I
        · obtain ⟨K, rfl⟩ := Int.eq_ofNat_of_zero_le hI0
          rw [show ((K : Int) + 1).toNat = K + 1 by omega] at ho
          obtain ⟨g, x, rfl, hg, hx2, hcx, hfz⟩ := ho.at (k := K) (by omega)
          have hKl : K < l.length := by rw [HL.out]; omega
          have ex : l.getD K 0 = x := by
            rw [Pl.mix_get hKl, if_pos (by omega)] at hx2; simpa using hx2
          have hfK := hfz K
          have EX := Lib.hid ex
          clear hx2 ex
          by_cases hK0 : K = 0
          · subst hK0
            have ew : IntKind.i64.wrap (-Pl.hold 0) = -Pl.hold 0 := IntWalk.i64_in _ (by have := Pl.hold_le 0; omega)
            have EV : Hid (Pl.add x (-Pl.hold 0) = Pl.d1v l 0) := by show _ = _; unfold Pl.d1v; rw [EX.out]; rfl
            have O5 : Hid (Own (wr.setCell ⟨g, 0, none⟩ (.int .i64 (Pl.add x (-Pl.hold 0)))).drew w.heap.size (some ⟨g, 0, none⟩) n c1 (Pl.mix l 0)) := by
              have h := ho.put 0 (Pl.add x (-Pl.hold 0))
              rw [EV.out, Pl.mix_set l 0 hKl, ← EV.out] at h
              exact h
            have B5 : Hid (Below w.heap.size w (wr.setCell ⟨g, 0, none⟩ (.int .i64 (Pl.add x (-Pl.hold 0)))).drew) := (hb2.setCell (p := ⟨g, 0, none⟩) hg _).drew
            clear ho hb2 hfz
            go_wp2_with fail
            go_region_with ((first | (go_at_call 32; refine (hold_p _ _).mono ?_; rintro e w' ⟨rfl, rfl⟩) | (go_at_call 33; refine (add_p _ _ _).mono ?_; rintro e w' ⟨rfl, rfl⟩)))
            all_goals
              go_wp2_with fail
              go_roundw
              case rel => exact ⟨-1, by omega, by omega, rfl, O5.out, B5.out⟩
              case measure => simp [intOf]
          · obtain ⟨g2, u, e2, _, hu, hcu, _⟩ := ho.at (k := K - 1) (by omega)
            injection e2 with e2; injection e2 with e3 e4
            subst e3
            have eu : l.getD (K - 1) 0 = u := by
              rw [Pl.mix_get (by omega), if_pos (by omega)] at hu; simpa using hu
            have EU := Lib.hid eu
            clear hu eu
            have hKp : 0 < (K : Int) := by omega
            have ew : IntKind.i64.wrap (-Pl.hold u) = -Pl.hold u := IntWalk.i64_in _ (by have := Pl.hold_le u; omega)
            have EV : Hid (Pl.add x (-Pl.hold u) = Pl.d1v l K) := by show _ = _; unfold Pl.d1v; rw [EX.out, if_neg hK0, EU.out]
            have O5 : Hid (Own (wr.setCell ⟨g, K, none⟩ (.int .i64 (Pl.add x (-Pl.hold u)))).drew w.heap.size (some ⟨g, 0, none⟩) n c1 (Pl.mix l K)) := by
              have h := ho.put K (Pl.add x (-Pl.hold u))
              rw [EV.out, Pl.mix_set l K hKl, ← EV.out] at h
              exact h
            have B5 : Hid (Below w.heap.size w (wr.setCell ⟨g, K, none⟩ (.int .i64 (Pl.add x (-Pl.hold u)))).drew) := (hb2.setCell (p := ⟨g, K, none⟩) hg _).drew
            clear ho hb2 hfz
            go_wp2_with fail
            go_region_with ((first | (go_at_call 32; refine (hold_p _ _).mono ?_; rintro e w' ⟨rfl, rfl⟩) | (go_at_call 33; refine (add_p _ _ _).mono ?_; rintro e w' ⟨rfl, rfl⟩)))
            all_goals
              go_wp2_with fail
              go_roundw
              case rel => exact ⟨(K : Int) - 1, by omega, by omega, rfl, by rw [show ((K : Int) - 1 + 1).toNat = K by omega]; exact O5.out, B5.out⟩
              case measure => simp [intOf] <;> omega
        · have hI1 : I = -1 := by omega
          subst hI1
          have ho3 : Own wr w.heap.size A1 n c1 (Pl.dn xs (r + 1)) := by rw [HD.out]; exact ho
          clear ho
          go_wp2_with fail
          go_roundw
          case rel => exact ⟨r + 1, by omega, by go_num, ho3, hb2⟩
          case measure => simp [intOf]; omega
    · have hd : decide ((r : Int) < 2) = false := by simp; omega
      have er : 2 = r := by omega
      subst er
      have R := ho.rd
      clear ho
      go_wp2_with fail
      go_ret
      exact ⟨⟨A1, c1, rfl, R⟩, hb⟩
end Go.Proofs.Ytjeiglckkjkkdaa
