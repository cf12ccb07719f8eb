/- The walks of the function that makes all targets where it refuses, and of the reference's. -/
import Derived.Test.YtjehichejggfbaaShapeD
namespace Go.Proofs.Ytjehichejggfbaa
open Go.RowKit
set_option linter.unusedVariables false
set_option maxHeartbeats 400000 in
theorem targets_bad (k : Int) (A A' : Option Addr) (n ca m cb : Nat) (w : World) (h0 : k < 0 ∨ 3 < k) :
    Calls Try.prog 18 #[.int .i64 k, .slice A n ca, .slice A' m cb] w fun e w' => e = .returned (.tuple #[.slice none 0 0, .int .i64 1]) ∧ w = w' := by
  go_enter Try.func18, Try.ntmps18
  go_wp2_with fail
  refine (new_no _ _ h0).mono ?_
  rintro e w1 ⟨rfl, rfl⟩
  go_wp2_with fail
  go_ret2
  exact ⟨ret_two' rfl rfl, rfl⟩
set_option maxHeartbeats 400000 in
theorem targets_len (k : Int) (A A' : Option Addr) (n ca m cb : Nat) (w : World) (h0 : 0 ≤ k) (h3 : k ≤ 3) (hne : n ≠ m) :
    Calls Try.prog 18 #[.int .i64 k, .slice A n ca, .slice A' m cb] w fun e w' => e = .returned (.tuple #[.slice none 0 0, .int .i64 22]) ∧ Below w.heap.size w w' := by
  have hd : ((n : Int) != (m : Int)) = true := by rw [bne_iff_ne]; omega
  clear hne
  go_enter Try.func18, Try.ntmps18
  go_wp2_with fail
  refine (new_any _ _ h0 h3).mono ?_
  rintro e w1 ⟨rfl, hw⟩
  have b1 : Below w.heap.size w w1 := hw ▸ (Below.refl _ _).alloc (Nat.le_refl _) _
  clear hw
  go_wp2_with fail
  go_ret2
  exact ⟨ret_two' rfl rfl, b1⟩
set_option maxHeartbeats 1600000 in
theorem targets_r (k : Int) (A A' : Option Addr) (n ca cb B : Nat) (xs ys : List Int) (w : World) (h0 : 0 ≤ k) (h3 : k ≤ 3) (hn : xs.length = n) (hm : ys.length = n) (hn2 : n ≤ 1000000) (hx : Rd w B A xs) (hy : Rd w B A' ys) (hB : B ≤ w.heap.size) :
    Calls Try.prog 19 #[.int .i64 k, .slice A n ca, .slice A' n cb] w fun e w' => (∃ A2 c2, e = .returned (.slice A2 n c2) ∧ Rd w' w'.heap.size A2 (Pl.trun k xs ys n).1) ∧ Below w.heap.size w w' := by
  have HN := Lib.hid hn; have HM := Lib.hid hm
  clear hn hm
  go_enter Try.func19, Try.ntmps19
  go_wp2_with fail
  go_loopw [7, 8, 9] (fun o m i wr => ∃ (j : Nat) (Ao Am : Option Addr) (co cm : Nat), j ≤ n ∧ i = .int .i64 j ∧ o = .slice Ao j co ∧ m = .slice Am j cm ∧ Own wr w.heap.size Ao j co (Pl.trun k xs ys j).1 ∧ Own wr w.heap.size Am j cm (Pl.trun k xs ys j).2 ∧ (blk Ao = none ∨ blk Ao ≠ blk Am) ∧ (blk Am = none ∨ blk Am ≠ blk Ao) ∧ Below w.heap.size w wr) (fun _ _ i _ => n - (intOf i).toNat)
  case atStart => exact ⟨0, none, none, 0, 0, by omega, rfl, rfl, rfl, Own.nil _ _, Own.nil _ _, .inl rfl, .inl rfl, Below.refl _ _⟩
  case round =>
    obtain ⟨j, Ao, Am, co, cm, hj, rfl, rfl, rfl, ho, hmm, hd1, hd2, hb⟩ := hrel
    have hsm := Pl.trun_small k xs ys j
    have hl2 := (Pl.trun_len k xs ys j).2
    by_cases hlt : j < n
    · obtain ⟨b, off, x, rfl, hbb, hxx, hc⟩ := (hx.later hb hB).at (k := j) (by rw [HN.out]; exact hlt)
      have hji : (j : Int) < (n : Int) := by omega
      obtain ⟨b', off', y, rfl, hbb', hyy, _⟩ := hy.at (k := j) (by rw [HM.out]; exact hlt)
      have HYC : Hid (∀ W : World, Below w.heap.size w W → W.cell? ⟨b', off' + j, none⟩ = some (.int .i64 y)) := by
        intro W hW
        obtain ⟨b2, o2, e2, _, hc2⟩ := (hy.later hW hB) j y hyy
        injection e2 with e2; injection e2 with e3 e4
        subst e3; subst e4; exact hc2
      have E2 : Hid (ys.getD j 0 = y) := by show _ = _; rw [List.getD_eq_getElem?_getD, hyy]; rfl
      have E1 : Hid (Pl.tgt k (Pl.mth (Pl.trun k xs ys j).2 0) (Pl.mth (Pl.trun k xs ys j).2 1) (Pl.mth (Pl.trun k xs ys j).2 2) x = Pl.tnow k xs ys j) := by
        show _ = _
        unfold Pl.tnow; rw [List.getD_eq_getElem?_getD, hxx]; rfl
      have HSM := Lib.hid hsm; have HL2 := Lib.hid hl2; have D1 := Lib.hid hd1; have D2 := Lib.hid hd2
      clear hxx hsm hl2 hd1 hd2 hyy
      go_wp2_with fail
      refine (target_r k x Am j cm _ _ _ h0 h3 HL2.out (by omega) hmm.rd (Nat.le_refl _) HSM.out).mono ?_
      rintro e w3 ⟨rfl, b3⟩
      rw [E1.out]
      have o3 := ho.later b3
      have m3 := hmm.later b3
      have bb3 := hb.trans (b3.mono hb.size)
      have hT := Pl.tnow_le k xs ys j
      obtain ⟨T, hTT⟩ : ∃ T, T = Pl.tnow k xs ys j := ⟨_, rfl⟩
      rw [← hTT] at hT ⊢
      have HT := Lib.hid hTT
      have hw3 := bb3.size
      clear hb ho hmm b3 hc hTT
      go_wp2_with (first
        | (at_builtin; refine app1 rfl (.tmp 24) (.tmp 26) rfl w.heap.size Ao j co _ T rfl rfl o3 (by omega) hw3 ?_; intro A4 c4 w4 o4 g4 e4; have bb4 := bb3.grown g4 hw3 (fun g h => (o3.lt h).1); have hc4 := HYC.out _ bb4; have hw4 := bb4.size)
        | (go_at_call 13; refine (miss_r _ _ hT _).mono ?_; rintro e w' ⟨rfl, rfl⟩)
        | (at_builtin; refine app1 rfl (.tmp 28) (.tmp 35) rfl w.heap.size Am j cm _ (Pl.miss y T) rfl rfl (m3.kept g4 D2.out) (by omega) hw4 ?_; intro A5 c5 w5 m5 g5 e5))
      have d4 : blk A4 = none ∨ blk A4 ≠ blk Am := by
        rcases e4 with e4 | e4
        · rw [e4]; exact D1.out
        · rw [e4]; exact .inr (fun h => m3.apart_new (Nat.le_succ _) h.symm)
      have m4 := m3.kept g4 D2.out
      have o5 := o4.kept g5 d4
      have bb5 := bb4.grown g5 hw4 (fun g h => (m4.lt h).1)
      have d5 : blk A4 = none ∨ blk A4 ≠ blk A5 := by
        rcases e5 with e5 | e5
        · rw [e5]; exact d4
        · rw [e5]; exact .inr (o4.apart_new (Nat.le_succ _))
      have d5' : blk A5 = none ∨ blk A5 ≠ blk A4 := by
        rcases d5 with h | h
        · rcases hA : blk A5 with _ | g
          · exact .inl rfl
          · exact .inr (by rw [h]; simp)
        · exact .inr (Ne.symm h)
      have O5 : Own w5 w.heap.size A4 (j + 1) c4 (Pl.trun k xs ys (j + 1)).1 := by rw [Pl.trun_fst, ← HT.out]; exact o5
      have M5 : Own w5 w.heap.size A5 (j + 1) c5 (Pl.trun k xs ys (j + 1)).2 := by rw [Pl.trun_snd, E2.out, ← HT.out]; exact m5
      clear o5 m5 m4 o4 m3 o3 g4 g5 e4 e5 d4 hc4
      go_roundw
      case rel => exact ⟨j + 1, A4, A5, c4, c5, by omega, by go_num, rfl, rfl, O5, M5, d5, d5', bb5⟩
      case measure => simp [intOf]; omega
    · have hd : decide ((j : Int) < (n : Int)) = false := by simp; omega
      have E : Hid (j = n) := by show j = n; omega
      clear hd1 hd2 hsm hl2
      go_wp2_with fail
      go_ret
      have R := ho.rd
      exact ⟨⟨Ao, co, by rw [← E.out]; rfl, by rw [← E.out]; exact R⟩, hb⟩
end Go.Proofs.Ytjehichejggfbaa
