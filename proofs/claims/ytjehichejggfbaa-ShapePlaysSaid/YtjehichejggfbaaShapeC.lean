/- The reference's target, by its contract. -/
import Derived.Test.YtjehichejggfbaaShapeB
namespace Go.Proofs.Ytjehichejggfbaa
open Go.RowKit
set_option linter.unusedVariables false
set_option maxHeartbeats 800000 in
theorem target_r (k x : Int) (A : Option Addr) (n c B : Nat) (ms : List Int) (w : World) (h0 : 0 ≤ k) (h3 : k ≤ 3) (hn : ms.length = n) (hn2 : n ≤ 9223372036854775000) (h : Rd w B A ms) (hB : B ≤ w.heap.size) (hs : ∀ x ∈ ms, Pl.Small x) :
    Calls Try.prog 10 #[.int .i64 k, .slice A n c, .int .i64 x] w fun e w' => e = .returned (.int .i64 (Pl.tgt k (Pl.mth ms 0) (Pl.mth ms 1) (Pl.mth ms 2) x)) ∧ Below w.heap.size w w' := by
  have HN := Lib.hid hn; clear hn
  have HS := Lib.hid hs; clear hs
  have hcl := Pl.clamp_le x (-4294967296) 4294967296 (by omega)
  go_enter Try.func10, Try.ntmps10
  go_wp2_with fail
  refine (weights_r k _ h0 h3).mono ?_
  rintro e w1 ⟨⟨A', n', c', rfl, hk, hl, hr⟩, hb⟩
  have h1 := h.later hb hB
  have hkb : (n' : Int) ≤ 3 := by omega
  have HK := Lib.hid hk; have HL := Lib.hid hl
  clear hk hl h
  go_wp2_with fail
  go_loopw [8, 9] (fun s i wr => ∃ (j d : Nat), j ≤ n' ∧ j ≤ n ∧ s = .int .i64 (Pl.psum k ms j) ∧ i = .int .i64 j ∧ wr = w1.drewN d) (fun _ i _ => n' - (intOf i).toNat)
  case atStart => exact ⟨0, 0, by omega, by omega, rfl, rfl, rfl⟩
  case round =>
    obtain ⟨j, d, hj, hjn, rfl, rfl, rfl⟩ := hrel
    have pb := Pl.psum_le k ms h0 h3 HS.out j (by omega)
    by_cases hj1 : j < n'
    · by_cases hj2 : j < n
      · obtain ⟨b, off, u, rfl, hbb, hu, hc⟩ := hr.at (k := j) (by rw [HL.out]; exact hj1)
        obtain ⟨b', off', v, rfl, hbb', hv, hc'⟩ := h1.at (k := n - 1 - j) (by rw [HN.out]; omega)
        have hi1 : (j : Int) < (n' : Int) := by omega
        have hi2 : (j : Int) < (n : Int) := by omega
        have ht := Pl.term_le k ms h0 h3 HS.out j (by omega)
        have pb1 := Pl.psum_le k ms h0 h3 HS.out (j + 1) (by omega)
        have e1 : (Pl.wl k).getD j 0 = u := by rw [List.getD_eq_getElem?_getD, hu]; rfl
        have e2 : Pl.mth ms j = v := Pl.mth_get (by rw [HN.out]; exact hj2) (by rw [HN.out]; exact hv)
        have HP := Lib.hid (Pl.psum_succ k ms j)
        rw [HP.out] at pb1
        rw [e1, e2] at ht pb1
        have E1 := Lib.hid e1; have E2 := Lib.hid e2
        clear e1 e2 hu hv
        go_wp2_with fail
        go_quiet (fail)
        go_wp2_with fail
        go_roundw
        case rel => exact ⟨j + 1, _, by omega, by omega, by rw [HP.out, E1.out, E2.out], by go_num, rfl⟩
        case measure => simp [intOf]; omega
      · have hd : decide ((j : Int) < (n : Int)) = false := by simp; omega
        have hi1 : (j : Int) < (n' : Int) := by omega
        have E := Lib.hid (Pl.psum_end k ms j h0 h3 (by rw [← HK.out]; omega) (by rw [HN.out]; omega) (.inr (by rw [HN.out]; omega)))
        obtain ⟨S, hS⟩ : ∃ S, S = Pl.psum k ms j := ⟨_, rfl⟩
        rw [← hS] at pb ⊢
        have hfl := Pl.floor_le S 16 (by omega) (by omega)
        have H2 := Lib.hid hS; clear hS
        go_wp2_with (first
          | (go_at_call 20; refine (loud_r _ _).mono ?_; rintro e w' ⟨rfl, rfl⟩)
          | (go_at_call 22; refine (floor_r _ _ (by omega) (by omega) _).mono ?_; rintro e w' ⟨rfl, rfl⟩))
        go_ret
        exact ⟨ret_int (by rw [H2.out, E.out]; rfl), below_drawn hb _⟩
    · have hd : decide ((j : Int) < (n' : Int)) = false := by simp; omega
      have E := Lib.hid (Pl.psum_end k ms j h0 h3 (by rw [← HK.out]; omega) (by rw [HN.out]; omega) (.inl (by rw [← HK.out]; omega)))
      obtain ⟨S, hS⟩ : ∃ S, S = Pl.psum k ms j := ⟨_, rfl⟩
      rw [← hS] at pb ⊢
      have hfl := Pl.floor_le S 16 (by omega) (by omega)
      have H2 := Lib.hid hS; clear hS
      go_wp2_with (first
        | (go_at_call 20; refine (loud_r _ _).mono ?_; rintro e w' ⟨rfl, rfl⟩)
        | (go_at_call 22; refine (floor_r _ _ (by omega) (by omega) _).mono ?_; rintro e w' ⟨rfl, rfl⟩))
      go_ret
      exact ⟨ret_int (by rw [H2.out, E.out]; rfl), below_drawn hb _⟩
end Go.Proofs.Ytjehichejggfbaa
