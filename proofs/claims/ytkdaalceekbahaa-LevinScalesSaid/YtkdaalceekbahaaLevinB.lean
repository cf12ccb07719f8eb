/- The walk of levin's norm. -/
import Derived.Test.YtkdaalceekbahaaLevinA
import Derived.RegionTactic
import Derived.BigRegion
namespace Go.Proofs.Ytkdaalceekbahaa
open Go.RowKit
set_option linter.unusedVariables false
theorem moved_p (h X : Int) (w : World) (h0 : 0 < h) (h1 : h ≤ 4611686018427387904) (hX : -4611686018427387904 ≤ X ∧ X ≤ 4611686018427387904) (hm : 0 < 31 - Pl.width h → -h ≤ X ∧ X ≤ h) :
    Calls Try.prog 18 #[.int .i64 X, .int .i64 (31 - Pl.width h)] w fun e w' => e = .returned (.int .i64 (Pl.scale h X)) ∧ w = w' := by
  have hw := Pl.width_rng h0 h1
  have ht := Pl.top_rng h0 h1
  by_cases hle : Pl.width h ≤ 31
  · have e : Pl.scale h X = X * Pl.pow (31 - Pl.width h) := by unfold Pl.scale; rw [if_pos hle]
    have hb : -9223372036854775808 ≤ Pl.scale h X ∧ Pl.scale h X ≤ 9223372036854775807 := by
      rcases Int.lt_or_le 0 (31 - Pl.width h) with h2 | h2
      · have := hm h2
        have := Pl.scale_mid (x := X) hle this.1 this.2
        omega
      · rw [e, Pl.pow_one h2]; omega
    rw [e] at hb ⊢
    exact moved_up X _ w (by omega) (by omega) hb
  · have e : Pl.scale h X = X / Pl.pow (-(31 - Pl.width h)) := by unfold Pl.scale; rw [if_neg hle]; congr 2; omega
    rw [e]
    exact moved_dn X _ w (by omega) (by omega)
theorem below_dn {B : Nat} {a w : World} (h : Below B a w) (k : Nat) : Below B a (w.drewN k) := ⟨h.os, h.tape, h.output, h.size, h.block⟩
theorem hold_q (x : Int) (w : World) : Calls Try.prog 17 #[.int .i64 x] w fun e w' => e = .returned (.int .i64 (Pl.hold x)) ∧ w' = w := (hold_p x w).mono fun _ _ ⟨he, hw⟩ => ⟨he, hw.symm⟩
set_option maxHeartbeats 1600000 in
theorem norm_p (A : Option Addr) (n c B : Nat) (xs : List Int) (w : World) (hn : xs.length = n) (hn2 : n ≤ 1000000) (hx : Rd w B A xs) (hB : B ≤ w.heap.size) :
    Calls Try.prog 9 #[.slice A n c] w fun e w' => (∃ A' n' c', e = .returned (.slice A' n' c') ∧ (Pl.norm xs).length = n' ∧ Rd w' w'.heap.size A' (Pl.norm xs)) ∧ Below w.heap.size w w' := by
  have HN := Lib.hid hn
  rcases Nat.eq_zero_or_pos n with h0 | hpos
  · subst h0
    have hxs : xs = [] := List.eq_nil_of_length_eq_zero hn
    subst hxs
    clear hn HN
    go_enter Try.func9, Try.ntmps9
    go_wp2_with fail
    go_ret
    exact ⟨⟨none, 0, 0, rfl, rfl, Rd.nil _ _ _⟩, Below.refl _ _⟩
  · obtain ⟨b, off, x0, rfl, hbb, hxx, hc0⟩ := hx.at (k := 0) (by omega)
    have hz : ((n : Int) == 0) = false := by simp; omega
    have ex0 : Hid (xs.getD 0 0 = x0) := by show _ = _; rw [List.getD_eq_getElem?_getD, hxx]; rfl
    have hc0' : w.cell? ⟨b, off, none⟩ = some (.int .i64 x0) := hc0
    clear hn hxx hc0
    by_cases hle : x0 ≤ 0
    · have en : Hid (Pl.norm xs = []) := by show _ = _; unfold Pl.norm; rw [ex0.out, if_pos hle]
      rw [en.out]
      go_enter Try.func9, Try.ntmps9
      go_wp2_with fail
      go_ret
      exact ⟨⟨none, 0, 0, rfl, rfl, Rd.nil _ _ _⟩, Below.refl _ _⟩
    · have hdl : decide (x0 ≤ 0) = false := by simpa using hle
      have hh : 0 < Pl.hold x0 ∧ Pl.hold x0 ≤ 4611686018427387904 := by unfold Pl.hold; repeat' split
                                                                        all_goals omega
      have en : Hid (Pl.norm xs = xs.map (Pl.nrm (Pl.hold x0))) := by show _ = _; unfold Pl.norm; rw [ex0.out, if_neg hle]
      rw [en.out]
      clear en ex0
      have hmk := run_mk n hn2
      have hw := Pl.width_rng hh.1 hh.2
      have ht := Pl.top_rng hh.1 hh.2
      have hmv : Calls Try.prog 18 #[.int .i64 (Pl.hold x0), .int .i64 (31 - Pl.width (Pl.hold x0))] w fun e w' => e = .returned (.int .i64 (Pl.top (Pl.hold x0))) ∧ w = w' :=
        moved_p (Pl.hold x0) (Pl.hold x0) w hh.1 hh.2 (by omega) (by omega)
      have HMV := Lib.hid hmv
      clear hmv
      go_enter Try.func9, Try.ntmps9
      go_wp2_with (first
        | (go_at_call 17; refine (hold_p _ _).mono ?_; rintro e w' ⟨rfl, rfl⟩)
        | (go_at_call 16; refine (width_p _ (by omega) (by omega) _).mono ?_; rintro e w' ⟨rfl, rfl⟩)
        | (go_at_call 18; refine (HMV.out).mono ?_; rintro e w' ⟨rfl, rfl⟩))
      obtain ⟨O1, h1⟩ : ∃ O, O = w.heap.size := ⟨_, rfl⟩
      rw [← h1]
      have o1 : Blk (w.alloc (.cells (filled [] n) 3)) O1 3 (filled [] n) := by subst h1; exact Blk.new _ _ _
      have b0 : Below w.heap.size w (w.alloc (.cells (filled [] n) 3)) := (Below.refl _ _).alloc (Nat.le_refl _) _
      have hO1 : w.heap.size ≤ O1 := by omega
      clear h1 hmk HMV
      generalize (w.alloc (.cells (filled [] n) 3)) = w2 at *
      go_loopw [37] (fun i wr => ∃ j : Nat, j ≤ n ∧ i = .int .i64 j ∧ Blk wr O1 3 (filled ((xs.map (Pl.nrm (Pl.hold x0))).take j) n) ∧ Below w.heap.size w wr) (fun i _ => n - (intOf i).toNat)
      case atStart => exact ⟨0, by omega, rfl, o1, b0⟩
      case round =>
        obtain ⟨j, hj, rfl, q1, hb⟩ := hrel
        clear o1 b0
        have hl1 : Hid (((xs.map (Pl.nrm (Pl.hold x0))).take j).length = j) := by show _ = _; rw [List.length_take, List.length_map, HN.out]; omega
        by_cases hlt : j < n
        · obtain ⟨b', off', x, e2, hbb', hxx, hcx⟩ := (hx.later hb hB).at (k := j) (by rw [HN.out]; exact hlt)
          injection e2 with e2; injection e2 with e3 e4
          subst e3; subst e4
          have hji : (j : Int) < (n : Int) := by omega
          have hcr : wr.cell? ⟨b, off, none⟩ = some (.int .i64 x0) := (hb.cell (p := ⟨b, off, none⟩) (show b < w.heap.size by omega)).trans hc0'
          obtain ⟨u1, hu1⟩ := filled_get (ts := (xs.map (Pl.nrm (Pl.hold x0))).take j) hlt
          have T1 : Hid ((xs.map (Pl.nrm (Pl.hold x0))).take (j + 1) = (xs.map (Pl.nrm (Pl.hold x0))).take j ++ [Pl.nrm (Pl.hold x0) x]) := by
            show _ = _; rw [List.take_add_one, List.getElem?_map, hxx]; rfl
          have hhx := Pl.hold_le x
          have HU := Lib.hid hu1
          clear hxx hu1
          go_wp2_with fail
          go_quiet ((go_at_call 17; exact Calls.quiet_of_same (hold_q _ _)))
          have q2 : Blk (wr.drewN nq) O1 3 (filled ((xs.map (Pl.nrm (Pl.hold x0))).take j) n) := q1
          have hb2 := below_dn hb nq
          clear q1 hb hcx hcr
          generalize wr.drewN nq = ws at *
          have hc1 : ws.cell? ⟨O1, j, none⟩ = some (.int .i64 u1) := (q2.cell j).trans HU.out
          have hf1 := q2.free j
          by_cases hby : 0 < 31 - Pl.width (Pl.hold x0)
          · by_cases hlo : Pl.hold x < -Pl.hold x0
            · have hs := Pl.scale_lo (h := Pl.hold x0) (x := Pl.hold x) (by omega) hlo
              have ev : Pl.nrm (Pl.hold x0) x = -Pl.top (Pl.hold x0) := by unfold Pl.nrm Pl.clamp; rw [if_pos (.inl hs)]
              have O5 : Hid (Blk (ws.setCell ⟨O1, j, none⟩ (.int .i64 (-Pl.top (Pl.hold x0)))) O1 3 (filled ((xs.map (Pl.nrm (Pl.hold x0))).take (j + 1)) n)) := by
                have h := q2.put j (.int .i64 (-Pl.top (Pl.hold x0)))
                have h2 := filled_put (ts := (xs.map (Pl.nrm (Pl.hold x0))).take j) (n := n) (-Pl.top (Pl.hold x0)) (by rw [hl1.out]; exact hlt)
                have h3 : (xs.map (Pl.nrm (Pl.hold x0))).take (j + 1) = (xs.map (Pl.nrm (Pl.hold x0))).take j ++ [-Pl.top (Pl.hold x0)] := by rw [T1.out, ev]
                rw [hl1.out] at h2
                rw [h2, ← h3] at h
                exact h
              have B5 : Hid (Below w.heap.size w (ws.setCell ⟨O1, j, none⟩ (.int .i64 (-Pl.top (Pl.hold x0))))) := hb2.setCell (p := ⟨O1, j, none⟩) hO1 _
              clear q2 hb2 ev T1
              go_wp2_with (first | (go_at_call 17; refine (hold_p _ _).mono ?_; rintro e w' ⟨rfl, rfl⟩))
              go_roundw
              case rel => exact ⟨j + 1, by omega, by go_num, O5.out, B5.out⟩
              case measure => simp [intOf]; omega
            · have hdlo : decide (Pl.hold x < -Pl.hold x0) = false := by simpa using hlo
              by_cases hhi : Pl.hold x0 < Pl.hold x
              · have hs := Pl.scale_hi (h := Pl.hold x0) (x := Pl.hold x) (by omega) hhi
                have ev : Pl.nrm (Pl.hold x0) x = Pl.top (Pl.hold x0) := by unfold Pl.nrm Pl.clamp; rw [if_neg (by omega), if_pos hs]
                have O5 : Hid (Blk (ws.setCell ⟨O1, j, none⟩ (.int .i64 (Pl.top (Pl.hold x0)))) O1 3 (filled ((xs.map (Pl.nrm (Pl.hold x0))).take (j + 1)) n)) := by
                  have h := q2.put j (.int .i64 (Pl.top (Pl.hold x0)))
                  have h2 := filled_put (ts := (xs.map (Pl.nrm (Pl.hold x0))).take j) (n := n) (Pl.top (Pl.hold x0)) (by rw [hl1.out]; exact hlt)
                  have h3 : (xs.map (Pl.nrm (Pl.hold x0))).take (j + 1) = (xs.map (Pl.nrm (Pl.hold x0))).take j ++ [Pl.top (Pl.hold x0)] := by rw [T1.out, ev]
                  rw [hl1.out] at h2
                  rw [h2, ← h3] at h
                  exact h
                have B5 : Hid (Below w.heap.size w (ws.setCell ⟨O1, j, none⟩ (.int .i64 (Pl.top (Pl.hold x0))))) := hb2.setCell (p := ⟨O1, j, none⟩) hO1 _
                clear q2 hb2 ev T1
                go_wp2_with (first | (go_at_call 17; refine (hold_p _ _).mono ?_; rintro e w' ⟨rfl, rfl⟩))
                go_roundw
                case rel => exact ⟨j + 1, by omega, by go_num, O5.out, B5.out⟩
                case measure => simp [intOf]; omega
              · have hdhi : decide (Pl.hold x0 < Pl.hold x) = false := by simpa using hhi
                have HMV : Hid (∀ W : World, Calls Try.prog 18 #[.int .i64 (Pl.hold x), .int .i64 (31 - Pl.width (Pl.hold x0))] W fun e w' => e = .returned (.int .i64 (Pl.scale (Pl.hold x0) (Pl.hold x))) ∧ W = w') :=
                  fun W => moved_p (Pl.hold x0) (Pl.hold x) W hh.1 hh.2 hhx (fun _ => by omega)
                have HCL : Hid (∀ W : World, Calls Try.prog 19 #[.int .i64 (Pl.scale (Pl.hold x0) (Pl.hold x)), .int .i64 (-Pl.top (Pl.hold x0)), .int .i64 (Pl.top (Pl.hold x0))] W fun e w' => e = .returned (.int .i64 (Pl.nrm (Pl.hold x0) x)) ∧ W = w') :=
                  fun W => clamp_p _ _ _ W
                have ev : Pl.nrm (Pl.hold x0) x = Pl.nrm (Pl.hold x0) x := rfl
                have O5 : Hid (Blk (ws.setCell ⟨O1, j, none⟩ (.int .i64 (Pl.nrm (Pl.hold x0) x))) O1 3 (filled ((xs.map (Pl.nrm (Pl.hold x0))).take (j + 1)) n)) := by
                  have h := q2.put j (.int .i64 (Pl.nrm (Pl.hold x0) x))
                  have h2 := filled_put (ts := (xs.map (Pl.nrm (Pl.hold x0))).take j) (n := n) (Pl.nrm (Pl.hold x0) x) (by rw [hl1.out]; exact hlt)
                  have h3 : (xs.map (Pl.nrm (Pl.hold x0))).take (j + 1) = (xs.map (Pl.nrm (Pl.hold x0))).take j ++ [Pl.nrm (Pl.hold x0) x] := by rw [T1.out, ev]
                  rw [hl1.out] at h2
                  rw [h2, ← h3] at h
                  exact h
                have B5 : Hid (Below w.heap.size w (ws.setCell ⟨O1, j, none⟩ (.int .i64 (Pl.nrm (Pl.hold x0) x)))) := hb2.setCell (p := ⟨O1, j, none⟩) hO1 _
                clear q2 hb2 ev T1
                go_wp2_with (first | (go_at_call 17; refine (hold_p _ _).mono ?_; rintro e w' ⟨rfl, rfl⟩) | (go_at_call 18; refine (HMV.out _).mono ?_; rintro e w' ⟨rfl, rfl⟩) | (go_at_call 19; refine (HCL.out _).mono ?_; rintro e w' ⟨rfl, rfl⟩))
                go_roundw
                case rel => exact ⟨j + 1, by omega, by go_num, O5.out, B5.out⟩
                case measure => simp [intOf]; omega
          · have hdby : decide (0 < 31 - Pl.width (Pl.hold x0)) = false := by simpa using hby
            have HMV : Hid (∀ W : World, Calls Try.prog 18 #[.int .i64 (Pl.hold x), .int .i64 (31 - Pl.width (Pl.hold x0))] W fun e w' => e = .returned (.int .i64 (Pl.scale (Pl.hold x0) (Pl.hold x))) ∧ W = w') :=
              fun W => moved_p (Pl.hold x0) (Pl.hold x) W hh.1 hh.2 hhx (fun h => absurd h hby)
            have HCL : Hid (∀ W : World, Calls Try.prog 19 #[.int .i64 (Pl.scale (Pl.hold x0) (Pl.hold x)), .int .i64 (-Pl.top (Pl.hold x0)), .int .i64 (Pl.top (Pl.hold x0))] W fun e w' => e = .returned (.int .i64 (Pl.nrm (Pl.hold x0) x)) ∧ W = w') :=
              fun W => clamp_p _ _ _ W
            have ev : Pl.nrm (Pl.hold x0) x = Pl.nrm (Pl.hold x0) x := rfl
            have O5 : Hid (Blk (ws.setCell ⟨O1, j, none⟩ (.int .i64 (Pl.nrm (Pl.hold x0) x))) O1 3 (filled ((xs.map (Pl.nrm (Pl.hold x0))).take (j + 1)) n)) := by
              have h := q2.put j (.int .i64 (Pl.nrm (Pl.hold x0) x))
              have h2 := filled_put (ts := (xs.map (Pl.nrm (Pl.hold x0))).take j) (n := n) (Pl.nrm (Pl.hold x0) x) (by rw [hl1.out]; exact hlt)
              have h3 : (xs.map (Pl.nrm (Pl.hold x0))).take (j + 1) = (xs.map (Pl.nrm (Pl.hold x0))).take j ++ [Pl.nrm (Pl.hold x0) x] := by rw [T1.out, ev]
              rw [hl1.out] at h2
              rw [h2, ← h3] at h
              exact h
            have B5 : Hid (Below w.heap.size w (ws.setCell ⟨O1, j, none⟩ (.int .i64 (Pl.nrm (Pl.hold x0) x)))) := hb2.setCell (p := ⟨O1, j, none⟩) hO1 _
            clear q2 hb2 ev T1
            go_wp2_with (first | (go_at_call 17; refine (hold_p _ _).mono ?_; rintro e w' ⟨rfl, rfl⟩) | (go_at_call 18; refine (HMV.out _).mono ?_; rintro e w' ⟨rfl, rfl⟩) | (go_at_call 19; refine (HCL.out _).mono ?_; rintro e w' ⟨rfl, rfl⟩))
            go_roundw
            case rel => exact ⟨j + 1, by omega, by go_num, O5.out, B5.out⟩
            case measure => simp [intOf]; omega
        · have hdj : decide ((j : Int) < (n : Int)) = false := by simp; omega
          have R1 : Hid (Rd wr wr.heap.size (some ⟨O1, 0, none⟩) (xs.map (Pl.nrm (Pl.hold x0)))) := by
            have h := filled_rd q1 (by rw [hl1.out]; omega)
            rwa [List.take_of_length_le (by rw [List.length_map, HN.out]; omega)] at h
          clear q1
          go_wp2_with fail
          go_ret
          exact ⟨⟨some ⟨O1, 0, none⟩, n, n, rfl, by rw [List.length_map, HN.out], R1.out⟩, hb⟩
end Go.Proofs.Ytkdaalceekbahaa
