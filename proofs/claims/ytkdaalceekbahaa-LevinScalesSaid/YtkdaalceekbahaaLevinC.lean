/- The walk of the document's norm. -/
import Derived.Test.YtkdaalceekbahaaLevinA
namespace Go.Proofs.Ytkdaalceekbahaa
open Go.RowKit
set_option linter.unusedVariables false
set_option maxHeartbeats 1600000 in
theorem norm_r (A : Option Addr) (n c B : Nat) (xs : List Int) (w : World) (hn : xs.length = n) (hn2 : n ≤ 1000) (hx : Rd w B A xs) (hB : B ≤ w.heap.size) :
    Calls Try.prog 11 #[.slice A n c] w fun e w' => (∃ A' n' c', e = .returned (.slice A' n' c') ∧ (Pl.norm xs).length = n' ∧ Rd w' w'.heap.size A' (Pl.norm xs)) ∧ Below w.heap.size w w' := by
  have HN := Lib.hid hn
  rcases Nat.eq_zero_or_pos n with h0 | hpos
  · subst h0
    have hxs : xs = [] := List.eq_nil_of_length_eq_zero hn
    subst hxs
    clear hn HN
    go_enter Try.func11, Try.ntmps11
    go_wp2_with fail
    go_ret
    exact ⟨⟨none, 0, 0, rfl, rfl, Rd.nil _ _ _⟩, Below.refl _ _⟩
  · obtain ⟨b, off, x0, rfl, hbb, hxx, hc0⟩ := hx.at (k := 0) (by omega)
    have hz : ((n : Int) == 0) = false := by simp; omega
    have ex0 : Hid (xs.getD 0 0 = x0) := by show _ = _; rw [List.getD_eq_getElem?_getD, hxx]; rfl
    have hc0' : w.cell? ⟨b, off, none⟩ = some (.int .i64 x0) := hc0
    clear hn hxx hc0
    by_cases hle : x0 ≤ 0
    · have en : Hid (Pl.norm xs = []) := by show _ = _; unfold Pl.norm; rw [ex0.out, if_pos hle]
      rw [en.out]
      go_enter Try.func11, Try.ntmps11
      go_wp2_with fail
      go_ret
      exact ⟨⟨none, 0, 0, rfl, rfl, Rd.nil _ _ _⟩, Below.refl _ _⟩
    · have hdl : decide (x0 ≤ 0) = false := by simpa using hle
      have hh : 0 < Pl.hold x0 ∧ Pl.hold x0 ≤ 4611686018427387904 := by unfold Pl.hold; repeat' split
                                                                        all_goals omega
      have en : Hid (Pl.norm xs = xs.map (Pl.nrm (Pl.hold x0))) := by show _ = _; unfold Pl.norm; rw [ex0.out, if_neg hle]
      rw [en.out]
      have hw := Pl.width_rng hh.1 hh.2
      have ht := Pl.top_rng hh.1 hh.2
      clear en ex0
      go_enter Try.func11, Try.ntmps11
      go_wp2_with (first
        | (go_at_call 20; refine (hold_r _ _).mono ?_; rintro e w' ⟨rfl, rfl⟩))
      clear hc0'
      generalize hHH : Pl.hold x0 = h at *
      have HH := Lib.hid hHH
      clear hHH
      obtain ⟨D, hD⟩ : ∃ D : Nat, (D : Int) = if Pl.width h ≤ 31 then 0 else Pl.width h - 31 := ⟨(if Pl.width h ≤ 31 then 0 else Pl.width h - 31).toNat, by split <;> omega⟩
      obtain ⟨U, hU⟩ : ∃ U : Nat, (U : Int) = if Pl.width h ≤ 31 then 31 - Pl.width h else 0 := ⟨(if Pl.width h ≤ 31 then 31 - Pl.width h else 0).toNat, by split <;> omega⟩
      have hDU : D ≤ 32 ∧ U ≤ 30 := by constructor <;> split at hD <;> split at hU <;> omega
      have TD : Hid (∀ d : Nat, d ≤ D → (2147483648 ≤ h / Pl.pow d ↔ d < D)) := fun d hd => Pl.dn_test hh.1 hh.2 hD d hd
      have TU : Hid (∀ u : Nat, u ≤ U → (h / Pl.pow D * Pl.pow u < 1073741824 ↔ u < U)) := fun u hu => Pl.up_test2 hh.1 hh.2 hD hU u hu
      have TL := Lib.hid (Pl.up_last (h := h) hD hU)
      have TS : Hid (∀ x, Pl.cut (Pl.top h) (Pl.mul (Pl.floor (Pl.hold x) (Pl.pow D)) (Pl.pow U)) = Pl.nrm h x) := fun x => Pl.ref_scale hh.1 hh.2 x U D hU hD
      clear hD hU
      go_loop [4, 5, 6] (fun s f i => ∃ d : Nat, d ≤ D ∧ i = .int .i64 d ∧ s = .int .i64 d ∧ f = .int .i64 (h / Pl.pow d)) (fun _ _ i => D - (intOf i).toNat)
      case atStart => exact ⟨0, by omega, rfl, rfl, by rw [Pl.pow_one (n := ((0 : Nat) : Int)) (by omega), Int.ediv_one]⟩
      case round =>
        obtain ⟨d, hd, rfl, rfl, rfl⟩ := hrel
        have hq := Pl.quo_range h (Pl.pow d) (Pl.pow_le _).1 (by omega) (by omega)
        have hq0 : 0 ≤ h / Pl.pow d := Int.ediv_nonneg (by omega) (by have := Pl.pow_le (d : Int); omega)
        have hi64 : (d : Int) < 64 := by omega
        by_cases hlt : d < D
        · have ht1 := (TD.out d hd).2 hlt
          have eh := Pl.half_more (h := h) d (by omega)
          generalize hg : h / Pl.pow d = f at *
          go_wp2_with fail
          go_round
          case rel => exact ⟨d + 1, by omega, by go_num, by go_num, by rw [← eh]⟩
          case measure => simp [intOf]; omega
        · have ht1 : decide (2147483648 ≤ h / Pl.pow d) = false := by
            rw [decide_eq_false_iff_not, TD.out d hd]; exact hlt
          have edD : d = D := by omega
          subst edD
          go_wp2_with fail
          have hF : 0 ≤ h / Pl.pow d := hq0
          have hFt : h / Pl.pow d < 2147483648 := by
            have := decide_eq_false_iff_not.1 ht1; omega
          have UM : Hid (∀ u : Nat, u < 62 → 2 * (h / Pl.pow d * Pl.pow u) = h / Pl.pow d * Pl.pow (u + 1 : Nat)) := fun u hu => Pl.up_more _ u hu
          have FS : h / Pl.pow d = h / Pl.pow d * Pl.pow ((0 : Nat) : Int) := by rw [Pl.pow_one (n := ((0 : Nat) : Int)) (by omega), Int.mul_one]
          have FN : Hid (∀ u : Nat, 0 ≤ h / Pl.pow d * Pl.pow u) := fun u => Int.mul_nonneg hq0 (by have := Pl.pow_le (u : Int); omega)
          clear ht1 TD hi64 hq hq0
          generalize h / Pl.pow d = F at *
          have FS2 := Lib.hid FS
          clear FS
          go_loop [3, 5, 7] (fun s f i => ∃ u : Nat, u ≤ U ∧ i = .int .i64 u ∧ s = .int .i64 u ∧ f = .int .i64 (F * Pl.pow u)) (fun _ _ i => U - (intOf i).toNat)
          case atStart => exact ⟨0, by omega, rfl, rfl, by rw [← FS2.out]⟩
          case round =>
            obtain ⟨u, hu, rfl, rfl, rfl⟩ := hrel
            have hi64 : (u : Int) < 64 := by omega
            by_cases hlu : u < U
            · have ht1 := (TU.out u hu).2 hlu
              have hn0 := FN.out u
              have eh := UM.out u (by omega)
              have EH := Lib.hid eh
              clear eh
              generalize hg : F * Pl.pow u = f at *
              go_wp2_with fail
              go_round
              case rel => exact ⟨u + 1, by omega, by go_num, by go_num, by rw [← EH.out]⟩
              case measure => simp [intOf]; omega
            · have ht1 : decide (F * Pl.pow u < 1073741824) = false := by
                rw [decide_eq_false_iff_not, TU.out u hu]; exact hlu
              have euU : u = U := by omega
              subst euU
              clear TU UM FN FS2
              have TL2 := TL.out
              rw [TL2] at ht1
              rw [TL2]
              clear TL TL2
              go_wp2_with fail
              go_loopw [8, 9] (fun o i wr => ∃ (j : Nat) (Ao : Option Addr) (co : Nat), j ≤ n ∧ i = .int .i64 j ∧ o = .slice Ao j co ∧ Own wr w.heap.size Ao j co ((xs.map (Pl.nrm h)).take j) ∧ Below w.heap.size w wr) (fun _ i _ => n - (intOf i).toNat)
              case atStart => exact ⟨0, none, 0, by omega, rfl, rfl, by simpa using Own.nil w w.heap.size, Below.refl _ _⟩
              case round =>
                obtain ⟨j, A1, c1, hj, rfl, rfl, ho, hb⟩ := hrel
                by_cases hlj : j < n
                · obtain ⟨b', off', x, e2, hbb', hxx, hcx⟩ := (hx.later hb hB).at (k := j) (by rw [HN.out]; exact hlj)
                  injection e2 with e2; injection e2 with e3 e4
                  subst e3; subst e4
                  have hji : (j : Int) < (n : Int) := by omega
                  have hw3 := hb.size
                  have HX2 := Lib.hid hxx
                  have HS := Lib.hid (TS.out x)
                  have hhx := Pl.hold_le x
                  have hpd := Pl.pow_le (d : Int)
                  have hpu := Pl.pow_le (u : Int)
                  clear hxx
                  by_cases h1 : Pl.top h < Pl.mul (Pl.floor (Pl.hold x) (Pl.pow d)) (Pl.pow u)
                  · have hd2 : decide (Pl.top h < -Pl.top h) = false := by simp; omega
                    have ev : Hid (Pl.nrm h x = Pl.top h) := by show _ = _; rw [← HS.out]; unfold Pl.cut; rw [if_pos h1, if_neg (by omega)]
                    go_wp2_with (first
                        | (go_at_call 20; refine (hold_r _ _).mono ?_; rintro e w' ⟨rfl, rfl⟩)
                        | (go_at_call 22; refine (power_r _ _).mono ?_; rintro e w' ⟨rfl, rfl⟩)
                        | (go_at_call 21; refine (floor_r _ _ (by omega) (by omega) _).mono ?_; rintro e w' ⟨rfl, rfl⟩)
                        | (go_at_call 23; refine (mul_r _ _ (by omega) (by omega) _).mono ?_; rintro e w' ⟨rfl, rfl⟩)
                        | (at_builtin; refine app1 rfl (.tmp 76) (.tmp 78) rfl w.heap.size A1 j c1 _ (Pl.top h) rfl rfl ho (by omega) hw3 ?_; intro A4 c4 w4 o4 g4 e4))
                    have bb4 := hb.grown g4 hw3 (fun g h => (ho.lt h).1)
                    have O4 : Own w4 w.heap.size A4 (j + 1) c4 ((xs.map (Pl.nrm h)).take (j + 1)) := by
                      rw [List.take_add_one, List.getElem?_map, HX2.out]
                      show Own w4 w.heap.size A4 (j + 1) c4 ((xs.map (Pl.nrm h)).take j ++ [Pl.nrm h x])
                      rw [ev.out]; exact o4
                    clear o4 g4 e4 ho hb hcx
                    go_roundw
                    case rel => exact ⟨j + 1, A4, c4, by omega, by go_num, rfl, O4, bb4⟩
                    case measure => simp [intOf]; omega
                  · have hd1 : decide (Pl.top h < Pl.mul (Pl.floor (Pl.hold x) (Pl.pow d)) (Pl.pow u)) = false := by simpa using h1
                    by_cases h2 : Pl.mul (Pl.floor (Pl.hold x) (Pl.pow d)) (Pl.pow u) < -Pl.top h
                    · skip
                      have ev : Hid (Pl.nrm h x = -Pl.top h) := by show _ = _; rw [← HS.out]; unfold Pl.cut; rw [if_neg h1, if_pos h2]
                      go_wp2_with (first
                          | (go_at_call 20; refine (hold_r _ _).mono ?_; rintro e w' ⟨rfl, rfl⟩)
                          | (go_at_call 22; refine (power_r _ _).mono ?_; rintro e w' ⟨rfl, rfl⟩)
                          | (go_at_call 21; refine (floor_r _ _ (by omega) (by omega) _).mono ?_; rintro e w' ⟨rfl, rfl⟩)
                          | (go_at_call 23; refine (mul_r _ _ (by omega) (by omega) _).mono ?_; rintro e w' ⟨rfl, rfl⟩)
                          | (at_builtin; refine app1 rfl (.tmp 76) (.tmp 78) rfl w.heap.size A1 j c1 _ (-Pl.top h) rfl rfl ho (by omega) hw3 ?_; intro A4 c4 w4 o4 g4 e4))
                      have bb4 := hb.grown g4 hw3 (fun g h => (ho.lt h).1)
                      have O4 : Own w4 w.heap.size A4 (j + 1) c4 ((xs.map (Pl.nrm h)).take (j + 1)) := by
                        rw [List.take_add_one, List.getElem?_map, HX2.out]
                        show Own w4 w.heap.size A4 (j + 1) c4 ((xs.map (Pl.nrm h)).take j ++ [Pl.nrm h x])
                        rw [ev.out]; exact o4
                      clear o4 g4 e4 ho hb hcx
                      go_roundw
                      case rel => exact ⟨j + 1, A4, c4, by omega, by go_num, rfl, O4, bb4⟩
                      case measure => simp [intOf]; omega
                    · have hd2 : decide (Pl.mul (Pl.floor (Pl.hold x) (Pl.pow d)) (Pl.pow u) < -Pl.top h) = false := by simpa using h2
                      have ev : Hid (Pl.nrm h x = Pl.mul (Pl.floor (Pl.hold x) (Pl.pow d)) (Pl.pow u)) := by show _ = _; rw [← HS.out]; unfold Pl.cut; rw [if_neg h1, if_neg h2]
                      go_wp2_with (first
                          | (go_at_call 20; refine (hold_r _ _).mono ?_; rintro e w' ⟨rfl, rfl⟩)
                          | (go_at_call 22; refine (power_r _ _).mono ?_; rintro e w' ⟨rfl, rfl⟩)
                          | (go_at_call 21; refine (floor_r _ _ (by omega) (by omega) _).mono ?_; rintro e w' ⟨rfl, rfl⟩)
                          | (go_at_call 23; refine (mul_r _ _ (by omega) (by omega) _).mono ?_; rintro e w' ⟨rfl, rfl⟩)
                          | (at_builtin; refine app1 rfl (.tmp 76) (.tmp 78) rfl w.heap.size A1 j c1 _ (Pl.mul (Pl.floor (Pl.hold x) (Pl.pow d)) (Pl.pow u)) rfl rfl ho (by omega) hw3 ?_; intro A4 c4 w4 o4 g4 e4))
                      have bb4 := hb.grown g4 hw3 (fun g h => (ho.lt h).1)
                      have O4 : Own w4 w.heap.size A4 (j + 1) c4 ((xs.map (Pl.nrm h)).take (j + 1)) := by
                        rw [List.take_add_one, List.getElem?_map, HX2.out]
                        show Own w4 w.heap.size A4 (j + 1) c4 ((xs.map (Pl.nrm h)).take j ++ [Pl.nrm h x])
                        rw [ev.out]; exact o4
                      clear o4 g4 e4 ho hb hcx
                      go_roundw
                      case rel => exact ⟨j + 1, A4, c4, by omega, by go_num, rfl, O4, bb4⟩
                      case measure => simp [intOf]; omega
                · have hdj : decide ((j : Int) < (n : Int)) = false := by simp; omega
                  have ejn : n = j := by omega
                  subst ejn
                  have et : (xs.map (Pl.nrm h)).take n = xs.map (Pl.nrm h) := List.take_of_length_le (by rw [List.length_map, HN.out]; exact Nat.le_refl _)
                  rw [et] at ho
                  have r0 := ho.rd
                  clear et ho
                  go_wp2_with fail
                  go_ret
                  exact ⟨⟨A1, n, c1, rfl, by rw [List.length_map, HN.out], by rw [HH.out]; exact r0⟩, hb⟩
end Go.Proofs.Ytkdaalceekbahaa
