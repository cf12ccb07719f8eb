/- The walk of one step. -/
import Derived.Test.YtkdaalceekbahaaLevinE
namespace Go.Proofs.Ytkdaalceekbahaa
open Go.RowKit
set_option linter.unusedVariables false
theorem gb_refl (w : World) (row : Option Nat) : w.grownBy w row := ⟨rfl, rfl, rfl, Nat.le_refl _, fun _ _ _ => rfl⟩
/-- the solver at block p -/
def Slv (w : World) (p : Nat) (A : Option Addr) (n ca : Nat) (C : Option Addr) (m cc : Nat) (err : Int) : Prop := Blk w p 45 #[.slice A n ca, .slice C m cc, .int .i64 err]
theorem Slv.c0 {w : World} {p : Nat} {A : Option Addr} {n ca : Nat} {C : Option Addr} {m cc : Nat} {err : Int} (h : Slv w p A n ca C m cc err) : w.cell? ⟨p, 0, none⟩ = some (.slice A n ca) := Blk.cell h 0
theorem Slv.c1 {w : World} {p : Nat} {A : Option Addr} {n ca : Nat} {C : Option Addr} {m cc : Nat} {err : Int} (h : Slv w p A n ca C m cc err) : w.cell? ⟨p, 1, none⟩ = some (.slice C m cc) := Blk.cell h 1
theorem Slv.c2 {w : World} {p : Nat} {A : Option Addr} {n ca : Nat} {C : Option Addr} {m cc : Nat} {err : Int} (h : Slv w p A n ca C m cc err) : w.cell? ⟨p, 2, none⟩ = some (.int .i64 err) := Blk.cell h 2
set_option maxHeartbeats 1600000 in
theorem step_p (p : Nat) (A C : Option Addr) (n ca m cc B : Nat) (r c : List Int) (err : Int) (w : World) (hn : r.length = n) (hm : c.length = m) (hn2 : n ≤ 1000) (hm2 : m ≤ 100) (hr : Rd w B A r) (hB : B ≤ p) (hc : Rd w w.heap.size C c)
    (fr : Pl.Far31 r) (fc : Pl.Far31 c) (he : 0 ≤ err ∧ err ≤ 2147483648) (hs : Slv w p A n ca C m cc err) :
    Calls Try.prog 24 #[.pointer (some ⟨p, 0, none⟩)] w fun e w' => w.grownBy w' (some p) ∧
      ((Pl.step r c err = none ∧ e = .returned (.bool false)) ∨
       (∃ s C' cc', Pl.step r c err = some s ∧ e = .returned (.bool true) ∧ Slv w' p A n ca C' (m + 1) cc' s.2.1 ∧ Rd w' w'.heap.size C' s.2.2 ∧ ∀ g, blk C' = some g → w.heap.size ≤ g)) := by
  have c0 := hs.c0
  have c1 := hs.c1
  have c2 := hs.c2
  have hp : p < w.heap.size := Blk.lt hs
  by_cases hA : m + 1 < n
  · have hAi : (m : Int) + 1 < (n : Int) := by omega
    by_cases hE : 0 < err
    · have hdA : decide ((n : Int) ≤ (m : Int) + 1) = false := by simp; omega
      have hdE : decide (err ≤ 0) = false := by simp; omega
      have hms : Calls Try.prog 29 #[.pointer (some ⟨p, 0, none⟩), .int .i64 ((m : Int) + 1)] w fun e w' => e = .returned (.int .i64 (Pl.missN r c (m + 1) m)) ∧ ∃ d, w' = w.drewN d := by
        have h := miss_p p A C n ca m cc w.heap.size (m + 1) r c w hn hm rfl hA hn2 (hr.more (by omega)) hc fr fc c0 c1
        rwa [show ((m + 1 : Nat) : Int) = (m : Int) + 1 by omega] at h
      have es0 : Pl.step r c err = if err ≤ Pl.missN r c (m + 1) m ∨ Pl.missN r c (m + 1) m ≤ -err then none else some (Pl.refl (Pl.missN r c (m + 1) m) err, Pl.less (Pl.refl (Pl.missN r c (m + 1) m) err) err, Pl.turn c (Pl.refl (Pl.missN r c (m + 1) m) err)) := by
        unfold Pl.step; rw [hm, if_pos ⟨by rw [hn]; exact hA, hE⟩]
      have ES := Lib.hid es0
      have HMS := Lib.hid hms
      have HM := Lib.hid hm
      clear es0 hms hn hm
      generalize Pl.missN r c (m + 1) m = a at *
      by_cases ha : err ≤ a
      · go_enter Try.func24, Try.ntmps24
        go_wp2_with (go_at_call 29; refine (HMS.out).mono ?_; rintro e w1 ⟨rfl, d, hw1⟩; have hs1 : Slv w1 p A n ca C m cc err := hw1 ▸ hs; have hc1 : Rd w1 w1.heap.size C c := hw1 ▸ hc; have hg1 : w.grownBy w1 (some p) := hw1 ▸ gb_drawn (gb_refl _ _) d; clear hw1; have k0 := hs1.c0; have k1 := hs1.c1; have k2 := hs1.c2)
        go_ret
        exact ⟨hg1, .inl ⟨by rw [ES.out, if_pos (.inl ha)], rfl⟩⟩
      · have hda : decide (err ≤ a) = false := by simpa using ha
        by_cases hb : a ≤ -err
        · go_enter Try.func24, Try.ntmps24
          go_wp2_with (go_at_call 29; refine (HMS.out).mono ?_; rintro e w1 ⟨rfl, d, hw1⟩; have hs1 : Slv w1 p A n ca C m cc err := hw1 ▸ hs; have hc1 : Rd w1 w1.heap.size C c := hw1 ▸ hc; have hg1 : w.grownBy w1 (some p) := hw1 ▸ gb_drawn (gb_refl _ _) d; clear hw1; have k0 := hs1.c0; have k1 := hs1.c1; have k2 := hs1.c2)
          go_ret
          exact ⟨hg1, .inl ⟨by rw [ES.out, if_pos (.inr hb)], rfl⟩⟩
        · have hdb : decide (a ≤ -err) = false := by simpa using hb
          have hk := Pl.refl_le hE (a := a) (by omega) (by omega)
          have hl := Pl.less_le (k := Pl.refl a err) (err := err) he.1 ⟨hk.1, by omega⟩
          have ES2 : Hid (Pl.step r c err = some (Pl.refl a err, Pl.less (Pl.refl a err) err, Pl.turn c (Pl.refl a err))) := by show _ = _; rw [ES.out, if_neg (by omega)]
          have HFL : Hid (∀ W : World, Calls Try.prog 30 #[.int .i64 (a * 16777216), .int .i64 err] W fun e w' => e = .returned (.int .i64 (Pl.refl a err)) ∧ W = w') := by
            intro W
            have h := floor_p (a * 16777216) err (by omega) (by omega) W
            unfold Pl.floor at h
            rwa [if_neg (by omega)] at h
          clear ES
          generalize Pl.refl a err = k at *
          have pk : -16777216 ≤ k ∧ k ≤ 16777216 := by omega
          have p1 := Pl.prod_le (M := 16777216) (by omega) pk pk
          have p2 : 0 ≤ k * k := by
            rcases Int.le_total 0 k with h | h
            · exact Int.mul_nonneg h h
            · exact Int.mul_nonneg_of_nonpos_of_nonpos h h
          have p3 := Pl.prod_le (a := k * k / 16777216) (b := err) (M := 2147483648) (by omega) (by omega) (by omega)
          have el : err - k * k / 16777216 * err / 16777216 = Pl.less k err := rfl
          have w1' : IntKind.i64.wrap (k * k) = k * k := IntWalk.i64_in _ (by omega)
          have w2' : IntKind.i64.wrap (k * k / 16777216 * err) = k * k / 16777216 * err := IntWalk.i64_in _ (by omega)
          have w3' : IntKind.i64.wrap (err - k * k / 16777216 * err / 16777216) = Pl.less k err := by rw [el]; exact IntWalk.i64_in _ (by omega)
          clear el
          go_enter Try.func24, Try.ntmps24
          go_wp2_with (first
            | (go_at_call 29; refine (HMS.out).mono ?_; rintro e w1 ⟨rfl, d, hw1⟩; have hs1 : Slv w1 p A n ca C m cc err := hw1 ▸ hs; have hc1 : Rd w1 w1.heap.size C c := hw1 ▸ hc; have hg1 : w.grownBy w1 (some p) := hw1 ▸ gb_drawn (gb_refl _ _) d; clear hw1; have k0 := hs1.c0; have k1 := hs1.c1; have k2 := hs1.c2)
            | (go_at_call 30; refine (HFL.out _).mono ?_; rintro e w' ⟨rfl, rfl⟩)
            | (go_at_call 31; refine (turn_p p C m cc w1.heap.size c k w1 HM.out (by omega) hc1 (Nat.le_refl _) fc pk (Blk.lt hs1) hs1.c1).mono ?_; rintro e w2 ⟨⟨C', cc', rfl, o2⟩, b2⟩; have hs2 : Slv w2 p A n ca C m cc err := Blk.below hs1 b2 (Blk.lt hs1); have hf2 := Blk.free hs2 1; have k3 := hs2.c1; have hs3 : Slv (w2.setCell ⟨p, 1, none⟩ (.slice C' (m + 1) cc')) p A n ca C' (m + 1) cc' err := Blk.put hs2 1 _; have k4 := hs3.c2; have hf3 := Blk.free hs3 2))
          have hg2 : w1.grownBy w2 (some p) := gb_below b2 (Nat.le_refl _) _
          have HSZ := Lib.hid hg1.size
          have hg3 : w.grownBy (w2.setCell ⟨p, 1, none⟩ (.slice C' (m + 1) cc')) (some p) := gb_set (gb_trans hg1 hg2) _ _
          have hp1 : p < w1.heap.size := Blk.lt hs1
          have hCp : blk C' ≠ some p := by intro h; have := (o2.lt h).1; omega
          have o3 : Own (w2.setCell ⟨p, 1, none⟩ (.slice C' (m + 1) cc')) w1.heap.size C' (m + 1) cc' (Pl.turn c k) := o2.kept (gb_set (gb_refl _ _) _ _) (.inr hCp)
          clear hf2 k3 hs2 o2 b2 hg1 hg2 hs1 hc1 k0 k1 k2 c0 c1 c2 hc hs
          generalize (w2.setCell ⟨p, 1, none⟩ (.slice C' (m + 1) cc')) = W3 at *
          have hs4 : Slv (W3.setCell ⟨p, 2, none⟩ (.int .i64 (Pl.less k err))).drew p A n ca C' (m + 1) cc' (Pl.less k err) := Blk.put hs3 2 _
          have hg4 : w.grownBy (W3.setCell ⟨p, 2, none⟩ (.int .i64 (Pl.less k err))).drew (some p) := gb_drew (gb_set hg3 _ _)
          have o4 : Own (W3.setCell ⟨p, 2, none⟩ (.int .i64 (Pl.less k err))).drew w1.heap.size C' (m + 1) cc' (Pl.turn c k) := (o3.kept (gb_set (gb_refl _ _) _ _) (.inr hCp)).drawn 1
          have HS4 := Lib.hid hs4
          have HG4 := Lib.hid hg4
          have HO4 := Lib.hid o4
          clear hs4 hg4 o4 o3 hg3 hs3
          go_region
          all_goals
            go_wp2_with fail
            go_ret
            exact ⟨HG4.out, .inr ⟨_, C', cc', ES2.out, rfl, HS4.out, HO4.out.rd, fun g hg => Nat.le_trans HSZ.out (HO4.out.lt hg).1⟩⟩
    · have es0 : Pl.step r c err = none := by unfold Pl.step; rw [if_neg (fun h => hE h.2)]
      have hdA : decide ((n : Int) ≤ (m : Int) + 1) = false := by simp; omega
      have hdE : err ≤ 0 := by omega
      have ES := Lib.hid es0
      clear es0 hn hm
      go_enter Try.func24, Try.ntmps24
      go_wp2_with fail
      go_ret
      exact ⟨gb_refl _ _, .inl ⟨ES.out, rfl⟩⟩
  · have es0 : Pl.step r c err = none := by unfold Pl.step; rw [if_neg (fun h => hA (by rw [← hm, ← hn]; exact h.1))]
    have hdA : (n : Int) ≤ (m : Int) + 1 := by omega
    have ES := Lib.hid es0
    clear es0 hn hm
    go_enter Try.func24, Try.ntmps24
    go_wp2_with fail
    go_ret
    exact ⟨gb_refl _ _, .inl ⟨ES.out, rfl⟩⟩
end Go.Proofs.Ytkdaalceekbahaa
