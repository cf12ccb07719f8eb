/- The walks of the coefficients behind a step. -/
import Derived.Test.YtkdaalceekbahaaLevinD
import Derived.RegionTactic
import Derived.BigRegion
import Derived.Deep.RegionHeld3
namespace Go.Proofs.Ytkdaalceekbahaa
open Go.RowKit
set_option linter.unusedVariables false
theorem below_dn {B : Nat} {a w : World} (h : Below B a w) (k : Nat) : Below B a (w.drewN k) := ⟨h.os, h.tape, h.output, h.size, h.block⟩
theorem run_mk2 (n q : Nat) (hq : n ≤ q) (hn : q ≤ 1000000) (w : World) : (Instr.makeSlice 22 (.int .i64 (n : Int)) (.int .i64 (q : Int))).run Try.prog w = .ok (.slice (some ⟨w.heap.size, 0, none⟩) n q) (w.alloc (.cells (filled [] q) 3)) := by
  obtain ⟨i0, hi, hz0, hz1, hz2⟩ := info_parts info_int
  have h := run_make (P := Try.prog) w 22 3 i0 (.int .i64 0) Try.underlying22 hi hz0 .i64 .i64 n q (by omega) (by omega) (by rw [hz2]; omega) (by omega)
  simp only [Int.toNat_natCast, hz1, Nat.mul_one] at h
  rw [h]
  have e : madeCells (Value.int .i64 0).cells q = filled [] q := by
    apply Array.ext'
    have := toList_madeCells_one (.int .i64 0) q
    unfold filled
    simp only [List.nil_append, List.length_nil, Nat.sub_zero, List.map_replicate]
    exact this
  rw [e]
theorem own_filled {w : World} {base g n q : Nat} {ts : List Int} (h : Blk w g 3 (filled ts q)) (hg : base ≤ g) (hn : ts.length = n) (hq : n ≤ q) (hq2 : q ≤ 1000000) : Own w base (some ⟨g, 0, none⟩) n q ts := by
  refine ⟨hn, by simp [hn], .inr ⟨g, q, filled ts q, rfl, hg, h, hq, by unfold maxLen; omega, by unfold filled; simp; omega, ?_⟩⟩
  unfold filled
  simp only [Nat.mul_one]
  rw [← List.map_take, List.take_append_of_le_length (by omega), List.take_of_length_le (by omega)]
set_option maxHeartbeats 1600000 in
theorem turn_p (p : Nat) (C : Option Addr) (m cc B : Nat) (c : List Int) (k : Int) (w : World) (hm : c.length = m) (hm2 : m ≤ 1000) (hc : Rd w B C c) (hB : B ≤ w.heap.size) (fc : Pl.Far31 c) (hk : -16777216 ≤ k ∧ k ≤ 16777216) (hp : p < w.heap.size)
    (h1 : w.cell? ⟨p, 1, none⟩ = some (.slice C m cc)) :
    Calls Try.prog 31 #[.pointer (some ⟨p, 0, none⟩), .int .i64 k] w fun e w' => (∃ A' c', e = .returned (.slice A' (m + 1) c') ∧ Own w' w.heap.size A' (m + 1) c' (Pl.turn c k)) ∧ Below w.heap.size w w' := by
  have HM := Lib.hid hm
  have hmk := run_mk2 m (m + 1) (by omega) (by omega)
  rw [show ((m + 1 : Nat) : Int) = (m : Int) + 1 by omega] at hmk
  clear hm
  go_enter Try.func31, Try.ntmps31
  go_wp2_with fail
  obtain ⟨O1, hO⟩ : ∃ O, O = w.heap.size := ⟨_, rfl⟩
  rw [← hO]
  have o1 : Blk (w.alloc (.cells (filled [] (m + 1)) 3)) O1 3 (filled [] (m + 1)) := by subst hO; exact Blk.new _ _ _
  have b0 : Below w.heap.size w (w.alloc (.cells (filled [] (m + 1)) 3)) := (Below.refl _ _).alloc (Nat.le_refl _) _
  have hO1 : w.heap.size ≤ O1 := by omega
  clear hO hmk
  generalize (w.alloc (.cells (filled [] (m + 1)) 3)) = w2 at *
  go_loopw [19] (fun i wr => ∃ j : Nat, j ≤ m ∧ i = .int .i64 j ∧ Blk wr O1 3 (filled (((List.range m).map (Pl.turnV c k)).take j) (m + 1)) ∧ Below w.heap.size w wr) (fun i _ => m - (intOf i).toNat)
  case atStart => exact ⟨0, by omega, rfl, o1, b0⟩
  case round =>
    obtain ⟨j, hj, rfl, q1, hb⟩ := hrel
    clear o1 b0
    have hl1 : Hid ((((List.range m).map (Pl.turnV c k)).take j).length = j) := by show _ = _; rw [List.length_take, List.length_map, List.length_range]; omega
    have hcp : wr.cell? ⟨p, 1, none⟩ = some (.slice C m cc) := (hb.cell (p := ⟨p, 1, none⟩) hp).trans h1
    by_cases hlt : j < m
    · obtain ⟨bC, oC, x, rfl, hbC, hx, hcx⟩ := (hc.later hb hB).at (k := j) (by rw [HM.out]; exact hlt)
      obtain ⟨bC', oC', y, e2, _, hy, hcy⟩ := (hc.later hb hB).at (k := m - 1 - j) (by rw [HM.out]; omega)
      injection e2 with e2; injection e2 with e3 e4
      subst e3; subst e4
      have ex := getD_get hx
      have ey := getD_get hy
      have px := fc j
      have pk : -2147483648 ≤ k ∧ k ≤ 2147483648 := by omega
      have py := fc (m - 1 - j)
      rw [ex] at px
      rw [ey] at py
      have hp2 : -36028797018963968 ≤ k * y ∧ k * y ≤ 36028797018963968 := by
        have h1 : -(16777216 * 2147483648) ≤ k * y ∧ k * y ≤ 16777216 * 2147483648 := by
          have a1 : k.natAbs ≤ 16777216 := by omega
          have a2 : y.natAbs ≤ 2147483648 := by omega
          have a3 := Nat.mul_le_mul a1 a2
          rw [← Int.natAbs_mul] at a3
          omega
        omega
      have ev : Pl.clamp (x - k * y / 16777216) (-2147483648) 2147483648 = Pl.turnV c k j := by unfold Pl.turnV; rw [ex, HM.out, ey]
      have hjm : (j : Int) < (m : Int) := by omega
      obtain ⟨u1, hu1⟩ := filled_get (ts := ((List.range m).map (Pl.turnV c k)).take j) (n := m + 1) (show j < m + 1 by omega)
      have hc1 : wr.cell? ⟨O1, j, none⟩ = some (.int .i64 u1) := (q1.cell j).trans hu1
      have hf1 := q1.free j
      have T1 : Hid (((List.range m).map (Pl.turnV c k)).take (j + 1) = ((List.range m).map (Pl.turnV c k)).take j ++ [Pl.turnV c k j]) := by
        show _ = _
        have := Pl.turn_take c k j (by rw [HM.out]; exact hlt)
        rwa [HM.out] at this
      have Q1 : Hid (Blk (wr.setCell ⟨O1, j, none⟩ (.int .i64 (Pl.turnV c k j))).drew O1 3 (filled (((List.range m).map (Pl.turnV c k)).take (j + 1)) (m + 1))) := by
        have h := q1.put j (.int .i64 (Pl.turnV c k j))
        have h2 := filled_put (ts := ((List.range m).map (Pl.turnV c k)).take j) (n := m + 1) (Pl.turnV c k j) (by rw [hl1.out]; omega)
        rw [hl1.out] at h2
        rw [h2, ← T1.out] at h
        exact h
      have B5 : Hid (Below w.heap.size w (wr.setCell ⟨O1, j, none⟩ (.int .i64 (Pl.turnV c k j))).drew) := (hb.setCell (p := ⟨O1, j, none⟩) hO1 _).drew
      have HV := Lib.hid ev
      have w1 : IntKind.i64.wrap ((m : Int) - 1) = (m : Int) - 1 := IntWalk.i64_in _ (by omega)
      have w2 : IntKind.i64.wrap ((m : Int) - 1 - (j : Int)) = ((m - 1 - j : Nat) : Int) := by rw [show (m : Int) - 1 - (j : Int) = ((m - 1 - j : Nat) : Int) by omega]; exact IntWalk.i64_in _ (by omega)
      have w3 : IntKind.i64.wrap (k * y) = k * y := IntWalk.i64_in _ (by omega)
      have w4 : IntKind.i64.wrap (x - k * y / 16777216) = x - k * y / 16777216 := IntWalk.i64_in _ (by omega)
      have hmj : m - 1 - j < m := by omega
      have hne1 : O1 ≠ p := by omega
      have hne2 : O1 ≠ bC := by omega
      have hCL : Hid (∀ W : World, Calls Try.prog 19 #[.int .i64 (x - k * y / 16777216), .int .i64 (-2147483648), .int .i64 2147483648] W fun e w' => e = .returned (.int .i64 (Pl.turnV c k j)) ∧ W = w') := by
        intro W; have := clamp_p (x - k * y / 16777216) (-2147483648) 2147483648 W; rw [ev] at this; exact this
      clear hx hy ex ey ev T1 q1 hb hu1
      go_wp2_with fail
      go_region_held3 (fun w' => w'.cell? ⟨p, 1, none⟩ = some (.slice (some ⟨bC, oC, none⟩) m cc) ∧ w'.cell? ⟨bC, oC + j, none⟩ = some (.int .i64 x) ∧ w'.cell? ⟨bC, oC + (m - 1 - j), none⟩ = some (.int .i64 y))
        (first | exact ⟨hcp, hcx, hcy⟩ | exact ⟨(World.cell?_setCell_other _ _ _ _ (by simp [*])).trans hcp, (World.cell?_setCell_other _ _ _ _ (by simp [*])).trans hcx, (World.cell?_setCell_other _ _ _ _ (by simp [*])).trans hcy⟩)
        ((go_at_call 19; refine (hCL.out _).mono ?_; rintro e w' ⟨rfl, rfl⟩))
      all_goals
        go_wp2_with fail
        go_roundw
        case rel => exact ⟨j + 1, by omega, by go_num, Q1.out, B5.out⟩
        case measure => simp [intOf]; omega
    · have ejm : m = j := by omega
      subst ejm
      have hd : decide ((m : Int) < (m : Int)) = false := by simp
      have et : ((List.range m).map (Pl.turnV c k)).take m = (List.range m).map (Pl.turnV c k) := List.take_of_length_le (by simp)
      rw [et] at q1
      have o1 : Own wr w.heap.size (some ⟨O1, 0, none⟩) m (m + 1) ((List.range m).map (Pl.turnV c k)) := own_filled q1 hO1 (by simp) (by omega) (by omega)
      have hw3 := hb.size
      have ET : Hid (Pl.turn c k = (List.range m).map (Pl.turnV c k) ++ [k]) := by show _ = _; unfold Pl.turn; rw [HM.out]
      clear et q1 hcp hl1
      go_wp2_with (at_builtin; refine app1 rfl (.tmp 48) (.tmp 50) rfl w.heap.size (some ⟨O1, 0, none⟩) m (m + 1) _ k rfl rfl o1 (by omega) hw3 ?_; intro A4 c4 w4 o4 g4 e4)
      have bb4 := hb.grown g4 hw3 (fun g h => (o1.lt h).1)
      go_ret
      exact ⟨⟨A4, c4, rfl, by rw [ET.out]; exact o4⟩, bb4⟩
set_option maxHeartbeats 1600000 in
theorem turn_r (C : Option Addr) (m cc B : Nat) (c : List Int) (k : Int) (w : World) (hm : c.length = m) (hm2 : m ≤ 1000) (hc : Rd w B C c) (hB : B ≤ w.heap.size) (fc : Pl.Far31 c) (hk : -16777216 ≤ k ∧ k ≤ 16777216) :
    Calls Try.prog 27 #[.slice C m cc, .int .i64 k] w fun e w' => (∃ A' c', e = .returned (.slice A' (m + 1) c') ∧ Own w' w.heap.size A' (m + 1) c' (Pl.turn c k)) ∧ Below w.heap.size w w' := by
  have HM := Lib.hid hm
  clear hm
  go_enter Try.func27, Try.ntmps27
  go_wp2_with fail
  go_loopw [5, 6] (fun o i wr => ∃ (j : Nat) (Ao : Option Addr) (co : Nat), j ≤ m ∧ i = .int .i64 j ∧ o = .slice Ao j co ∧ Own wr w.heap.size Ao j co (((List.range m).map (Pl.turnV c k)).take j) ∧ Below w.heap.size w wr) (fun _ i _ => m - (intOf i).toNat)
  case atStart => exact ⟨0, none, 0, by omega, rfl, rfl, by simpa using Own.nil w w.heap.size, Below.refl _ _⟩
  case round =>
    obtain ⟨j, A1, c1, hj, rfl, rfl, ho, hb⟩ := hrel
    by_cases hlt : j < m
    · obtain ⟨bC, oC, x, rfl, hbC, hx, hcx⟩ := (hc.later hb hB).at (k := j) (by rw [HM.out]; exact hlt)
      obtain ⟨bC', oC', y, e2, _, hy, hcy⟩ := (hc.later hb hB).at (k := m - 1 - j) (by rw [HM.out]; omega)
      injection e2 with e2; injection e2 with e3 e4
      subst e3; subst e4
      have ex := getD_get hx
      have ey := getD_get hy
      have px := fc j
      have pk : -2147483648 ≤ k ∧ k ≤ 2147483648 := by omega
      have py := fc (m - 1 - j)
      rw [ex] at px
      rw [ey] at py
      have hp2 : -36028797018963968 ≤ k * y ∧ k * y ≤ 36028797018963968 := by
        have h1 : -(16777216 * 2147483648) ≤ k * y ∧ k * y ≤ 16777216 * 2147483648 := by
          have a1 : k.natAbs ≤ 16777216 := by omega
          have a2 : y.natAbs ≤ 2147483648 := by omega
          have a3 := Nat.mul_le_mul a1 a2
          rw [← Int.natAbs_mul] at a3
          omega
        omega
      have ev : Pl.clamp (x - k * y / 16777216) (-2147483648) 2147483648 = Pl.turnV c k j := by unfold Pl.turnV; rw [ex, HM.out, ey]
      have hjm : (j : Int) < (m : Int) := by omega
      have T1 : Hid (((List.range m).map (Pl.turnV c k)).take (j + 1) = ((List.range m).map (Pl.turnV c k)).take j ++ [Pl.turnV c k j]) := by
        show _ = _
        have := Pl.turn_take c k j (by rw [HM.out]; exact hlt)
        rwa [HM.out] at this
      have HV := Lib.hid ev
      have w1 : IntKind.i64.wrap ((m : Int) - 1) = (m : Int) - 1 := IntWalk.i64_in _ (by omega)
      have w2 : IntKind.i64.wrap ((m : Int) - 1 - (j : Int)) = ((m - 1 - j : Nat) : Int) := by rw [show (m : Int) - 1 - (j : Int) = ((m - 1 - j : Nat) : Int) by omega]; exact IntWalk.i64_in _ (by omega)
      have w3 : IntKind.i64.wrap (k * y) = k * y := IntWalk.i64_in _ (by omega)
      have w4 : IntKind.i64.wrap (x - k * y / 16777216) = x - k * y / 16777216 := IntWalk.i64_in _ (by omega)
      have hmj : m - 1 - j < m := by omega
      have hw3 := hb.size
      have hCL : Hid (∀ W : World, Calls Try.prog 32 #[.int .i64 (x - k * y / 16777216), .int .i64 (-2147483648), .int .i64 2147483648] W fun e w' => e = .returned (.int .i64 (Pl.turnV c k j)) ∧ W = w') := by
        intro W; have := clamp_r (x - k * y / 16777216) (-2147483648) 2147483648 W; rw [ev] at this; exact this
      have HF : Hid (∀ W : World, Calls Try.prog 21 #[.int .i64 (k * y), .int .i64 16777216] W fun e w' => e = .returned (.int .i64 (k * y / 16777216)) ∧ w' = W) := fun W => floor_q (k * y) 16777216 (by omega) (by omega) W
      clear hx hy ex ey ev
      go_wp2_with fail
      go_quiet ((go_at_call 21; exact Calls.quiet_of_same (HF.out _)))
      have ho2 := ho.drawn nq
      have hb2 := below_dn hb nq
      clear ho hb hcx hcy
      generalize wr.drewN nq = ws at *
      have hw4 := hb2.size
      go_wp2_with (first
        | (go_at_call 32; refine (hCL.out _).mono ?_; rintro e w' ⟨rfl, rfl⟩)
        | (at_builtin; refine app1 rfl (.tmp 30) (.tmp 33) rfl w.heap.size A1 j c1 _ (Pl.turnV c k j) rfl rfl ho2 (by omega) hw4 ?_; intro A4 c4 w4 o4 g4 e4))
      have bb4 := hb2.grown g4 hw4 (fun g h => (ho2.lt h).1)
      rw [← T1.out] at o4
      clear g4 e4 ho2 hb2
      go_roundw
      case rel => exact ⟨j + 1, A4, c4, by omega, by go_num, rfl, o4, bb4⟩
      case measure => simp [intOf]; omega
    · have ejm : m = j := by omega
      subst ejm
      have hd : decide ((m : Int) < (m : Int)) = false := by simp
      have et : ((List.range m).map (Pl.turnV c k)).take m = (List.range m).map (Pl.turnV c k) := List.take_of_length_le (by simp)
      rw [et] at ho
      have hw3 := hb.size
      have ET : Hid (Pl.turn c k = (List.range m).map (Pl.turnV c k) ++ [k]) := by show _ = _; unfold Pl.turn; rw [HM.out]
      clear et
      go_wp2_with (at_builtin; refine app1 rfl (.tmp 35) (.tmp 37) rfl w.heap.size A1 m c1 _ k rfl rfl ho (by omega) hw3 ?_; intro A4 c4 w4 o4 g4 e4)
      have bb4 := hb.grown g4 hw3 (fun g h => (ho.lt h).1)
      go_ret
      exact ⟨⟨A4, c4, rfl, by rw [ET.out]; exact o4⟩, bb4⟩
end Go.Proofs.Ytkdaalceekbahaa
