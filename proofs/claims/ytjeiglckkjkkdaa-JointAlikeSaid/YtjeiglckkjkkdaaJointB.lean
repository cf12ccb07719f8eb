/- The walks of joint's function that goes over two lists, at each of its callers' function values. -/
import Derived.Test.YtjeiglckkjkkdaaJointA
import Derived.RegionTactic
import Derived.BigRegion
namespace Go.Proofs.Ytjeiglckkjkkdaa
open Go.RowKit
set_option linter.unusedVariables false
set_option maxHeartbeats 400000 in
theorem turnf_any (m x y : Int) (p : Nat) (w : World) (hx : Pl.Far x) (hy : Pl.Far y) (hc : w.cell? ⟨p, 0, none⟩ = some (.int .i64 m)) : Calls Try.prog 22 #[.int .i64 x, .int .i64 y, .pointer (some ⟨p, 0, none⟩)] w fun e w' => e = .returned (.tuple #[.int .i64 (Pl.ta m x y), .int .i64 (Pl.tb m x y)]) ∧ w = w' := by
  go_enter Try.func22, Try.ntmps22
  go_wp2_with (go_at_call 23; refine (turn_p _ _ _ hx hy _).mono ?_; rintro e w' ⟨rfl, rfl⟩)
  go_ret2
  exact ⟨ret_two rfl rfl, rfl⟩
set_option maxHeartbeats 400000 in
theorem backf_any (m x y : Int) (p : Nat) (w : World) (hx : Pl.Far x) (hy : Pl.Far y) (hc : w.cell? ⟨p, 0, none⟩ = some (.int .i64 m)) : Calls Try.prog 28 #[.int .i64 x, .int .i64 y, .pointer (some ⟨p, 0, none⟩)] w fun e w' => e = .returned (.tuple #[.int .i64 (Pl.ba m x y), .int .i64 (Pl.bb m x y)]) ∧ w = w' := by
  go_enter Try.func28, Try.ntmps28
  go_wp2_with (go_at_call 29; refine (back_p _ _ _ hx hy _).mono ?_; rintro e w' ⟨rfl, rfl⟩)
  go_ret2
  exact ⟨ret_two rfl rfl, rfl⟩
set_option maxHeartbeats 1600000 in
theorem both_turn (m : Int) (A A' : Option Addr) (n c c' B p : Nat) (xs ys : List Int) (w : World) (hn : xs.length = n) (hm : ys.length = n) (hn2 : n ≤ 1000000) (hx : Rd w B A xs) (hy : Rd w B A' ys) (hB : B ≤ w.heap.size) (hp : p < w.heap.size) (hc : w.cell? ⟨p, 0, none⟩ = some (.int .i64 m)) (hfx : ∀ x ∈ xs, Pl.Far x) (hfy : ∀ y ∈ ys, Pl.Far y) :
    Calls Try.prog 21 #[.slice A n c, .slice A' n c', .func (Fn.func 22) #[] #[.pointer (some ⟨p, 0, none⟩)]] w fun e w' =>
      (∃ g1 g2, e = .returned (.tuple #[.slice (some ⟨g1, 0, none⟩) n n, .slice (some ⟨g2, 0, none⟩) n n]) ∧ Rd w' w'.heap.size (some ⟨g1, 0, none⟩) (Pl.map2 (Pl.ta m) xs ys) ∧ Rd w' w'.heap.size (some ⟨g2, 0, none⟩) (Pl.map2 (Pl.tb m) xs ys)) ∧ Below w.heap.size w w' := by
  have HN := Lib.hid hn; have HM := Lib.hid hm; have HX := Lib.hid hfx; have HY := Lib.hid hfy
  clear hn hm hfx hfy
  have hmk := run_mk n hn2
  go_enter Try.func21, Try.ntmps21
  go_wp2_with fail
  go_region
  · go_wp2_with fail
    obtain ⟨O1, h1⟩ : ∃ O, O = w.heap.size := ⟨_, rfl⟩
    obtain ⟨O2, h2⟩ : ∃ O, O = w.heap.size + 1 := ⟨_, rfl⟩
    rw [← h2, ← h1]
    have o1 : Blk ((w.alloc (.cells (filled [] n) 3)).alloc (.cells (filled [] n) 3)).drew O1 3 (filled [] n) := by subst h1; exact Blk.alloc (Blk.new _ _ _) _
    have o2 : Blk ((w.alloc (.cells (filled [] n) 3)).alloc (.cells (filled [] n) 3)).drew O2 3 (filled [] n) := by subst h2; exact Blk.newAt (by simp)
    have b0 : Below w.heap.size w ((w.alloc (.cells (filled [] n) 3)).alloc (.cells (filled [] n) 3)).drew := (((Below.refl _ _).alloc (Nat.le_refl _) _).alloc (by simp) _).drew
    have hO1 : w.heap.size ≤ O1 := by omega
    have hO2 : w.heap.size ≤ O2 := by omega
    have hne : O1 ≠ O2 := by omega
    clear h1 h2 hmk
    generalize ((w.alloc (.cells (filled [] n) 3)).alloc (.cells (filled [] n) 3)).drew = w2 at *
    go_loopw [20] (fun i wr => ∃ j : Nat, j ≤ n ∧ i = .int .i64 j ∧ Blk wr O1 3 (filled ((Pl.map2 (Pl.ta m) xs ys).take j) n) ∧ Blk wr O2 3 (filled ((Pl.map2 (Pl.tb m) xs ys).take j) n) ∧ Below w.heap.size w wr) (fun i _ => n - (intOf i).toNat)
    case atStart => exact ⟨0, by omega, rfl, o1, o2, b0⟩
    case round =>
      obtain ⟨j, hj, rfl, q1, q2, hb⟩ := hrel
      clear o1 o2 b0
      have hl1 : Hid (((Pl.map2 (Pl.ta m) xs ys).take j).length = j) := by show _ = _; rw [List.length_take, Pl.map2_len _ _ _ (by rw [HN.out, HM.out]), HN.out]; omega
      have hl2 : Hid (((Pl.map2 (Pl.tb m) xs ys).take j).length = j) := by show _ = _; rw [List.length_take, Pl.map2_len _ _ _ (by rw [HN.out, HM.out]), HN.out]; omega
      by_cases hlt : j < n
      · obtain ⟨b, off, x, rfl, hbb, hxx, hcx⟩ := (hx.later hb hB).at (k := j) (by rw [HN.out]; exact hlt)
        obtain ⟨b', off', y, rfl, hbb', hyy, hcy⟩ := (hy.later hb hB).at (k := j) (by rw [HM.out]; exact hlt)
        have hji : (j : Int) < (n : Int) := by omega
        have hcp : wr.cell? ⟨p, 0, none⟩ = some (.int .i64 m) := (hb.cell (p := ⟨p, 0, none⟩) hp).trans hc
        have fx := HX.out x (List.mem_of_getElem? hxx)
        have fy := HY.out y (List.mem_of_getElem? hyy)
        obtain ⟨u1, hu1⟩ := filled_get (ts := (Pl.map2 (Pl.ta m) xs ys).take j) hlt
        obtain ⟨u2, hu2⟩ := filled_get (ts := (Pl.map2 (Pl.tb m) xs ys).take j) hlt
        have hc1 : wr.cell? ⟨O1, j, none⟩ = some (.int .i64 u1) := (q1.cell j).trans hu1
        have hc2 : wr.cell? ⟨O2, j, none⟩ = some (.int .i64 u2) := (q2.cell j).trans hu2
        have hf1 := q1.free j
        have hf2 := q2.free j
        have T1 := Lib.hid (Pl.map2_take (Pl.ta m) xs ys j x y hxx hyy)
        have T2 := Lib.hid (Pl.map2_take (Pl.tb m) xs ys j x y hxx hyy)
        have Q1 : Hid (Blk ((wr.setCell ⟨O1, j, none⟩ (.int .i64 (Pl.ta m x y))).setCell ⟨O2, j, none⟩ (.int .i64 (Pl.tb m x y))) O1 3 (filled ((Pl.map2 (Pl.ta m) xs ys).take (j + 1)) n)) := by
          have h := q1.put j (.int .i64 (Pl.ta m x y))
          have h2 := filled_put (ts := (Pl.map2 (Pl.ta m) xs ys).take j) (n := n) (Pl.ta m x y) (by rw [hl1.out]; exact hlt)
          rw [hl1.out] at h2
          rw [h2, ← T1.out] at h
          exact h.same (Below.heap_setCell _ _ _ _ hne)
        have Q2 : Hid (Blk ((wr.setCell ⟨O1, j, none⟩ (.int .i64 (Pl.ta m x y))).setCell ⟨O2, j, none⟩ (.int .i64 (Pl.tb m x y))) O2 3 (filled ((Pl.map2 (Pl.tb m) xs ys).take (j + 1)) n)) := by
          have h := (q2.same (Below.heap_setCell wr ⟨O1, j, none⟩ (.int .i64 (Pl.ta m x y)) _ (Ne.symm hne))).put j (.int .i64 (Pl.tb m x y))
          have h2 := filled_put (ts := (Pl.map2 (Pl.tb m) xs ys).take j) (n := n) (Pl.tb m x y) (by rw [hl2.out]; exact hlt)
          rw [hl2.out] at h2
          rw [h2, ← T2.out] at h
          exact h
        have BB : Hid (Below w.heap.size w ((wr.setCell ⟨O1, j, none⟩ (.int .i64 (Pl.ta m x y))).setCell ⟨O2, j, none⟩ (.int .i64 (Pl.tb m x y)))) := (hb.setCell (p := ⟨O1, j, none⟩) hO1 _).setCell (p := ⟨O2, j, none⟩) hO2 _
        clear hxx hyy hu1 hu2 q1 q2 hb
        go_wp2_with (go_at_call 22; refine (turnf_any _ _ _ _ _ fx fy hcp).mono ?_; rintro e w' ⟨rfl, rfl⟩)
        go_roundw
        case rel => exact ⟨j + 1, by omega, by go_num, Q1.out, Q2.out, BB.out⟩
        case measure => simp [intOf]; omega
      · have hd : decide ((j : Int) < (n : Int)) = false := by simp; omega
        have R1 : Hid (Rd wr wr.heap.size (some ⟨O1, 0, none⟩) (Pl.map2 (Pl.ta m) xs ys)) := by
          have h := filled_rd q1 (by rw [hl1.out]; omega)
          rwa [List.take_of_length_le (by rw [Pl.map2_len _ _ _ (by rw [HN.out, HM.out]), HN.out]; omega)] at h
        have R2 : Hid (Rd wr wr.heap.size (some ⟨O2, 0, none⟩) (Pl.map2 (Pl.tb m) xs ys)) := by
          have h := filled_rd q2 (by rw [hl2.out]; omega)
          rwa [List.take_of_length_le (by rw [Pl.map2_len _ _ _ (by rw [HN.out, HM.out]), HN.out]; omega)] at h
        clear q1 q2
        go_wp2_with fail
        go_ret2
        exact ⟨⟨O1, O2, rfl, R1.out, R2.out⟩, hb⟩
  · go_wp2_with fail
    obtain ⟨O1, h1⟩ : ∃ O, O = w.heap.size + 1 := ⟨_, rfl⟩
    obtain ⟨O2, h2⟩ : ∃ O, O = w.heap.size := ⟨_, rfl⟩
    rw [← h1, ← h2]
    have o1 : Blk ((w.alloc (.cells (filled [] n) 3)).alloc (.cells (filled [] n) 3)).drew O1 3 (filled [] n) := by subst h1; exact Blk.newAt (by simp)
    have o2 : Blk ((w.alloc (.cells (filled [] n) 3)).alloc (.cells (filled [] n) 3)).drew O2 3 (filled [] n) := by subst h2; exact Blk.alloc (Blk.new _ _ _) _
    have b0 : Below w.heap.size w ((w.alloc (.cells (filled [] n) 3)).alloc (.cells (filled [] n) 3)).drew := (((Below.refl _ _).alloc (Nat.le_refl _) _).alloc (by simp) _).drew
    have hO1 : w.heap.size ≤ O1 := by omega
    have hO2 : w.heap.size ≤ O2 := by omega
    have hne : O1 ≠ O2 := by omega
    clear h1 h2 hmk
    generalize ((w.alloc (.cells (filled [] n) 3)).alloc (.cells (filled [] n) 3)).drew = w2 at *
    go_loopw [20] (fun i wr => ∃ j : Nat, j ≤ n ∧ i = .int .i64 j ∧ Blk wr O1 3 (filled ((Pl.map2 (Pl.ta m) xs ys).take j) n) ∧ Blk wr O2 3 (filled ((Pl.map2 (Pl.tb m) xs ys).take j) n) ∧ Below w.heap.size w wr) (fun i _ => n - (intOf i).toNat)
    case atStart => exact ⟨0, by omega, rfl, o1, o2, b0⟩
    case round =>
      obtain ⟨j, hj, rfl, q1, q2, hb⟩ := hrel
      clear o1 o2 b0
      have hl1 : Hid (((Pl.map2 (Pl.ta m) xs ys).take j).length = j) := by show _ = _; rw [List.length_take, Pl.map2_len _ _ _ (by rw [HN.out, HM.out]), HN.out]; omega
      have hl2 : Hid (((Pl.map2 (Pl.tb m) xs ys).take j).length = j) := by show _ = _; rw [List.length_take, Pl.map2_len _ _ _ (by rw [HN.out, HM.out]), HN.out]; omega
      by_cases hlt : j < n
      · obtain ⟨b, off, x, rfl, hbb, hxx, hcx⟩ := (hx.later hb hB).at (k := j) (by rw [HN.out]; exact hlt)
        obtain ⟨b', off', y, rfl, hbb', hyy, hcy⟩ := (hy.later hb hB).at (k := j) (by rw [HM.out]; exact hlt)
        have hji : (j : Int) < (n : Int) := by omega
        have hcp : wr.cell? ⟨p, 0, none⟩ = some (.int .i64 m) := (hb.cell (p := ⟨p, 0, none⟩) hp).trans hc
        have fx := HX.out x (List.mem_of_getElem? hxx)
        have fy := HY.out y (List.mem_of_getElem? hyy)
        obtain ⟨u1, hu1⟩ := filled_get (ts := (Pl.map2 (Pl.ta m) xs ys).take j) hlt
        obtain ⟨u2, hu2⟩ := filled_get (ts := (Pl.map2 (Pl.tb m) xs ys).take j) hlt
        have hc1 : wr.cell? ⟨O1, j, none⟩ = some (.int .i64 u1) := (q1.cell j).trans hu1
        have hc2 : wr.cell? ⟨O2, j, none⟩ = some (.int .i64 u2) := (q2.cell j).trans hu2
        have hf1 := q1.free j
        have hf2 := q2.free j
        have T1 := Lib.hid (Pl.map2_take (Pl.ta m) xs ys j x y hxx hyy)
        have T2 := Lib.hid (Pl.map2_take (Pl.tb m) xs ys j x y hxx hyy)
        have Q1 : Hid (Blk ((wr.setCell ⟨O1, j, none⟩ (.int .i64 (Pl.ta m x y))).setCell ⟨O2, j, none⟩ (.int .i64 (Pl.tb m x y))) O1 3 (filled ((Pl.map2 (Pl.ta m) xs ys).take (j + 1)) n)) := by
          have h := q1.put j (.int .i64 (Pl.ta m x y))
          have h2 := filled_put (ts := (Pl.map2 (Pl.ta m) xs ys).take j) (n := n) (Pl.ta m x y) (by rw [hl1.out]; exact hlt)
          rw [hl1.out] at h2
          rw [h2, ← T1.out] at h
          exact h.same (Below.heap_setCell _ _ _ _ hne)
        have Q2 : Hid (Blk ((wr.setCell ⟨O1, j, none⟩ (.int .i64 (Pl.ta m x y))).setCell ⟨O2, j, none⟩ (.int .i64 (Pl.tb m x y))) O2 3 (filled ((Pl.map2 (Pl.tb m) xs ys).take (j + 1)) n)) := by
          have h := (q2.same (Below.heap_setCell wr ⟨O1, j, none⟩ (.int .i64 (Pl.ta m x y)) _ (Ne.symm hne))).put j (.int .i64 (Pl.tb m x y))
          have h2 := filled_put (ts := (Pl.map2 (Pl.tb m) xs ys).take j) (n := n) (Pl.tb m x y) (by rw [hl2.out]; exact hlt)
          rw [hl2.out] at h2
          rw [h2, ← T2.out] at h
          exact h
        have BB : Hid (Below w.heap.size w ((wr.setCell ⟨O1, j, none⟩ (.int .i64 (Pl.ta m x y))).setCell ⟨O2, j, none⟩ (.int .i64 (Pl.tb m x y)))) := (hb.setCell (p := ⟨O1, j, none⟩) hO1 _).setCell (p := ⟨O2, j, none⟩) hO2 _
        clear hxx hyy hu1 hu2 q1 q2 hb
        go_wp2_with (go_at_call 22; refine (turnf_any _ _ _ _ _ fx fy hcp).mono ?_; rintro e w' ⟨rfl, rfl⟩)
        go_roundw
        case rel => exact ⟨j + 1, by omega, by go_num, Q1.out, Q2.out, BB.out⟩
        case measure => simp [intOf]; omega
      · have hd : decide ((j : Int) < (n : Int)) = false := by simp; omega
        have R1 : Hid (Rd wr wr.heap.size (some ⟨O1, 0, none⟩) (Pl.map2 (Pl.ta m) xs ys)) := by
          have h := filled_rd q1 (by rw [hl1.out]; omega)
          rwa [List.take_of_length_le (by rw [Pl.map2_len _ _ _ (by rw [HN.out, HM.out]), HN.out]; omega)] at h
        have R2 : Hid (Rd wr wr.heap.size (some ⟨O2, 0, none⟩) (Pl.map2 (Pl.tb m) xs ys)) := by
          have h := filled_rd q2 (by rw [hl2.out]; omega)
          rwa [List.take_of_length_le (by rw [Pl.map2_len _ _ _ (by rw [HN.out, HM.out]), HN.out]; omega)] at h
        clear q1 q2
        go_wp2_with fail
        go_ret2
        exact ⟨⟨O1, O2, rfl, R1.out, R2.out⟩, hb⟩
end Go.Proofs.Ytjeiglckkjkkdaa
