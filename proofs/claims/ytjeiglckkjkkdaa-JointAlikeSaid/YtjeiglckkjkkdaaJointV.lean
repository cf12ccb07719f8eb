/- The walk of the function that makes one of halves and one of differences, and of it over a list and itself. -/
import Derived.Test.YtjeiglckkjkkdaaJointU
namespace Go.Proofs.Ytjeiglckkjkkdaa
open Go.RowKit
set_option linter.unusedVariables false
namespace Pl
def ha (x _y : Int) : Int := x
def hz (_x _y : Int) : Int := 0
theorem map2_ha : ∀ xs : List Int, map2 ha xs xs = xs
  | [] => rfl
  | x :: xs => by simp only [map2]; rw [map2_ha xs]; rfl
theorem map2_hz : ∀ xs : List Int, map2 hz xs xs = List.replicate xs.length 0
  | [] => rfl
  | x :: xs => by simp only [map2]; rw [map2_hz xs]; rfl
end Pl
theorem and_self64 (x : Int) (h1 : -9223372036854775808 ≤ x) (h2 : x ≤ 9223372036854775807) : bits BinOp.and IntKind.i64 x x = x := by
  show IntKind.i64.wrap ((BitVec.ofInt 64 x &&& BitVec.ofInt 64 x).toNat : Int) = x
  rw [BitVec.and_self, BitVec.toNat_ofInt, IntKind.wrap_i64]; omega
theorem and_one64 (x : Int) : bits BinOp.and IntKind.i64 x 1 = x % 2 := by
  show IntKind.i64.wrap ((BitVec.ofInt 64 x &&& BitVec.ofInt 64 1).toNat : Int) = x % 2
  rw [BitVec.toNat_and, BitVec.toNat_ofInt, BitVec.toNat_ofInt, show ((1 : Int) % ((2 ^ 64 : Nat) : Int)).toNat = 1 by decide, Nat.and_one_is_mod, IntKind.wrap_i64]; omega
set_option maxHeartbeats 400000 in
theorem halff_any (x : Int) (w : World) (hx : Pl.Far x) : Calls Try.prog 31 #[.int .i64 x, .int .i64 x] w fun e w' => e = .returned (.tuple #[.int .i64 (Pl.ha x x), .int .i64 (Pl.hz x x)]) ∧ w = w' := by
  have hh : Pl.hold x = x := Pl.hold_in x (by unfold Pl.Far at hx; omega) (by unfold Pl.Far at hx; omega)
  unfold Pl.Far at hx
  have ea : wrap64 (Pl.add (x / 2) (x / 2) + bits BinOp.and IntKind.i64 (bits BinOp.and IntKind.i64 x x) 1) = Pl.ha x x := by
    rw [and_self64 x (by omega) (by omega), and_one64]
    unfold Pl.add Pl.ha; rw [Pl.hold_in (x / 2) (by omega) (by omega), Pl.hold_in _ (by omega) (by omega), show x / 2 + x / 2 + x % 2 = x by omega]
    exact IntWalk.wrap64_in x (by omega)
  have eb : Pl.add x (-x) = Pl.hz x x := by
    unfold Pl.add Pl.hz; rw [Pl.hold_in x (by omega) (by omega), Pl.hold_in (-x) (by omega) (by omega), Pl.hold_in _ (by omega) (by omega)]; omega
  go_enter Try.func31, Try.ntmps31
  go_wp2_with (go_at_call 32; refine (hold_p _ _).mono ?_; rintro e w' ⟨rfl, rfl⟩)
  go_wp2_with (go_at_call 33; refine (add_p _ _ _).mono ?_; rintro e w' ⟨rfl, rfl⟩)
  go_ret2
  exact ⟨ret_two rfl rfl, rfl⟩
set_option maxHeartbeats 1600000 in
theorem both_half (A : Option Addr) (n c B : Nat) (xs : List Int) (w : World) (hn : xs.length = n) (hn2 : n ≤ 1000000) (hx : Rd w B A xs) (hB : B ≤ w.heap.size) (hfx : ∀ x ∈ xs, Pl.Far x) :
    Calls Try.prog 21 #[.slice A n c, .slice A n c, .func (Fn.func 31) #[] #[]] w fun e w' =>
      (∃ g1 g2, e = .returned (.tuple #[.slice (some ⟨g1, 0, none⟩) n n, .slice (some ⟨g2, 0, none⟩) n n]) ∧ Rd w' w'.heap.size (some ⟨g1, 0, none⟩) (Pl.map2 Pl.ha xs xs) ∧ Rd w' w'.heap.size (some ⟨g2, 0, none⟩) (Pl.map2 Pl.hz xs xs)) ∧ Below w.heap.size w w' := by
  have HN := Lib.hid hn; have HX := Lib.hid hfx
  clear hn hfx
  have hmk := run_mk n hn2
  go_enter Try.func21, Try.ntmps21
  go_wp2_with fail
  go_region
  · go_wp2_with fail
    obtain ⟨O1, h1⟩ : ∃ O, O = w.heap.size := ⟨_, rfl⟩
    obtain ⟨O2, h2⟩ : ∃ O, O = w.heap.size + 1 := ⟨_, rfl⟩
    rw [← h2, ← h1]
    have o1 : Blk ((w.alloc (.cells (filled [] n) 3)).alloc (.cells (filled [] n) 3)).drew O1 3 (filled [] n) := by subst h1; exact Blk.alloc (Blk.new _ _ _) _
    have o2 : Blk ((w.alloc (.cells (filled [] n) 3)).alloc (.cells (filled [] n) 3)).drew O2 3 (filled [] n) := by subst h2; exact Blk.newAt (by simp)
    have b0 : Below w.heap.size w ((w.alloc (.cells (filled [] n) 3)).alloc (.cells (filled [] n) 3)).drew := (((Below.refl _ _).alloc (Nat.le_refl _) _).alloc (by simp) _).drew
    have hO1 : w.heap.size ≤ O1 := by omega
    have hO2 : w.heap.size ≤ O2 := by omega
    have hne : O1 ≠ O2 := by omega
    clear h1 h2 hmk
    generalize ((w.alloc (.cells (filled [] n) 3)).alloc (.cells (filled [] n) 3)).drew = w2 at *
    go_loopw [20] (fun i wr => ∃ j : Nat, j ≤ n ∧ i = .int .i64 j ∧ Blk wr O1 3 (filled ((Pl.map2 Pl.ha xs xs).take j) n) ∧ Blk wr O2 3 (filled ((Pl.map2 Pl.hz xs xs).take j) n) ∧ Below w.heap.size w wr) (fun i _ => n - (intOf i).toNat)
    case atStart => exact ⟨0, by omega, rfl, o1, o2, b0⟩
    case round =>
      obtain ⟨j, hj, rfl, q1, q2, hb⟩ := hrel
      clear o1 o2 b0
      have hl1 : Hid (((Pl.map2 Pl.ha xs xs).take j).length = j) := by show _ = _; rw [List.length_take, Pl.map2_len _ _ _ rfl, HN.out]; omega
      have hl2 : Hid (((Pl.map2 Pl.hz xs xs).take j).length = j) := by show _ = _; rw [List.length_take, Pl.map2_len _ _ _ rfl, HN.out]; omega
      by_cases hlt : j < n
      · obtain ⟨b, off, x, rfl, hbb, hxx, hcx⟩ := (hx.later hb hB).at (k := j) (by rw [HN.out]; exact hlt)
        have hji : (j : Int) < (n : Int) := by omega
        have fx := HX.out x (List.mem_of_getElem? hxx)
        obtain ⟨u1, hu1⟩ := filled_get (ts := (Pl.map2 Pl.ha xs xs).take j) hlt
        obtain ⟨u2, hu2⟩ := filled_get (ts := (Pl.map2 Pl.hz xs xs).take j) hlt
        have hc1 : wr.cell? ⟨O1, j, none⟩ = some (.int .i64 u1) := (q1.cell j).trans hu1
        have hc2 : wr.cell? ⟨O2, j, none⟩ = some (.int .i64 u2) := (q2.cell j).trans hu2
        have hf1 := q1.free j
        have hf2 := q2.free j
        have T1 := Lib.hid (Pl.map2_take Pl.ha xs xs j x x hxx hxx)
        have T2 := Lib.hid (Pl.map2_take Pl.hz xs xs j x x hxx hxx)
        have Q1 : Hid (Blk ((wr.setCell ⟨O1, j, none⟩ (.int .i64 (Pl.ha x x))).setCell ⟨O2, j, none⟩ (.int .i64 (Pl.hz x x))) O1 3 (filled ((Pl.map2 Pl.ha xs xs).take (j + 1)) n)) := by
          have h := q1.put j (.int .i64 (Pl.ha x x))
          have h2 := filled_put (ts := (Pl.map2 Pl.ha xs xs).take j) (n := n) (Pl.ha x x) (by rw [hl1.out]; exact hlt)
          rw [hl1.out] at h2
          rw [h2, ← T1.out] at h
          exact h.same (Below.heap_setCell _ _ _ _ hne)
        have Q2 : Hid (Blk ((wr.setCell ⟨O1, j, none⟩ (.int .i64 (Pl.ha x x))).setCell ⟨O2, j, none⟩ (.int .i64 (Pl.hz x x))) O2 3 (filled ((Pl.map2 Pl.hz xs xs).take (j + 1)) n)) := by
          have h := (q2.same (Below.heap_setCell wr ⟨O1, j, none⟩ (.int .i64 (Pl.ha x x)) _ (Ne.symm hne))).put j (.int .i64 (Pl.hz x x))
          have h2 := filled_put (ts := (Pl.map2 Pl.hz xs xs).take j) (n := n) (Pl.hz x x) (by rw [hl2.out]; exact hlt)
          rw [hl2.out] at h2
          rw [h2, ← T2.out] at h
          exact h
        have BB : Hid (Below w.heap.size w ((wr.setCell ⟨O1, j, none⟩ (.int .i64 (Pl.ha x x))).setCell ⟨O2, j, none⟩ (.int .i64 (Pl.hz x x)))) := (hb.setCell (p := ⟨O1, j, none⟩) hO1 _).setCell (p := ⟨O2, j, none⟩) hO2 _
        clear hxx hu1 hu2 q1 q2 hb
        go_wp2_with (go_at_call 31; refine (halff_any _ _ fx).mono ?_; rintro e w' ⟨rfl, rfl⟩)
        go_roundw
        case rel => exact ⟨j + 1, by omega, by go_num, Q1.out, Q2.out, BB.out⟩
        case measure => simp [intOf]; omega
      · have hd : decide ((j : Int) < (n : Int)) = false := by simp; omega
        have R1 : Hid (Rd wr wr.heap.size (some ⟨O1, 0, none⟩) (Pl.map2 Pl.ha xs xs)) := by
          have h := filled_rd q1 (by rw [hl1.out]; omega)
          rwa [List.take_of_length_le (by rw [Pl.map2_len _ _ _ rfl, HN.out]; omega)] at h
        have R2 : Hid (Rd wr wr.heap.size (some ⟨O2, 0, none⟩) (Pl.map2 Pl.hz xs xs)) := by
          have h := filled_rd q2 (by rw [hl2.out]; omega)
          rwa [List.take_of_length_le (by rw [Pl.map2_len _ _ _ rfl, HN.out]; omega)] at h
        clear q1 q2
        go_wp2_with fail
        go_ret2
        exact ⟨⟨O1, O2, rfl, R1.out, R2.out⟩, hb⟩
  · go_wp2_with fail
    obtain ⟨O1, h1⟩ : ∃ O, O = w.heap.size + 1 := ⟨_, rfl⟩
    obtain ⟨O2, h2⟩ : ∃ O, O = w.heap.size := ⟨_, rfl⟩
    rw [← h1, ← h2]
    have o1 : Blk ((w.alloc (.cells (filled [] n) 3)).alloc (.cells (filled [] n) 3)).drew O1 3 (filled [] n) := by subst h1; exact Blk.newAt (by simp)
    have o2 : Blk ((w.alloc (.cells (filled [] n) 3)).alloc (.cells (filled [] n) 3)).drew O2 3 (filled [] n) := by subst h2; exact Blk.alloc (Blk.new _ _ _) _
    have b0 : Below w.heap.size w ((w.alloc (.cells (filled [] n) 3)).alloc (.cells (filled [] n) 3)).drew := (((Below.refl _ _).alloc (Nat.le_refl _) _).alloc (by simp) _).drew
    have hO1 : w.heap.size ≤ O1 := by omega
    have hO2 : w.heap.size ≤ O2 := by omega
    have hne : O1 ≠ O2 := by omega
    clear h1 h2 hmk
    generalize ((w.alloc (.cells (filled [] n) 3)).alloc (.cells (filled [] n) 3)).drew = w2 at *
    go_loopw [20] (fun i wr => ∃ j : Nat, j ≤ n ∧ i = .int .i64 j ∧ Blk wr O1 3 (filled ((Pl.map2 Pl.ha xs xs).take j) n) ∧ Blk wr O2 3 (filled ((Pl.map2 Pl.hz xs xs).take j) n) ∧ Below w.heap.size w wr) (fun i _ => n - (intOf i).toNat)
    case atStart => exact ⟨0, by omega, rfl, o1, o2, b0⟩
    case round =>
      obtain ⟨j, hj, rfl, q1, q2, hb⟩ := hrel
      clear o1 o2 b0
      have hl1 : Hid (((Pl.map2 Pl.ha xs xs).take j).length = j) := by show _ = _; rw [List.length_take, Pl.map2_len _ _ _ rfl, HN.out]; omega
      have hl2 : Hid (((Pl.map2 Pl.hz xs xs).take j).length = j) := by show _ = _; rw [List.length_take, Pl.map2_len _ _ _ rfl, HN.out]; omega
      by_cases hlt : j < n
      · obtain ⟨b, off, x, rfl, hbb, hxx, hcx⟩ := (hx.later hb hB).at (k := j) (by rw [HN.out]; exact hlt)
        have hji : (j : Int) < (n : Int) := by omega
        have fx := HX.out x (List.mem_of_getElem? hxx)
        obtain ⟨u1, hu1⟩ := filled_get (ts := (Pl.map2 Pl.ha xs xs).take j) hlt
        obtain ⟨u2, hu2⟩ := filled_get (ts := (Pl.map2 Pl.hz xs xs).take j) hlt
        have hc1 : wr.cell? ⟨O1, j, none⟩ = some (.int .i64 u1) := (q1.cell j).trans hu1
        have hc2 : wr.cell? ⟨O2, j, none⟩ = some (.int .i64 u2) := (q2.cell j).trans hu2
        have hf1 := q1.free j
        have hf2 := q2.free j
        have T1 := Lib.hid (Pl.map2_take Pl.ha xs xs j x x hxx hxx)
        have T2 := Lib.hid (Pl.map2_take Pl.hz xs xs j x x hxx hxx)
        have Q1 : Hid (Blk ((wr.setCell ⟨O1, j, none⟩ (.int .i64 (Pl.ha x x))).setCell ⟨O2, j, none⟩ (.int .i64 (Pl.hz x x))) O1 3 (filled ((Pl.map2 Pl.ha xs xs).take (j + 1)) n)) := by
          have h := q1.put j (.int .i64 (Pl.ha x x))
          have h2 := filled_put (ts := (Pl.map2 Pl.ha xs xs).take j) (n := n) (Pl.ha x x) (by rw [hl1.out]; exact hlt)
          rw [hl1.out] at h2
          rw [h2, ← T1.out] at h
          exact h.same (Below.heap_setCell _ _ _ _ hne)
        have Q2 : Hid (Blk ((wr.setCell ⟨O1, j, none⟩ (.int .i64 (Pl.ha x x))).setCell ⟨O2, j, none⟩ (.int .i64 (Pl.hz x x))) O2 3 (filled ((Pl.map2 Pl.hz xs xs).take (j + 1)) n)) := by
          have h := (q2.same (Below.heap_setCell wr ⟨O1, j, none⟩ (.int .i64 (Pl.ha x x)) _ (Ne.symm hne))).put j (.int .i64 (Pl.hz x x))
          have h2 := filled_put (ts := (Pl.map2 Pl.hz xs xs).take j) (n := n) (Pl.hz x x) (by rw [hl2.out]; exact hlt)
          rw [hl2.out] at h2
          rw [h2, ← T2.out] at h
          exact h
        have BB : Hid (Below w.heap.size w ((wr.setCell ⟨O1, j, none⟩ (.int .i64 (Pl.ha x x))).setCell ⟨O2, j, none⟩ (.int .i64 (Pl.hz x x)))) := (hb.setCell (p := ⟨O1, j, none⟩) hO1 _).setCell (p := ⟨O2, j, none⟩) hO2 _
        clear hxx hu1 hu2 q1 q2 hb
        go_wp2_with (go_at_call 31; refine (halff_any _ _ fx).mono ?_; rintro e w' ⟨rfl, rfl⟩)
        go_roundw
        case rel => exact ⟨j + 1, by omega, by go_num, Q1.out, Q2.out, BB.out⟩
        case measure => simp [intOf]; omega
      · have hd : decide ((j : Int) < (n : Int)) = false := by simp; omega
        have R1 : Hid (Rd wr wr.heap.size (some ⟨O1, 0, none⟩) (Pl.map2 Pl.ha xs xs)) := by
          have h := filled_rd q1 (by rw [hl1.out]; omega)
          rwa [List.take_of_length_le (by rw [Pl.map2_len _ _ _ rfl, HN.out]; omega)] at h
        have R2 : Hid (Rd wr wr.heap.size (some ⟨O2, 0, none⟩) (Pl.map2 Pl.hz xs xs)) := by
          have h := filled_rd q2 (by rw [hl2.out]; omega)
          rwa [List.take_of_length_le (by rw [Pl.map2_len _ _ _ rfl, HN.out]; omega)] at h
        clear q1 q2
        go_wp2_with fail
        go_ret2
        exact ⟨⟨O1, O2, rfl, R1.out, R2.out⟩, hb⟩
end Go.Proofs.Ytjeiglckkjkkdaa
