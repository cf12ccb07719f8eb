/- The walks of shape's functions, and of the reference's: each computes what the plain functions say. -/
import Derived.Test.YtjehichejggfbaaInts
import Derived.Test.YtjehichejggfbaaShapeP
import Derived.Laws.IdiomCopy
import Derived.RegionTactic
import Derived.BigRegion
import Derived.Deep.RegionHeld3
namespace Go.Proofs.Ytjehichejggfbaa
open Go.RowKit
set_option linter.unusedVariables false
theorem ret_two' {a c : Value} {b d : Int} {l : IntKind} (h : a = c) (h' : b = d) : Ending.returned (.tuple #[a, .int l b]) = .returned (.tuple #[c, .int l d]) := by rw [h, h']
set_option maxHeartbeats 400000 in
theorem weights_any (k : Int) (w : World) : Calls Try.prog 23 #[.int .i64 k] w fun e w' => e = .returned (.agg #[.int .i64 (Pl.w0 k), .int .i64 (Pl.w1 k), .int .i64 (Pl.w2 k)]) ∧ ∃ C, w.alloc (.cells C 44) = w' := by
  by_cases h1 : k = 1
  · subst h1
    go_enter Try.func23, Try.ntmps23
    go_wp2
    exact bodyPost_ret (v := .agg #[.int .i64 15, .int .i64 0, .int .i64 0]) (by simp [results, Try.results23, go_sem]) rfl ⟨rfl, _, rfl⟩
  · by_cases h2 : k = 2
    · subst h2
      go_enter Try.func23, Try.ntmps23
      go_wp2
      exact bodyPost_ret (v := .agg #[.int .i64 24, .int .i64 (-9), .int .i64 0]) (by simp [results, Try.results23, go_sem]) rfl ⟨rfl, _, rfl⟩
    · by_cases h3 : k = 3
      · subst h3
        go_enter Try.func23, Try.ntmps23
        go_wp2
        exact bodyPost_ret (v := .agg #[.int .i64 30, .int .i64 (-21), .int .i64 5]) (by simp [results, Try.results23, go_sem]) rfl ⟨rfl, _, rfl⟩
      · have e0 : Pl.w0 k = 0 := by unfold Pl.w0; rw [if_neg h1, if_neg h2, if_neg h3]
        have e1 : Pl.w1 k = 0 := by unfold Pl.w1; rw [if_neg h2, if_neg h3]
        have e2 : Pl.w2 k = 0 := by unfold Pl.w2; rw [if_neg h3]
        rw [e0, e1, e2]
        have b1 : (k == 1) = false := beq_eq_false_iff_ne.2 h1
        have b2 : (k == 2) = false := beq_eq_false_iff_ne.2 h2
        have b3 : (k == 3) = false := beq_eq_false_iff_ne.2 h3
        clear e0 e1 e2 h1 h2 h3
        go_enter Try.func23, Try.ntmps23
        go_wp2
        exact bodyPost_ret (v := .agg #[.int .i64 0, .int .i64 0, .int .i64 0]) (by simp [results, Try.results23, go_sem]) rfl ⟨rfl, _, rfl⟩
set_option maxHeartbeats 400000 in
theorem new_any (k : Int) (w : World) (h0 : 0 ≤ k) (h3 : k ≤ 3) : Calls Try.prog 8 #[.int .i64 k] w fun e w' =>
    e = .returned (.tuple #[.pointer (some ⟨w.heap.size, 0, none⟩), .int .i64 0]) ∧ w.alloc (.cells #[.int .i64 k, .int .i64 0, .int .i64 0, .int .i64 0, .int .i64 0] 46) = w' := by
  go_enter Try.func8, Try.ntmps8
  go_wp2
  go_ret2
  exact ⟨ret_two' rfl rfl, rfl⟩
set_option maxHeartbeats 400000 in
theorem new_no (k : Int) (w : World) (h0 : k < 0 ∨ 3 < k) : Calls Try.prog 8 #[.int .i64 k] w fun e w' =>
    e = .returned (.tuple #[.pointer none, .int .i64 1]) ∧ w = w' := by
  rcases h0 with h | h
  · have hd : decide (0 ≤ k) = false := by simpa using h
    go_enter Try.func8, Try.ntmps8
    go_wp2
    go_ret2
    exact ⟨ret_two' rfl rfl, rfl⟩
  · have hd : decide (k ≤ 3) = false := by simpa using h
    go_enter Try.func8, Try.ntmps8
    go_wp2
    go_ret2
    exact ⟨ret_two' rfl rfl, rfl⟩
/-- a shaper: the block of its five numbers -/
def Shp (w : World) (g : Nat) (k a b c l : Int) : Prop := Blk w g 46 #[.int .i64 k, .int .i64 a, .int .i64 b, .int .i64 c, .int .i64 l]
theorem Shp.cells {w : World} {g : Nat} {k a b c l : Int} (h : Shp w g k a b c l) : w.cell? ⟨g, 0, none⟩ = some (.int .i64 k) ∧ w.cell? ⟨g, 1, none⟩ = some (.int .i64 a) ∧ w.cell? ⟨g, 2, none⟩ = some (.int .i64 b) ∧ w.cell? ⟨g, 3, none⟩ = some (.int .i64 c) ∧ w.cell? ⟨g, 4, none⟩ = some (.int .i64 l) :=
  ⟨Blk.cell h 0, Blk.cell h 1, Blk.cell h 2, Blk.cell h 3, Blk.cell h 4⟩
theorem Shp.free {w : World} {g : Nat} {k a b c l : Int} (h : Shp w g k a b c l) (i : Nat) : w.frozen? ⟨g, i, none⟩ = false := Blk.free h i
theorem Shp.lt {w : World} {g : Nat} {k a b c l : Int} (h : Shp w g k a b c l) : g < w.heap.size := Blk.lt h
theorem Shp.alloc {w : World} {g : Nat} {k a b c l : Int} (h : Shp w g k a b c l) (o : Obj) : Shp (w.alloc o) g k a b c l := Blk.alloc h o
theorem Shp.set {w : World} {g : Nat} {k a b c l : Int} (h : Shp w g k a b c l) (y : Int) : Shp (w.setCell ⟨g, 4, none⟩ (.int .i64 y)) g k a b c y := Blk.put h 4 _
theorem idx3 (x y z : Value) (w : World) : (Instr.index 44 (.agg #[x, y, z]) (.int .i64 0)).run Try.prog w = .ok x w ∧ (Instr.index 44 (.agg #[x, y, z]) (.int .i64 1)).run Try.prog w = .ok y w ∧ (Instr.index 44 (.agg #[x, y, z]) (.int .i64 2)).run Try.prog w = .ok z w := by
  refine ⟨?_, ?_, ?_⟩ <;> kernel_rfl
set_option maxHeartbeats 400000 in
theorem target_any (k a b c l x : Int) (g : Nat) (w : World) (hb : Shp w g k a b c l) (ha : Pl.Small a) (hb' : Pl.Small b) (hc : Pl.Small c) : Calls Try.prog 11 #[.pointer (some ⟨g, 0, none⟩), .int .i64 x] w fun e w' =>
    e = .returned (.int .i64 (Pl.tgt k a b c x)) ∧ Shp w' g k a b c (Pl.tgt k a b c x) ∧ w.grownBy w' (some g) := by
  obtain ⟨c0, c1, c2, c3, c4⟩ := hb.cells
  have hbd := Pl.parts_le (k := k) ha hb' hc
  have hcl := Pl.clamp_le x (-4294967296) 4294967296 (by omega)
  go_enter Try.func11, Try.ntmps11
  go_wp2_with (first
    | (go_at_call 23; refine (weights_any _ _).mono ?_; rintro e w1 ⟨rfl, C, hw⟩; have hb1 : Shp w1 g k a b c l := hw ▸ hb.alloc _; have HW := Lib.hid hw; clear hw c0 c1 c2 c3 c4; obtain ⟨c0, c1, c2, c3, c4⟩ := hb1.cells))
  have hf1 := hb1.free 4
  have ix := fun W => (idx3 (.int .i64 (Pl.w0 k)) (.int .i64 (Pl.w1 k)) (.int .i64 (Pl.w2 k)) W).1
  have iy := fun W => (idx3 (.int .i64 (Pl.w0 k)) (.int .i64 (Pl.w1 k)) (.int .i64 (Pl.w2 k)) W).2.1
  have iz := fun W => (idx3 (.int .i64 (Pl.w0 k)) (.int .i64 (Pl.w1 k)) (.int .i64 (Pl.w2 k)) W).2.2
  obtain ⟨S, hS⟩ : ∃ S, S = Pl.sum3 k a b c := ⟨_, rfl⟩
  have hSb : -3758096384 ≤ S ∧ S ≤ 3758096384 := by rw [hS]; unfold Pl.sum3; omega
  have hfl : -4611686018427387904 ≤ Pl.floor S 16 ∧ Pl.floor S 16 ≤ 4611686018427387904 := Pl.floor_le _ _ (by omega) (by omega)
  have HS := Lib.hid hS; clear hS
  go_loop [5, 15] (fun s i => (s = .int .i64 0 ∧ i = .int .i64 0) ∨ (s = .int .i64 (Pl.w0 k * a) ∧ i = .int .i64 1) ∨ (s = .int .i64 (Pl.w0 k * a + Pl.w1 k * b) ∧ i = .int .i64 2) ∨ (s = .int .i64 S ∧ i = .int .i64 3)) (fun _ i => 3 - (intOf i).toNat)
  case atStart => exact .inl ⟨rfl, rfl⟩
  case round =>
    rcases hrel with ⟨rfl, rfl⟩ | ⟨rfl, rfl⟩ | ⟨rfl, rfl⟩ | ⟨rfl, rfl⟩
    · go_wp2_with fail
      go_round
      case rel => exact .inr (.inl ⟨rfl, rfl⟩)
      case measure => simp [intOf]
    · go_wp2_with fail
      go_round
      case rel => exact .inr (.inr (.inl ⟨rfl, rfl⟩))
      case measure => simp [intOf]
    · go_wp2_with fail
      go_round
      case rel => exact .inr (.inr (.inr ⟨by rw [HS.out]; rfl, rfl⟩))
      case measure => simp [intOf]
    · go_wp2_with (first
        | (go_at_call 24; refine (clamp_p _ _ _ _).mono ?_; rintro e w' ⟨rfl, rfl⟩)
        | (go_at_call 25; refine (floor_p _ _ (by omega) (by omega) _).mono ?_; rintro e w' ⟨rfl, rfl⟩))
      have hS := HS.out
      have eT : Pl.clamp x (-4294967296) 4294967296 - Pl.floor S 16 = Pl.tgt k a b c x := by rw [hS]; rfl
      rw [eT]
      go_ret
      exact ⟨ret_int rfl, hb1.set _, gb_set (HW.out ▸ World.grownBy_alloc _ _ _) _ _⟩
theorem copy_any (k a b c l : Int) (g : Nat) (w : World) (hb : Shp w g k a b c l) : ∃ w2, (Builtin.copy_ #[28, 28] 3 #[.slice (some ⟨g, 2, none⟩) 2 2, .slice (some ⟨g, 1, none⟩) 2 3]).run Try.prog w = .ok (.int .i64 2) w2 ∧ Shp w2 g k a a b l ∧ w.grownBy w2 (some g) := by
  obtain ⟨c0, c1, c2, c3, c4⟩ := hb.cells
  refine ⟨(w.setCell ⟨g, 2, none⟩ (.int .i64 a)).setCell ⟨g, 3, none⟩ (.int .i64 b), ?_, ?_, gb_set (gb_set (World.grownBy.refl _ _) _ _) _ _⟩
  · have := run_copy_cells (P := Try.prog) w 28 28 3 3 g 2 2 2 ⟨g, 1, none⟩ 2 3 [.int .i64 a, .int .i64 b] Try.underlying28 (by kernel_rfl) rfl
      (by
        intro j v hj
        match j, hj with
        | 0, hj => simp at hj; subst hj; simpa [Addr.add] using c1
        | 1, hj => simp at hj; subst hj; simpa [Addr.add] using c2)
      (by
        intro j hj
        match j, hj with
        | 0, _ => simp [c2]
        | 1, _ => simp [c3])
      (fun j _ => hb.free _)
      (by intro v hv; simp at hv; rcases hv with rfl | rfl <;> rfl)
    exact this
  · have h1 := Blk.put (Blk.put hb 2 (.int .i64 a)) 3 (.int .i64 b)
    exact h1
set_option maxHeartbeats 400000 in
theorem note_any (k a b c l y : Int) (g : Nat) (w : World) (hb : Shp w g k a b c l) (ha : Pl.Small a) (hb' : Pl.Small b) (hc : Pl.Small c) (hl : -4529848320 ≤ l ∧ l ≤ 4529848321) : Calls Try.prog 12 #[.pointer (some ⟨g, 0, none⟩), .int .i64 y] w fun e w' =>
    e = .returned (.tuple #[]) ∧ Shp w' g k (Pl.miss y l) a b l ∧ w.grownBy w' (some g) := by
  obtain ⟨c0, c1, c2, c3, c4⟩ := hb.cells
  obtain ⟨w2, hcp, hS, hG⟩ := copy_any k a b c l g w.drew hb
  have hG1 : w.grownBy w2 (some g) := ⟨hG.os, hG.tape, hG.output, hG.size, hG.block⟩
  clear hG c0 c1 c2 c3 c4
  obtain ⟨c0, c1, c2, c3, c4⟩ := hS.cells
  have hf := hS.free 1
  have hcl := Pl.clamp_le y (-4294967296) 4294967296 (by omega)
  go_enter Try.func12, Try.ntmps12
  go_wp2_with fail
  go_region
  go_wp2_with fail
  clear hcp c0 c1 c2 c3
  have hm := (hS.cells).2.1
  have ew : IntKind.i64.wrap (Pl.clamp y (-4294967296) 4294967296 - l) = Pl.clamp y (-4294967296) 4294967296 - l := IntWalk.i64_in _ (by omega)
  go_region_held3 (fun w' => w'.cell? ⟨g, 4, none⟩ = some (.int .i64 l)) (first | exact c4 | exact (World.cell?_setCell_other _ _ _ _ (by simp)).trans c4) ((go_at_call 24; refine (clamp_p _ _ _ _).mono ?_; rintro e w' ⟨rfl, rfl⟩))
  go_end0
  exact ⟨rfl, Blk.put hS 1 _, gb_drew (gb_set hG1 _ _)⟩
end Go.Proofs.Ytjehichejggfbaa
