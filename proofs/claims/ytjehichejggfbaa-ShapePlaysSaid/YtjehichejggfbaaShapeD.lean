/- The walks of the two functions that make all targets: both make the plain list of targets. -/
import Derived.Test.YtjehichejggfbaaShapeC
import Derived.Test.YtjehichejggfbaaShapeQ
import Derived.Test.YtjehichejggfbaaOwn
namespace Go.Proofs.Ytjehichejggfbaa
open Go.RowKit
set_option linter.unusedVariables false
theorem Shp.later {w w' : World} {g : Nat} {k a b c l : Int} (h : Shp w g k a b c l) (hb : Below w.heap.size w w') : Shp w' g k a b c l := Blk.below h hb h.lt
set_option maxHeartbeats 800000 in
theorem targets_p (k : Int) (A A' : Option Addr) (n ca cb B : Nat) (xs ys : List Int) (w : World) (h0 : 0 ≤ k) (h3 : k ≤ 3) (hn : xs.length = n) (hm : ys.length = n) (hn2 : n ≤ 1000000) (hx : Rd w B A xs) (hy : Rd w B A' ys) (hB : B ≤ w.heap.size) (hix : I64s xs) (hiy : I64s ys) :
    Calls Try.prog 18 #[.int .i64 k, .slice A n ca, .slice A' n cb] w fun e w' => (∃ g2, e = .returned (.tuple #[.slice (some ⟨g2, 0, none⟩) n n, .int .i64 0]) ∧ Rd w' w'.heap.size (some ⟨g2, 0, none⟩) (Pl.trun k xs ys n).1) ∧ Below w.heap.size w w' := by
  have HN := Lib.hid hn; have HM := Lib.hid hm; have HX := Lib.hid hix; have HY := Lib.hid hiy
  clear hn hm hix hiy
  have hmk := run_mk n hn2
  go_enter Try.func18, Try.ntmps18
  go_wp2_with fail
  refine (new_any _ _ h0 h3).mono ?_
  rintro e w1 ⟨rfl, hw⟩
  have s1 : Shp w1 w.heap.size k 0 0 0 0 := hw ▸ Blk.new _ _ _
  have b1 : Below w.heap.size w w1 := hw ▸ (Below.refl _ _).alloc (Nat.le_refl _) _
  clear hw
  obtain ⟨G, hG⟩ : ∃ G, G = w.heap.size := ⟨_, rfl⟩
  rw [← hG] at s1 ⊢
  have HG := Lib.hid hG; clear hG
  go_wp2_with fail
  obtain ⟨O, hO⟩ : ∃ O, O = w1.heap.size := ⟨_, rfl⟩
  have o2 : Blk (w1.alloc (.cells (filled [] n) 3)) O 3 (filled [] n) := hO ▸ Blk.new _ _ _
  have s2 := s1.alloc (.cells (filled [] n) 3)
  have b2 := b1.alloc b1.size (.cells (filled [] n) 3)
  have hGO : G < O := by rw [hO]; exact s1.lt
  have hwG : w.heap.size ≤ G := by rw [HG.out]; exact Nat.le_refl _
  rw [← hO]
  clear hO b1 s1 hmk
  generalize w1.alloc (.cells (filled [] n) 3) = w2 at *
  go_loopw [33] (fun i wr => ∃ (j : Nat) (l : Int), j ≤ n ∧ i = .int .i64 j ∧ Shp wr G k (Pl.mth (Pl.trun k xs ys j).2 0) (Pl.mth (Pl.trun k xs ys j).2 1) (Pl.mth (Pl.trun k xs ys j).2 2) l ∧ Blk wr O 3 (filled (Pl.trun k xs ys j).1 n) ∧ Below w.heap.size w wr) (fun i _ => n - (intOf i).toNat)
  case atStart => exact ⟨0, 0, by omega, rfl, s2, o2, b2⟩
  case round =>
    obtain ⟨j, l, hj, rfl, hs, ho, hb⟩ := hrel
    clear s2 o2 b2
    have hsm := Pl.trun_small k xs ys j
    have hl1 := (Pl.trun_len k xs ys j).1
    have k0 := Pl.mth_small hsm 0; have k1 := Pl.mth_small hsm 1; have k2 := Pl.mth_small hsm 2
    have HL := Lib.hid hl1; clear hl1 hsm
    by_cases hlt : j < n
    · obtain ⟨b, off, x, rfl, hbb, hxx, hc⟩ := (hx.later hb hB).at (k := j) (by rw [HN.out]; exact hlt)
      have hji : (j : Int) < (n : Int) := by omega
      have E1 : Hid (Pl.tgt k (Pl.mth (Pl.trun k xs ys j).2 0) (Pl.mth (Pl.trun k xs ys j).2 1) (Pl.mth (Pl.trun k xs ys j).2 2) x = Pl.tnow k xs ys j) := by
        show _ = _
        unfold Pl.tnow; rw [List.getD_eq_getElem?_getD, hxx]; rfl
      clear hxx
      go_wp2_with fail
      refine (target_any k _ _ _ _ x G _ hs k0 k1 k2).mono ?_
      rintro e w3 ⟨rfl, s3, g3⟩
      rw [E1.out] at s3 ⊢
      have b3 : Below w.heap.size w w3 := hb.trans (below_gb g3 hb.size (fun g hg => by injection hg with hg; omega))
      have o3 : Blk w3 O 3 (filled (Pl.trun k xs ys j).1 n) := ho.grown g3 (by intro h; injection h with h; omega)
      obtain ⟨u, hu⟩ := filled_get (ts := (Pl.trun k xs ys j).1) hlt
      have hcO : w3.cell? ⟨O, j, none⟩ = some (.int .i64 u) := (o3.cell j).trans hu
      have hfO := o3.free j
      obtain ⟨b', off', y, rfl, hbb', hyy, hc'⟩ := (hy.later b3 hB).at (k := j) (by rw [HM.out]; exact hlt)
      have E2 : Hid (ys.getD j 0 = y) := by show _ = _; rw [List.getD_eq_getElem?_getD, hyy]; rfl
      have hT := Pl.tnow_le k xs ys j
      obtain ⟨T, hTT⟩ : ∃ T, T = Pl.tnow k xs ys j := ⟨_, rfl⟩
      rw [← hTT] at hT s3 ⊢
      have HT := Lib.hid hTT
      clear hyy hs ho hb g3 hc hu hTT
      have s4 : Shp (w3.setCell ⟨O, j, none⟩ (.int .i64 T)) G k (Pl.mth (Pl.trun k xs ys j).2 0) (Pl.mth (Pl.trun k xs ys j).2 1) (Pl.mth (Pl.trun k xs ys j).2 2) T := Blk.same s3 (Below.heap_setCell _ _ _ _ (by show G ≠ O; omega))
      have o4 : Blk (w3.setCell ⟨O, j, none⟩ (.int .i64 T)) O 3 (filled (Pl.trun k xs ys (j + 1)).1 n) := by
        have h := o3.put j (.int .i64 T)
        rw [Pl.trun_fst, ← HT.out]
        have h2 := filled_put (ts := (Pl.trun k xs ys j).1) (n := n) T (by rw [HL.out]; exact hlt)
        rw [HL.out] at h2
        rw [← h2]; exact h
      have b4 : Below w.heap.size w (w3.setCell ⟨O, j, none⟩ (.int .i64 T)) := b3.setCell (by show _ ≤ O; omega) _
      have S4 := Lib.hid s4; have O4 := Lib.hid o4; have B4 := Lib.hid b4
      clear s4 o4 b4 s3 o3 b3
      go_wp2_with fail
      refine (note_any k _ _ _ T y G _ S4.out k0 k1 k2 hT).mono ?_
      rintro e w5 ⟨rfl, s5, g5⟩
      have o5 := O4.out.grown g5 (by intro h; injection h with h; omega)
      have b5 : Below w.heap.size w w5 := B4.out.trans (below_gb g5 B4.out.size (fun g hg => by injection hg with hg; omega))
      have s6 : Shp w5 G k (Pl.mth (Pl.trun k xs ys (j + 1)).2 0) (Pl.mth (Pl.trun k xs ys (j + 1)).2 1) (Pl.mth (Pl.trun k xs ys (j + 1)).2 2) T := by
        rw [Pl.trun_snd, Pl.mth_snoc_zero, Pl.mth_snoc_succ, Pl.mth_snoc_succ, E2.out, ← HT.out]; exact s5
      clear s5 g5 hcO hfO hc'
      go_wp2_with fail
      go_roundw
      case rel => exact ⟨j + 1, T, by omega, by go_num, s6, o5, b5⟩
      case measure => simp [intOf]; omega
    · have hd : decide ((j : Int) < (n : Int)) = false := by simp; omega
      have R : Rd _ _ _ _ := filled_rd ho (by rw [HL.out]; omega)
      have E : Hid (j = n) := by show j = n; omega
      clear hs ho
      go_wp2_with fail
      go_ret2
      exact ⟨⟨O, ret_two' rfl rfl, by rw [← E.out]; exact R⟩, hb⟩
end Go.Proofs.Ytjehichejggfbaa
