/- The walk of Choose at a list and itself. -/
import Derived.Test.YtjeiglckkjkkdaaJointV
import Derived.StillTailTactics
import Derived.Deep.RegionHeld3
import Derived.Deep.RegionWith
namespace Go.Proofs.Ytjeiglckkjkkdaa
open Go.RowKit
set_option linter.unusedVariables false
def Pl.pick (R : Int) : Int := if R = 0 then 0 else 1
theorem below_dn {B : Nat} {a w : World} (h : Below B a w) (k : Nat) : Below B a (w.drewN k) := ⟨h.os, h.tape, h.output, h.size, h.block⟩
theorem min4 (b : Nat) (R : Int) (w : World) (h0 : 0 ≤ R) (hc : ∀ j, j < [R + R, R, R, R].length → w.cell? ⟨b, 0 + j, none⟩ = some (.int .i64 ([R + R, R, R, R].getD j 0))) :
    Calls Try.prog 35 #[.slice (some ⟨b, 0, none⟩) 4 4] w fun e w' => e = .returned (.int .i64 R) ∧ w' = w := by
  refine (Try.slices_Min_int b 0 4 4 [R + R, R, R, R] w (by omega) (by simp) (by omega) hc).mono ?_
  rintro e w' ⟨rfl, rfl⟩
  have e : Lib.minOf (List.take 4 [R + R, R, R, R]) = R := by
    show min (min (min (min (R + R) (R + R)) R) R) R = R
    omega
  exact ⟨by rw [e], rfl⟩
theorem idx4 (b : Nat) (R : Int) (w : World) (hc : ∀ j, j < [R + R, R, R, R].length → w.cell? ⟨b, 0 + j, none⟩ = some (.int .i64 ([R + R, R, R, R].getD j 0))) :
    Calls Try.prog 34 #[.slice (some ⟨b, 0, none⟩) 4 4, .int .i64 R] w fun e w' => e = .returned (.int .i64 (Pl.pick R)) ∧ w' = w := by
  refine (Try.slices_Index_int b 0 4 4 [R + R, R, R, R] R w (by simp) (by omega) hc).mono ?_
  rintro e w' ⟨rfl, rfl⟩
  have e : Lib.idxOf (List.take 4 [R + R, R, R, R]) R = Pl.pick R := by
    show Lib.idxFrom [R + R, R, R, R] R 0 = if R = 0 then 0 else 1
    by_cases h : R = 0
    · subst h; rfl
    · have h2 : ¬(R + R = R) := by omega
      simp [Lib.idxFrom, h, h2]
  exact ⟨by rw [e], rfl⟩
set_option maxHeartbeats 1600000 in
theorem choose_same (A : Option Addr) (n c B : Nat) (xs : List Int) (w : World) (hn : xs.length = n) (hn2 : n ≤ 200) (hx : Rd w B A xs) (hB : B ≤ w.heap.size) (hfx : ∀ x ∈ xs, Pl.Far x) :
    Calls Try.prog 17 #[.slice A n c, .slice A n c] w fun e w' => e = .returned (.int .i64 (Pl.pick (Pl.rough xs))) ∧ Below w.heap.size w w' := by
  have HR := Lib.hid (Pl.rough_le xs (by omega) hfx)
  have HZ : Hid (Pl.rough (List.replicate n 0) = 0) := Pl.rough_zero n
  have hzf : ∀ x ∈ List.replicate n (0 : Int), Pl.Far x := by intro x hx; rw [List.eq_of_mem_replicate hx]; unfold Pl.Far; omega
  go_enter Try.func17, Try.ntmps17
  go_wp2_with fail
  refine (both_half _ _ _ _ _ _ hn (by omega) hx hB hfx).mono ?_
  rintro e w1 ⟨⟨g1, g2, rfl, r1, r2⟩, b1⟩
  rw [Pl.map2_ha] at r1
  rw [Pl.map2_hz, hn] at r2
  have hx1 := hx.later b1 hB
  have l1 := b1.size
  go_wp2_with fail
  refine (rough_any _ _ _ _ _ _ hn (by omega) hx1 hfx).mono ?_
  rintro e w2 ⟨rfl, b2⟩
  have hx2 := hx1.later b2 (by omega)
  have l2 := b2.size
  go_wp2_with fail
  refine (rough_any _ _ _ _ _ _ hn (by omega) hx2 hfx).mono ?_
  rintro e w3 ⟨rfl, b3⟩
  have l3 := b3.size
  have r13 := (r1.later b2 (by omega)).later b3 (by omega)
  go_wp2_with fail
  refine (rough_any _ _ _ _ _ _ hn (by omega) r13 hfx).mono ?_
  rintro e w4 ⟨rfl, b4⟩
  have l4 := b4.size
  have r24 := ((r2.later b2 (by omega)).later b3 (by omega)).later b4 (by omega)
  go_wp2_with fail
  refine (rough_any _ _ _ _ _ _ (by simp) (by omega) r24 hzf).mono ?_
  rintro e w5 ⟨rfl, b5⟩
  have l5 := b5.size
  rw [HZ.out]
  go_wp2_with fail
  have q : Blk (w5.alloc (.cells #[.int .i64 (Pl.rough xs), .int .i64 (Pl.rough xs), .int .i64 (Pl.rough xs), .int .i64 0] 48)) w5.heap.size 48 #[.int .i64 (Pl.rough xs), .int .i64 (Pl.rough xs), .int .i64 (Pl.rough xs), .int .i64 0] := Blk.new _ _ _
  have c0 := q.cell 0
  have c1 := q.cell 1
  have c2 := q.cell 2
  have c3 := q.cell 3
  have hb : Below w.heap.size w (w5.alloc (.cells #[.int .i64 (Pl.rough xs), .int .i64 (Pl.rough xs), .int .i64 (Pl.rough xs), .int .i64 0] 48)) :=
    ((((b1.trans (b2.mono (by omega))).trans (b3.mono (by omega))).trans (b4.mono (by omega))).trans (b5.mono (by omega))).alloc (by omega) _
  have hlt : w5.heap.size < (w5.alloc (.cells #[.int .i64 (Pl.rough xs), .int .i64 (Pl.rough xs), .int .i64 (Pl.rough xs), .int .i64 0] 48)).heap.size := by simp
  have hle : w.heap.size ≤ w5.heap.size := by omega
  clear q b1 b2 b3 b4 b5 r1 r2 r13 r24 hx1 hx2 l1 l2 l3 l4 l5 hx hfx hzf HZ
  generalize (w5.alloc (.cells #[.int .i64 (Pl.rough xs), .int .i64 (Pl.rough xs), .int .i64 (Pl.rough xs), .int .i64 0] 48)) = W at *
  generalize w5.heap.size = p at *
  have C0 : W.cell? ⟨p, 0, none⟩ = some (.int .i64 (Pl.rough xs)) := c0
  have C1 : W.cell? ⟨p, 1, none⟩ = some (.int .i64 (Pl.rough xs)) := c1
  have C2 : W.cell? ⟨p, 2, none⟩ = some (.int .i64 (Pl.rough xs)) := c2
  have C3 : W.cell? ⟨p, 3, none⟩ = some (.int .i64 0) := c3
  clear c0 c1 c2 c3
  generalize hRR : Pl.rough xs = R at *
  have HRR := Lib.hid hRR
  clear hRR
  have A1 : Hid (Pl.add R R = R + R) := by have := HR.out; show _ = _; unfold Pl.add; rw [Pl.hold_in R (by omega) (by omega), Pl.hold_in _ (by omega) (by omega)]
  have A2 : Hid (Pl.add R 0 = R) := by have := HR.out; show _ = _; unfold Pl.add; rw [Pl.hold_in R (by omega) (by omega), Pl.hold_in 0 (by omega) (by omega), Pl.hold_in _ (by omega) (by omega)]; omega
  have A3 : Hid (Pl.add 0 R = R) := by have := HR.out; show _ = _; unfold Pl.add; rw [Pl.hold_in R (by omega) (by omega), Pl.hold_in 0 (by omega) (by omega), Pl.hold_in _ (by omega) (by omega)]; omega
  have HB : Hid (Below w.heap.size w (W.alloc (.cells #[.int .i64 (R + R), .int .i64 R, .int .i64 R, .int .i64 R] 48)).drew) := (hb.alloc (by omega) _).drew
  have HC : Hid (∀ k : Nat, ∀ j, j < [R + R, R, R, R].length → ((W.alloc (.cells #[.int .i64 (R + R), .int .i64 R, .int .i64 R, .int .i64 R] 48)).drew.drewN k).cell? ⟨W.heap.size, 0 + j, none⟩ = some (.int .i64 ([R + R, R, R, R].getD j 0))) := by
    intro k j hj
    have q : Blk (W.alloc (.cells #[.int .i64 (R + R), .int .i64 R, .int .i64 R, .int .i64 R] 48)).drew W.heap.size 48 #[.int .i64 (R + R), .int .i64 R, .int .i64 R, .int .i64 R] := Blk.new _ _ _
    have q2 : Blk ((W.alloc (.cells #[.int .i64 (R + R), .int .i64 R, .int .i64 R, .int .i64 R] 48)).drew.drewN k) W.heap.size 48 #[.int .i64 (R + R), .int .i64 R, .int .i64 R, .int .i64 R] := q
    rw [q2.cell]
    match j, hj with
    | 0, _ => rfl
    | 1, _ => rfl
    | 2, _ => rfl
    | 3, _ => rfl
  go_region_held3 (fun w' => w'.cell? ⟨p, 0, none⟩ = some (.int .i64 R) ∧ w'.cell? ⟨p, 1, none⟩ = some (.int .i64 R) ∧ w'.cell? ⟨p, 2, none⟩ = some (.int .i64 R) ∧ w'.cell? ⟨p, 3, none⟩ = some (.int .i64 0))
    (first | exact ⟨C0, C1, C2, C3⟩ | go_keep)
    ((go_at_call 33; refine (add_p _ _ _).mono ?_; rintro e w' ⟨rfl, rfl⟩))
  all_goals
    rw [A1.out, A2.out, A3.out]
    have BB := HB.out
    have HQ1 := Lib.hid (fun k => min4 _ R _ HR.out.1 (HC.out k))
    have HQ2 := Lib.hid (fun k => idx4 _ R _ (HC.out k))
    clear HB HC A1 A2 A3 hb hlt C0 C1 C2 C3
    generalize (W.alloc (.cells #[.int .i64 (R + R), .int .i64 R, .int .i64 R, .int .i64 R] 48)).drew = W2 at *
    go_wp2_with fail
    go_quiet ((first | (go_at_call 35; exact Calls.quiet_of_same (HQ1.out _)) | (go_at_call 34; exact Calls.quiet_of_same (HQ2.out _))))
    go_wp2_with fail
    go_ret
    exact ⟨ret_int (by rw [HRR.out]), below_dn BB _⟩
end Go.Proofs.Ytjeiglckkjkkdaa
