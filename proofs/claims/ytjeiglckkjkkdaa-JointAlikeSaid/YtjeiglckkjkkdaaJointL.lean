/- The walks of three laws of chapter 18: each returns true, for every input; nothing that was there has changed. -/
import Derived.Test.YtjeiglckkjkkdaaJointI
namespace Go.Proofs.Ytjeiglckkjkkdaa
open Go.RowKit
set_option linter.unusedVariables false
theorem rd_lit {w : World} {g : Nat} {xs : List Int} (h : Blk w g 3 (xs.map (Value.int .i64)).toArray) : Rd w w.heap.size (some ⟨g, 0, none⟩) xs := by
  intro i x hx
  refine ⟨g, 0, rfl, h.lt, ?_⟩
  rw [Blk.cell h]
  simp [hx]
set_option maxHeartbeats 800000 in
theorem known_any (w : World) : Calls Try.prog 7 #[] w fun e w' => e = .returned (.bool true) ∧ Below w.heap.size w w' := by
  have kE : Pl.turnE 3 8 [7] [4] = 0 := by decide
  have kC : Pl.turnC 3 8 [7] [4] = [5] := by decide
  have kD : Pl.turnD 3 8 [7] [4] = [3] := by decide
  have KE := Lib.hid kE; have KC := Lib.hid kC; have KD := Lib.hid kD
  clear kE kC kD
  go_enter Try.func7, Try.ntmps7
  go_wp2_with fail
  have b0 : Below w.heap.size w ((w.alloc (.cells #[.int .i64 7] 3)).alloc (.cells #[.int .i64 4] 3)) := ((Below.refl _ _).alloc (Nat.le_refl _) _).alloc (by simp) _
  have x0 : Rd ((w.alloc (.cells #[.int .i64 7] 3)).alloc (.cells #[.int .i64 4] 3)) (w.heap.size + 1 + 1) (some ⟨w.heap.size, 0, none⟩) [7] := by
    have := rd_lit (xs := [7]) (Blk.alloc (Blk.new w 3 #[.int .i64 7]) (.cells #[.int .i64 4] 3)); simpa using this
  have y0 : Rd ((w.alloc (.cells #[.int .i64 7] 3)).alloc (.cells #[.int .i64 4] 3)) (w.heap.size + 1 + 1) (some ⟨w.heap.size + 1, 0, none⟩) [4] := by
    have := rd_lit (xs := [4]) (Blk.newAt (w := w.alloc (.cells #[.int .i64 7] 3)) (t := 3) (cs := #[.int .i64 4]) (g := w.heap.size + 1) (by simp)); simpa using this
  refine (turn_any 3 8 _ _ 1 1 1 1 _ [7] [4] _ rfl rfl (by decide) (by decide) x0 y0 (by simp)).mono ?_
  rintro e w1 ⟨⟨A1, A2, k1, c1, k2, c2, rfl, l1, l2, r1, r2⟩, b1⟩
  rw [KE.out, KC.out, KD.out] at *
  have bb1 := below_next b0 b0.size b1
  simp only [List.length_cons, List.length_nil] at l1 l2
  have hk1 : k1 = 1 := by omega
  have hk2 : k2 = 1 := by omega
  subst hk1; subst hk2
  clear b1 b0 x0 y0 l1 l2
  go_wp2_with fail
  have s1 : Rd (w1.alloc (.cells #[.int .i64 5] 3)) (w1.heap.size + 1) (some ⟨w1.heap.size, 0, none⟩) [5] := by
    have := rd_lit (xs := [5]) (Blk.new w1 3 #[.int .i64 5]); simpa using this
  have r1' := r1.keep (w' := w1.alloc (.cells #[.int .i64 5] 3)) (fun p hp => World.cell?_alloc_lt w1 _ p hp)
  have r2' := r2.keep (w' := w1.alloc (.cells #[.int .i64 5] 3)) (fun p hp => World.cell?_alloc_lt w1 _ p hp)
  have bb2 := bb1.alloc bb1.size (.cells #[.int .i64 5] 3)
  refine (ints_any _ _ _ _ _ _ _ _ _ _ _ rfl rfl r1' s1 (by decide) (by decide)).mono ?_
  rintro e w2 ⟨rfl, d, hw2⟩
  have r2'' : Rd w2 w1.heap.size A2 [3] := hw2 ▸ (show Rd ((w1.alloc (.cells #[.int .i64 5] 3)).drewN d) w1.heap.size A2 [3] from r2')
  have bb3 : Below w.heap.size w w2 := hw2 ▸ below_drawn bb2 d
  have hs : w1.heap.size ≤ w2.heap.size := by rw [← hw2]; show _ ≤ (w1.alloc _).heap.size; simp
  clear hw2 bb2 bb1 r1 r2 r1' r2' s1
  go_wp2_with fail
  have s2 : Rd (w2.alloc (.cells #[.int .i64 3] 3)) (w2.heap.size + 1) (some ⟨w2.heap.size, 0, none⟩) [3] := by
    have := rd_lit (xs := [3]) (Blk.new w2 3 #[.int .i64 3]); simpa using this
  have r3 := r2''.keep (w' := w2.alloc (.cells #[.int .i64 3] 3)) (fun p hp => World.cell?_alloc_lt w2 _ p (by omega))
  have bb4 := bb3.alloc bb3.size (.cells #[.int .i64 3] 3)
  refine (ints_any _ _ _ _ _ _ _ _ _ _ _ rfl rfl r3 s2 (by decide) (by decide)).mono ?_
  rintro e w3 ⟨rfl, d3, hw3⟩
  have bb5 : Below w.heap.size w w3 := hw3 ▸ below_drawn bb4 d3
  clear hw3
  go_wp2_with fail
  go_ret
  exact ⟨rfl, bb5⟩
end Go.Proofs.Ytjeiglckkjkkdaa
