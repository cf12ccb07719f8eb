/- The walks of shape's small functions, and of the reference's, by their contracts. -/
import Derived.Test.YtjehichejggfbaaShapeA
namespace Go.Proofs.Ytjehichejggfbaa
open Go.RowKit
set_option linter.unusedVariables false
set_option maxHeartbeats 400000 in
theorem kind_any (k a b c l : Int) (g : Nat) (w : World) (hb : Shp w g k a b c l) : Calls Try.prog 14 #[.pointer (some ⟨g, 0, none⟩)] w fun e w' => e = .returned (.int .i64 k) ∧ w = w' := by
  obtain ⟨c0, c1, c2, c3, c4⟩ := hb.cells
  go_enter Try.func14, Try.ntmps14
  go_wp2_with fail
  go_ret
  exact ⟨rfl, rfl⟩
set_option maxHeartbeats 400000 in
theorem kind_nil (w : World) : Calls Try.prog 14 #[.pointer none] w fun e w' => e = .returned (.int .i64 0) ∧ w = w' := by
  go_enter Try.func14, Try.ntmps14
  go_wp2_with fail
  go_ret
  exact ⟨rfl, rfl⟩
set_option maxHeartbeats 400000 in
theorem target_nil (x : Int) (w : World) : Calls Try.prog 11 #[.pointer none, .int .i64 x] w fun e w' => e = .returned (.int .i64 0) ∧ w = w' := by
  go_enter Try.func11, Try.ntmps11
  go_wp2_with fail
  go_ret
  exact ⟨rfl, rfl⟩
set_option maxHeartbeats 400000 in
theorem note_nil (x : Int) (w : World) : Calls Try.prog 12 #[.pointer none, .int .i64 x] w fun e w' => e = .returned (.tuple #[]) ∧ w = w' := by
  go_enter Try.func12, Try.ntmps12
  go_wp2_with fail
  refine bodyPost_ret (results_none rfl _ _ _) rfl ?_
  exact ⟨rfl, rfl⟩
set_option maxHeartbeats 400000 in
theorem loud_r (x : Int) (w : World) : Calls Try.prog 20 #[.int .i64 x] w fun e w' => e = .returned (.int .i64 (Pl.clamp x (-4294967296) 4294967296)) ∧ w = w' := by
  go_enter Try.func20, Try.ntmps20
  go_wp2_with (go_at_call 26; refine (clamp_r _ _ _ _).mono ?_; rintro e w' ⟨rfl, rfl⟩)
  go_ret
  exact ⟨rfl, rfl⟩
set_option maxHeartbeats 400000 in
theorem miss_r (y l : Int) (hl : -4529848320 ≤ l ∧ l ≤ 4529848321) (w : World) : Calls Try.prog 13 #[.int .i64 y, .int .i64 l] w fun e w' => e = .returned (.int .i64 (Pl.miss y l)) ∧ w = w' := by
  have hcl := Pl.clamp_le y (-4294967296) 4294967296 (by omega)
  go_enter Try.func13, Try.ntmps13
  go_wp2_with (first
    | (go_at_call 20; refine (loud_r _ _).mono ?_; rintro e w' ⟨rfl, rfl⟩)
    | (go_at_call 26; refine (clamp_r _ _ _ _).mono ?_; rintro e w' ⟨rfl, rfl⟩))
  go_ret
  exact ⟨rfl, rfl⟩
theorem small0 : Pl.Small 0 := Pl.small0
set_option maxHeartbeats 400000 in
theorem known_any (w : World) : Calls Try.prog 9 #[] w fun e w' => e = .returned (.bool true) ∧ Below w.heap.size w w' := by
  go_enter Try.func9, Try.ntmps9
  go_wp2_with fail
  refine (new_any _ _ (by decide) (by decide)).mono ?_
  rintro e w1 ⟨rfl, hw⟩
  have h1 : Shp w1 w.heap.size 1 0 0 0 0 := hw ▸ Blk.new _ _ _
  have g1 : Below w.heap.size w w1 := hw ▸ (Below.refl _ _).alloc (Nat.le_refl _) _
  clear hw
  go_wp2_with fail
  refine (target_any _ _ _ _ _ _ _ _ h1 small0 small0 small0).mono ?_
  rintro e w2 ⟨rfl, h2, g2⟩
  rw [show Pl.tgt 1 0 0 0 100 = 100 by decide] at h2 ⊢
  have b2 : Below w.heap.size w w2 := g1.trans (below_gb g2 g1.size (fun g hg => by injection hg with hg; omega))
  clear h1 g1 g2
  go_wp2_with fail
  refine (note_any _ _ _ _ _ _ _ _ h2 small0 small0 small0 (by decide)).mono ?_
  rintro e w3 ⟨rfl, h3, g3⟩
  rw [show Pl.miss 116 100 = 16 by decide] at h3
  have b3 : Below w.heap.size w w3 := b2.trans (below_gb g3 b2.size (fun g hg => by injection hg with hg; omega))
  clear h2 b2 g3
  go_wp2_with fail
  refine (target_any _ _ _ _ _ _ _ _ h3 (by unfold Pl.Small; omega) small0 small0).mono ?_
  rintro e w4 ⟨rfl, h4, g4⟩
  rw [show Pl.tgt 1 16 0 0 100 = 85 by decide] at h4 ⊢
  have b4 : Below w.heap.size w w4 := b3.trans (below_gb g4 b3.size (fun g hg => by injection hg with hg; omega))
  clear h3 b3 g4
  go_wp2_with fail
  refine (kind_any _ _ _ _ _ _ _ h4).mono ?_
  rintro e w5 ⟨rfl, rfl⟩
  go_wp2_with fail
  go_ret
  exact ⟨rfl, b4⟩
theorem rd_lit {w : World} {g : Nat} {xs : List Int} (h : Blk w g 3 (xs.map (Value.int .i64)).toArray) : Rd w w.heap.size (some ⟨g, 0, none⟩) xs := by
  intro i x hx
  refine ⟨g, 0, rfl, h.lt, ?_⟩
  rw [Blk.cell h]
  simp [hx]
theorem rd_pre {w : World} {g : Nat} {t : TypeId} {xs : List Int} {r : List Value} (h : Blk w g t (xs.map (Value.int .i64) ++ r).toArray) : Rd w w.heap.size (some ⟨g, 0, none⟩) xs := by
  intro i x hx
  refine ⟨g, 0, rfl, h.lt, ?_⟩
  rw [Blk.cell h]
  have hl : i < xs.length := (List.getElem?_eq_some_iff.1 hx).1
  have he := (List.getElem?_eq_some_iff.1 hx).2
  simp [List.getElem?_append_left, hl]
  exact he
set_option maxHeartbeats 400000 in
theorem weights_r (k : Int) (w : World) (h0 : 0 ≤ k) (h3 : k ≤ 3) : Calls Try.prog 17 #[.int .i64 k] w fun e w' => (∃ A n c, e = .returned (.slice A n c) ∧ (n : Int) = k ∧ (Pl.wl k).length = n ∧ Rd w' w'.heap.size A (Pl.wl k)) ∧ Below w.heap.size w w' := by
  have hb : ∀ o1 o2 o3 o4 : Obj, Below w.heap.size w ((((w.alloc o1).alloc o2).alloc o3).alloc o4) := fun o1 o2 o3 o4 =>
    ((((Below.refl _ _).alloc (by simp) _).alloc (by simp) _).alloc (by simp; omega) _).alloc (by simp; omega) _
  have Hb := Lib.hid hb; clear hb
  rcases (show k = 0 ∨ k = 1 ∨ k = 2 ∨ k = 3 by omega) with rfl | rfl | rfl | rfl
  · go_enter Try.func17, Try.ntmps17
    go_wp2_with fail
    go_ret
    exact ⟨⟨none, 0, 0, rfl, rfl, rfl, Rd.nil _ _ _⟩, Hb.out _ _ _ _⟩
  · go_enter Try.func17, Try.ntmps17
    go_wp2_with fail
    go_ret
    exact ⟨⟨_, 1, 1, rfl, rfl, rfl, rd_lit (xs := [15]) ((((Blk.new w _ _).alloc _).alloc _).alloc _)⟩, Hb.out _ _ _ _⟩
  · go_enter Try.func17, Try.ntmps17
    go_wp2_with fail
    go_ret
    exact ⟨⟨_, 2, 2, rfl, rfl, rfl, rd_lit (xs := [24, -9]) (Blk.alloc (Blk.alloc (Blk.newAt (by simp)) _) _)⟩, Hb.out _ _ _ _⟩
  · go_enter Try.func17, Try.ntmps17
    go_wp2_with fail
    go_ret
    exact ⟨⟨_, 3, 3, rfl, rfl, rfl, rd_lit (xs := [30, -21, 5]) (Blk.alloc (Blk.newAt (by simp)) _)⟩, Hb.out _ _ _ _⟩
set_option maxHeartbeats 400000 in
theorem shapeWeights_p (k : Int) (w : World) (h0 : 0 ≤ k) (h3 : k ≤ 3) : Calls Try.prog 15 #[.int .i64 k] w fun e w' => (∃ A n c, e = .returned (.slice A n c) ∧ (n : Int) = k ∧ (Pl.wl k).length = n ∧ Rd w' w'.heap.size A (Pl.wl k)) ∧ Below w.heap.size w w' := by
  rcases (show k = 0 ∨ k = 1 ∨ k = 2 ∨ k = 3 by omega) with rfl | rfl | rfl | rfl
  · go_enter Try.func15, Try.ntmps15
    go_wp2_with (first | (go_at_call 23; refine (weights_any _ _).mono ?_; rintro e w' ⟨rfl, C, rfl⟩) | go_in)
    go_ret
    exact ⟨⟨_, 0, 0, rfl, rfl, rfl, rd_pre (xs := []) (r := [.int .i64 0, .int .i64 0, .int .i64 0]) (Blk.newAt (by simp))⟩, ((Below.refl _ _).alloc (by simp) _).alloc (by simp) _⟩
  · go_enter Try.func15, Try.ntmps15
    go_wp2_with (first | (go_at_call 23; refine (weights_any _ _).mono ?_; rintro e w' ⟨rfl, C, rfl⟩) | go_in)
    go_ret
    exact ⟨⟨_, 1, 1, rfl, rfl, rfl, rd_pre (xs := [15]) (r := [.int .i64 0, .int .i64 0]) (Blk.newAt (by simp))⟩, ((Below.refl _ _).alloc (by simp) _).alloc (by simp) _⟩
  · go_enter Try.func15, Try.ntmps15
    go_wp2_with (first | (go_at_call 23; refine (weights_any _ _).mono ?_; rintro e w' ⟨rfl, C, rfl⟩) | go_in)
    go_ret
    exact ⟨⟨_, 2, 2, rfl, rfl, rfl, rd_pre (xs := [24,-9]) (r := [.int .i64 0]) (Blk.newAt (by simp))⟩, ((Below.refl _ _).alloc (by simp) _).alloc (by simp) _⟩
  · go_enter Try.func15, Try.ntmps15
    go_wp2_with (first | (go_at_call 23; refine (weights_any _ _).mono ?_; rintro e w' ⟨rfl, C, rfl⟩) | go_in)
    go_ret
    exact ⟨⟨_, 3, 3, rfl, rfl, rfl, rd_pre (xs := [30,-21,5]) (r := []) (Blk.newAt (by simp))⟩, ((Below.refl _ _).alloc (by simp) _).alloc (by simp) _⟩
set_option maxHeartbeats 400000 in
theorem shapeWeights_no (k : Int) (w : World) (h0 : k < 0 ∨ 3 < k) : Calls Try.prog 15 #[.int .i64 k] w fun e w' => e = .returned (.slice none 0 0) ∧ w = w' := by
  rcases h0 with h | h
  · have hd : decide (0 ≤ k) = false := by simpa using h
    go_enter Try.func15, Try.ntmps15
    go_wp2_with go_in
    go_ret
    exact ⟨rfl, rfl⟩
  · have hd : decide (k ≤ 3) = false := by simpa using h
    go_enter Try.func15, Try.ntmps15
    go_wp2_with go_in
    go_ret
    exact ⟨rfl, rfl⟩
end Go.Proofs.Ytjehichejggfbaa
