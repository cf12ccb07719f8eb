/- The walk of the reference's search for the samples of which two others are made: it always finds them. -/
import Derived.Test.YtjeiglckkjkkdaaJointE
namespace Go.Proofs.Ytjeiglckkjkkdaa
open Go.RowKit
set_option linter.unusedVariables false
theorem one_eq (m a b P Q : Int) (hP : Pl.ta m a b = P) (hQ : Pl.tb m a b = Q) (ha : -8796093022208 ≤ a ∧ a ≤ 8796093022208) (hb : -8796093022208 ≤ b ∧ b ≤ 8796093022208) (w : World) : Calls Try.prog 24 #[.int .i64 m, .int .i64 a, .int .i64 b] w fun e w' => e = .returned (.tuple #[.int .i64 P, .int .i64 Q]) ∧ w = w' := by
  rw [← hP, ← hQ]; exact one_r m a b ha hb w
theorem ret_find {a b c d : Int} {x y : Bool} (h : a = b) (h2 : c = d) (h3 : x = y) : Ending.returned (.tuple #[.int .i64 a, .int .i64 c, .bool x]) = .returned (.tuple #[.int .i64 b, .int .i64 d, .bool y]) := by rw [h, h2, h3]
set_option maxHeartbeats 1600000 in
theorem find_r (m c d : Int) (h0 : 0 ≤ m) (h3 : m ≤ 3) (hc : Pl.Far c) (hd : Pl.Far d) (w : World) : Calls Try.prog 30 #[.int .i64 m, .int .i64 c, .int .i64 d] w fun e w' => e = .returned (.tuple #[.int .i64 (Pl.ba m c d), .int .i64 (Pl.bb m c d), .bool true]) ∧ Below w.heap.size w w' := by
  unfold Pl.Far at hc hd
  have hb : ∀ o : Obj, Below w.heap.size w (w.alloc o) := fun o => (Below.refl _ _).alloc (Nat.le_refl _) _
  have Hb := Lib.hid hb; clear hb
  have hfl : Pl.floor d 2 = d / 2 := by unfold Pl.floor; rw [if_neg (by omega)]
  have hflb : -549755813888 ≤ Pl.floor d 2 ∧ Pl.floor d 2 ≤ 549755813888 := by omega
  have HF := Lib.hid hfl; clear hfl
  rcases (show m = 0 ∨ m = 1 ∨ m = 2 ∨ m = 3 by omega) with rfl | rfl | rfl | rfl
  · go_enter Try.func30, Try.ntmps30
    go_wp2_with (go_at_call 40; refine (floor_r _ _ (by omega) (by omega) _).mono ?_; rintro e w' ⟨rfl, rfl⟩)
    go_loop [10] (fun k => k = .int .i64 (-1) ∨ k = .int .i64 0) (fun k => (1 - intOf k).toNat)
    case atStart => exact .inl rfl
    case round =>
      rcases hrel with rfl | rfl
      · go_wp2_with fail
        refine (one_eq 0 _ _ (c - 1) d (by simp [Pl.ta]; omega) (by simp [Pl.tb]) (by omega) (by omega) _).mono ?_
        rintro e w' ⟨rfl, rfl⟩
        go_wp2_with fail
        go_round
        case rel => exact .inr rfl
        case measure => simp [intOf]
      · go_wp2_with fail
        refine (one_eq 0 _ _ c d (by simp [Pl.ta]) (by simp [Pl.tb]) (by omega) (by omega) _).mono ?_
        rintro e w' ⟨rfl, rfl⟩
        go_wp2_with fail
        go_ret3
        exact ⟨ret_find (by simp [Pl.ba]) (by simp [Pl.bb]) rfl, Hb.out _⟩
  · go_enter Try.func30, Try.ntmps30
    go_wp2_with (go_at_call 40; refine (floor_r _ _ (by omega) (by omega) _).mono ?_; rintro e w' ⟨rfl, rfl⟩)
    go_loop [10] (fun k => k = .int .i64 (-1) ∨ k = .int .i64 0) (fun k => (1 - intOf k).toNat)
    case atStart => exact .inl rfl
    case round =>
      rcases hrel with rfl | rfl
      · go_wp2_with fail
        refine (one_eq 1 _ _ (c - 1) (d) (by simp [Pl.ta]; omega) (by simp [Pl.tb]; omega) (by omega) (by omega) _).mono ?_
        rintro e w' ⟨rfl, rfl⟩
        go_wp2_with fail
        go_round
        case rel => exact .inr rfl
        case measure => simp [intOf]
      · go_wp2_with fail
        refine (one_eq 1 _ _ c d (by simp [Pl.ta]) (by simp [Pl.tb]; omega) (by omega) (by omega) _).mono ?_
        rintro e w' ⟨rfl, rfl⟩
        go_wp2_with fail
        go_ret3
        exact ⟨ret_find (by simp [Pl.ba]) (by simp [Pl.bb]) rfl, Hb.out _⟩
  · go_enter Try.func30, Try.ntmps30
    go_wp2_with (go_at_call 40; refine (floor_r _ _ (by omega) (by omega) _).mono ?_; rintro e w' ⟨rfl, rfl⟩)
    go_loop [10] (fun k => k = .int .i64 (-1) ∨ k = .int .i64 0) (fun k => (1 - intOf k).toNat)
    case atStart => exact .inl rfl
    case round =>
      rcases hrel with rfl | rfl
      · go_wp2_with fail
        refine (one_eq 2 _ _ (c - 1) (d) (by simp [Pl.ta] <;> omega) (by simp [Pl.tb]) (by omega) (by omega) _).mono ?_
        rintro e w' ⟨rfl, rfl⟩
        go_wp2_with fail
        go_round
        case rel => exact .inr rfl
        case measure => simp [intOf]
      · go_wp2_with fail
        refine (one_eq 2 _ _ c d (by simp [Pl.ta] <;> omega) (by simp [Pl.tb]) (by omega) (by omega) _).mono ?_
        rintro e w' ⟨rfl, rfl⟩
        go_wp2_with fail
        go_ret3
        exact ⟨ret_find (by simp [Pl.ba]) (by simp [Pl.bb]) rfl, Hb.out _⟩
  · rcases (show d % 2 = 0 ∨ d % 2 = 1 by omega) with hp | hp
    · have HP := Lib.hid hp; clear hp
      go_enter Try.func30, Try.ntmps30
      go_wp2_with (go_at_call 40; refine (floor_r _ _ (by omega) (by omega) _).mono ?_; rintro e w' ⟨rfl, rfl⟩)
      go_loop [10] (fun k => k = .int .i64 (-1) ∨ k = .int .i64 0) (fun k => (1 - intOf k).toNat)
      case atStart => exact .inl rfl
      case round =>
        rcases hrel with rfl | rfl
        · go_wp2_with fail
          refine (one_eq 3 _ _ (c - 1) (d) (by simp [Pl.ta]; have := HF.out; have := HP.out; omega) (by simp [Pl.tb]; have := HF.out; omega) (by omega) (by omega) _).mono ?_
          rintro e w' ⟨rfl, rfl⟩
          go_wp2_with fail
          go_round
          case rel => exact .inr rfl
          case measure => simp [intOf]
        · go_wp2_with fail
          refine (one_eq 3 _ _ c d (by simp [Pl.ta]; have := HF.out; have := HP.out; omega) (by simp [Pl.tb]; have := HF.out; omega) (by omega) (by omega) _).mono ?_
          rintro e w' ⟨rfl, rfl⟩
          go_wp2_with fail
          go_ret3
          exact ⟨ret_find (by simp [Pl.ba]; have := HF.out; have := HP.out; omega) (by simp [Pl.bb]; have := HF.out; have := HP.out; omega) rfl, Hb.out _⟩
    · have HP := Lib.hid hp; clear hp
      go_enter Try.func30, Try.ntmps30
      go_wp2_with (go_at_call 40; refine (floor_r _ _ (by omega) (by omega) _).mono ?_; rintro e w' ⟨rfl, rfl⟩)
      go_loop [10] (fun k => k = .int .i64 (-1) ∨ k = .int .i64 0 ∨ k = .int .i64 1) (fun k => (2 - intOf k).toNat)
      case atStart => exact .inl rfl
      case round =>
        rcases hrel with rfl | rfl | rfl
        · go_wp2_with fail
          refine (one_eq 3 _ _ (c - 2) (d) (by simp [Pl.ta]; have := HF.out; have := HP.out; omega) (by simp [Pl.tb]; have := HF.out; omega) (by omega) (by omega) _).mono ?_
          rintro e w' ⟨rfl, rfl⟩
          go_wp2_with fail
          go_round
          case rel => exact .inr (.inl rfl)
          case measure => simp [intOf]
        · go_wp2_with fail
          refine (one_eq 3 _ _ (c - 1) (d) (by simp [Pl.ta]; have := HF.out; have := HP.out; omega) (by simp [Pl.tb]; have := HF.out; omega) (by omega) (by omega) _).mono ?_
          rintro e w' ⟨rfl, rfl⟩
          go_wp2_with fail
          go_round
          case rel => exact .inr (.inr rfl)
          case measure => simp [intOf]
        · go_wp2_with fail
          refine (one_eq 3 _ _ c d (by simp [Pl.ta]; have := HF.out; have := HP.out; omega) (by simp [Pl.tb]; have := HF.out; omega) (by omega) (by omega) _).mono ?_
          rintro e w' ⟨rfl, rfl⟩
          go_wp2_with fail
          go_ret3
          exact ⟨ret_find (by simp [Pl.ba]; have := HF.out; have := HP.out; omega) (by simp [Pl.bb]; have := HF.out; have := HP.out; omega) rfl, Hb.out _⟩
end Go.Proofs.Ytjeiglckkjkkdaa
