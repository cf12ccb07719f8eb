/- The walks of the reference's functions of chapter 18: the same lists, the same errors. -/
import Derived.Test.YtjeiglckkjkkdaaJointE
namespace Go.Proofs.Ytjeiglckkjkkdaa
open Go.RowKit
set_option linter.unusedVariables false
set_option maxHeartbeats 800000 in
theorem widths_r (m n : Int) (h0 : 0 ≤ m) (h3 : m ≤ 3) (hn : 1 ≤ n) (hn2 : n ≤ 31) (w : World) : Calls Try.prog 13 #[.int .i64 m, .int .i64 n] w fun e w' => e = .returned (.tuple #[.int .i64 (Pl.wa m n), .int .i64 (Pl.wb m n)]) ∧ Below w.heap.size w w' := by
  have hb : ∀ o1 o2 o3 o4 o5 : Obj, ∀ d, Below w.heap.size w ((((((w.alloc o1).alloc o2).alloc o3).alloc o4).alloc o5).drewN d) := fun o1 o2 o3 o4 o5 d =>
    below_drawn (((((Below.refl _ _).alloc (by simp) _).alloc (by simp) _).alloc (by simp; omega) _ |>.alloc (by simp; omega) _).alloc (by simp; omega) _) d
  have Hb := Lib.hid hb; clear hb
  rcases (show m = 0 ∨ m = 1 ∨ m = 2 ∨ m = 3 by omega) with rfl | rfl | rfl | rfl
  all_goals
    go_enter Try.func13, Try.ntmps13
    go_wp2_with fail
    go_quiet (fail)
    go_wp2_with fail
    go_ret2
    exact ⟨ret_two (by simp [Pl.wa]) (by simp [Pl.wb]), Hb.out _ _ _ _ _ _⟩
end Go.Proofs.Ytjeiglckkjkkdaa
