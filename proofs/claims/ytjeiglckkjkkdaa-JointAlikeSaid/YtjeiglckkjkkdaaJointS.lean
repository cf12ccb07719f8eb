/- The walks of differences, and of how rough a list is. -/
import Derived.Test.YtjeiglckkjkkdaaJointA
import Derived.Test.YtjeiglckkjkkdaaJointR
import Derived.Test.YtjeiglckkjkkdaaShelf
import Derived.Deep.RegionHeld3
import Derived.Deep.RegionWith
namespace Go.Proofs.Ytjeiglckkjkkdaa
open Go.RowKit
set_option linter.unusedVariables false
theorem below_next' {B : Nat} {a b c : World} (h : Below B a b) (hB : B ≤ b.heap.size) (k : Below b.heap.size b c) : Below B a c := h.trans (k.mono hB)
theorem hold_hi {x : Int} (h : 4611686018427387904 < x) : 4611686018427387904 = Pl.hold x := by unfold Pl.hold; rw [if_neg (by omega), if_pos h]
theorem hold_lo {x : Int} (h : x < -4611686018427387904) : -4611686018427387904 = Pl.hold x := by unfold Pl.hold; rw [if_pos h]
set_option maxHeartbeats 400000 in
theorem add_p (a b : Int) (w : World) : Calls Try.prog 33 #[.int .i64 a, .int .i64 b] w fun e w' => e = .returned (.int .i64 (Pl.add a b)) ∧ w = w' := by
  have h1 := Pl.hold_le a
  have h2 := Pl.hold_le b
  by_cases hp : 0 < Pl.hold b
  · by_cases hc : 4611686018427387904 - Pl.hold b < Pl.hold a
    · go_enter Try.func33, Try.ntmps33
      go_wp2_with (go_at_call 32; refine (hold_p _ _).mono ?_; rintro e w' ⟨rfl, rfl⟩)
      go_ret
      exact ⟨ret_int (hold_hi (by omega)), rfl⟩
    · have hd : decide (4611686018427387904 - Pl.hold b < Pl.hold a) = false := by simpa using hc
      have hd2 : decide (Pl.hold b < 0) = false := by simp; omega
      go_enter Try.func33, Try.ntmps33
      go_wp2_with (go_at_call 32; refine (hold_p _ _).mono ?_; rintro e w' ⟨rfl, rfl⟩)
      go_ret
      exact ⟨ret_int (Pl.hold_in _ (by omega) (by omega)).symm, rfl⟩
  · have hd0 : decide (0 < Pl.hold b) = false := by simpa using hp
    by_cases hn : Pl.hold b < 0
    · by_cases hc : Pl.hold a < -4611686018427387904 - Pl.hold b
      · go_enter Try.func33, Try.ntmps33
        go_wp2_with (go_at_call 32; refine (hold_p _ _).mono ?_; rintro e w' ⟨rfl, rfl⟩)
        go_ret
        exact ⟨ret_int (hold_lo (by omega)), rfl⟩
      · have hd : decide (Pl.hold a < -4611686018427387904 - Pl.hold b) = false := by simpa using hc
        go_enter Try.func33, Try.ntmps33
        go_wp2_with (go_at_call 32; refine (hold_p _ _).mono ?_; rintro e w' ⟨rfl, rfl⟩)
        go_ret
        exact ⟨ret_int (Pl.hold_in _ (by omega) (by omega)).symm, rfl⟩
    · have hd : decide (Pl.hold b < 0) = false := by simpa using hn
      go_enter Try.func33, Try.ntmps33
      go_wp2_with (go_at_call 32; refine (hold_p _ _).mono ?_; rintro e w' ⟨rfl, rfl⟩)
      go_ret
      exact ⟨ret_int (Pl.hold_in _ (by omega) (by omega)).symm, rfl⟩
/-- the library's Clone, at a slice of ints that reads as a list -/
theorem clone_any (A : Option Addr) (n c B : Nat) (xs : List Int) (w : World) (hn : xs.length = n) (hn2 : n ≤ 1000000) (hx : Rd w B A xs) :
    Calls Try.prog 42 #[.slice A n c] w fun e w' => (∃ A' c', e = .returned (.slice A' n c') ∧ Own w' w.heap.size A' n c' xs) ∧ Below w.heap.size w w' := by
  rcases A with _ | ad
  · have h0 : n = 0 := by
      rcases Nat.eq_zero_or_pos n with h | h
      · exact h
      · obtain ⟨b, off, x, e, _⟩ := hx.at (k := 0) (by omega)
        cases e
    subst h0
    have hxs : xs = [] := List.eq_nil_of_length_eq_zero hn
    subst hxs
    refine (Try.slices_Clone_int_nil 0 c w).mono ?_
    rintro e w' ⟨rfl, hw⟩
    subst hw
    exact ⟨⟨none, 0, rfl, Own.nil _ _⟩, Below.refl _ _⟩
  · rcases Nat.eq_zero_or_pos n with h | h
    · subst h
      have hxs : xs = [] := List.eq_nil_of_length_eq_zero hn
      subst hxs
      refine (Try.slices_Clone_int_zero ad c w).mono ?_
      rintro e w' ⟨v', rfl, ho, hne, hb⟩
      rcases ho.2 with ⟨e1, _⟩ | ⟨g, cap, cur, rfl, _⟩
      · exact absurd e1 hne
      · exact ⟨⟨some ⟨g, 0, none⟩, cap, rfl, rfl, ho⟩, hb⟩
    · obtain ⟨b, off, x, e, _⟩ := hx.at (k := 0) (by omega)
      injection e with e
      subst e
      have hc : ∀ j, j < xs.length → w.cell? ⟨b, off + j, none⟩ = some (.int .i64 (xs.getD j 0)) := by
        intro j hj
        obtain ⟨b2, o2, y, e2, _, hy, hcy⟩ := hx.at hj
        injection e2 with e2; injection e2 with e3 e4
        subst e3; subst e4
        rw [List.getD_eq_getElem?_getD, hy]; exact hcy
      refine (Try.slices_Clone_int b off n c xs w (by omega) (by omega) hc).mono ?_
      rintro e w' ⟨v', rfl, ho, hne, hb⟩
      rw [List.take_of_length_le (by omega)] at ho
      rcases ho.2 with ⟨e1, _⟩ | ⟨g, cap, cur, rfl, _⟩
      · exact absurd e1 hne
      · exact ⟨⟨some ⟨g, 0, none⟩, cap, rfl, hn, ho⟩, hb⟩
theorem Own.at {w : World} {base : Nat} {A : Option Addr} {n c : Nat} {xs : List Int} (h : Own w base A n c xs) {k : Nat} (hk : k < n) : ∃ g x, A = some ⟨g, 0, none⟩ ∧ base ≤ g ∧ xs[k]? = some x ∧ w.cell? ⟨g, k, none⟩ = some (.int .i64 x) ∧ (∀ j, w.frozen? ⟨g, j, none⟩ = false) := by
  obtain ⟨b, off, x, e, _, hx, hc⟩ := h.rd.at (k := k) (by rw [h.1]; exact hk)
  rcases h.2.2 with ⟨e1, _⟩ | ⟨g, cap, cur, e1, hb, hh, _⟩
  · injection e1 with e1 e2; omega
  · injection e1 with e1
    rw [e1] at e
    injection e with e; injection e with e2 e3
    subst e2; subst e3
    rw [Nat.zero_add] at hc
    exact ⟨g, x, e1, hb, hx, hc, fun j => by simp [World.frozen?, hh]⟩
theorem Own.put {w : World} {base g : Nat} {n c : Nat} {xs : List Int} (h : Own w base (some ⟨g, 0, none⟩) n c xs) (k : Nat) (y : Int) : Own (w.setCell ⟨g, k, none⟩ (.int .i64 y)) base (some ⟨g, 0, none⟩) n c (xs.set k y) := by
  refine ⟨by rw [List.length_set]; exact h.1, ?_⟩
  have := (h.2.stored k (.int .i64 y)).1
  rwa [← List.map_set] at this
end Go.Proofs.Ytjeiglckkjkkdaa
