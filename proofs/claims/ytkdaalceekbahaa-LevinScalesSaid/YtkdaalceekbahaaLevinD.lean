/- The walks of what coefficients leave of a number. -/
import Derived.Test.YtkdaalceekbahaaLevinA
import Derived.Test.YtkdaalceekbahaaLevinQ
namespace Go.Proofs.Ytkdaalceekbahaa
open Go.RowKit
set_option linter.unusedVariables false
theorem getD_get {l : List Int} {k : Nat} {x : Int} (h : l[k]? = some x) : l.getD k 0 = x := by rw [List.getD_eq_getElem?_getD, h]; rfl
set_option maxHeartbeats 800000 in
theorem miss_p (p : Nat) (A C : Option Addr) (n ca m cc B i : Nat) (r c : List Int) (w : World) (hn : r.length = n) (hm : c.length = m) (hi : i = m + 1) (hin : i < n) (hn2 : n ≤ 1000) (hr : Rd w B A r) (hc : Rd w B C c) (fr : Pl.Far31 r) (fc : Pl.Far31 c)
    (h0 : w.cell? ⟨p, 0, none⟩ = some (.slice A n ca)) (h1 : w.cell? ⟨p, 1, none⟩ = some (.slice C m cc)) :
    Calls Try.prog 29 #[.pointer (some ⟨p, 0, none⟩), .int .i64 i] w fun e w' => e = .returned (.int .i64 (Pl.missN r c i m)) ∧ ∃ d, w' = w.drewN d := by
  have HN := Lib.hid hn; have HM := Lib.hid hm
  obtain ⟨bA, oA, r0, rfl, _, hr0, hcr⟩ := hr.at (k := i) (by omega)
  have e0 : Hid (r0 = Pl.missN r c i 0) := (getD_get hr0).symm
  have HI := Lib.hid hi
  have hi9 : (m : Int) + 1 ≤ (i : Int) ∧ (i : Int) ≤ (m : Int) + 1 := by omega
  have HI9 := Lib.hid hi9
  clear hn hm hr0 hi hi9
  go_enter Try.func29, Try.ntmps29
  go_wp2_with fail
  go_loopw [5, 6] (fun a j wr => ∃ k d : Nat, k ≤ m ∧ j = .int .i64 ((k : Int) + 1) ∧ a = .int .i64 (Pl.missN r c i k) ∧ wr = w.drewN d) (fun _ j _ => m + 1 - (intOf j).toNat)
  case atStart => exact ⟨0, 0, by omega, rfl, by rw [← e0.out], rfl⟩
  case round =>
    obtain ⟨k, d, hk, rfl, rfl, rfl⟩ := hrel
    have hi := HI.out
    have hml := Pl.missN_le r c fr fc i k
    by_cases hlt : k < m
    · obtain ⟨bC, oC, x, rfl, _, hx, hcx⟩ := hc.at (k := k) (by rw [HM.out]; exact hlt)
      obtain ⟨bA', oA', y, e2, _, hy, hcy⟩ := hr.at (k := m - k) (by rw [HN.out]; omega)
      injection e2 with e2; injection e2 with e3 e4
      subst e3; subst e4
      have hml2 := Pl.missN_le r c fr fc i (k + 1)
      have hp := Pl.prod31 (fc k) (fr (m - k))
      have ex := getD_get hx
      have ey := getD_get hy
      have es : Pl.missN r c i (k + 1) = Pl.missN r c i k - x * y / 16777216 := by
        simp only [Pl.missN]; rw [show i - (k + 1) = m - k by omega, ex, ey]
      rw [ex, ey] at hp
      rw [es] at hml2
      have ES := Lib.hid es
      clear hx hy ex ey es
      generalize hM : Pl.missN r c i k = M at *
      have hki : (k : Int) + 1 < (i : Int) := by omega
      have w1 : IntKind.i64.wrap ((k : Int) + 1 - 1) = (k : Int) := by rw [show (k : Int) + 1 - 1 = k by omega]; exact IntWalk.i64_in _ (by omega)
      have w1b : IntKind.i64.wrap (k : Int) = (k : Int) := IntWalk.i64_in _ (by omega)
      have w2 : IntKind.i64.wrap ((i : Int) - ((k : Int) + 1)) = ((m - k : Nat) : Int) := by rw [show (i : Int) - ((k : Int) + 1) = ((m - k : Nat) : Int) by omega]; exact IntWalk.i64_in _ (by omega)
      have w3 : IntKind.i64.wrap (x * y) = x * y := IntWalk.i64_in _ (by omega)
      have w4 : IntKind.i64.wrap (M - x * y / 16777216) = M - x * y / 16777216 := IntWalk.i64_in _ (by omega)
      have hmk : m - k < n := by omega
      clear hi
      go_wp2_with fail
      go_quiet (fail)
      go_wp2_with fail
      go_roundw
      case rel => exact ⟨k + 1, _, by omega, by go_num, by rw [ES.out], rfl⟩
      case measure => simp [intOf]; omega
    · have ekm : k = m := by omega
      subst ekm
      have hdk : decide ((k : Int) + 1 < (i : Int)) = false := by simp; omega
      clear hi
      go_wp2_with fail
      go_ret
      exact ⟨rfl, _, rfl⟩
theorem floor_q (a b : Int) (ha : -9223372036854775808 ≤ a) (ha' : a ≤ 9223372036854775807) (w : World) : Calls Try.prog 21 #[.int .i64 a, .int .i64 b] w fun e w' => e = .returned (.int .i64 (Pl.floor a b)) ∧ w' = w :=
  (floor_r a b ha ha' w).mono fun _ _ ⟨he, hw⟩ => ⟨he, hw.symm⟩
set_option maxHeartbeats 800000 in
theorem miss_r (A C : Option Addr) (n ca m cc B i : Nat) (r c : List Int) (w : World) (hn : r.length = n) (hm : c.length = m) (hi : i = m + 1) (hin : i < n) (hn2 : n ≤ 1000) (hr : Rd w B A r) (hc : Rd w B C c) (fr : Pl.Far31 r) (fc : Pl.Far31 c) :
    Calls Try.prog 26 #[.slice A n ca, .slice C m cc, .int .i64 i] w fun e w' => e = .returned (.int .i64 (Pl.missN r c i m)) ∧ ∃ d, w' = w.drewN d := by
  have HN := Lib.hid hn; have HM := Lib.hid hm
  obtain ⟨bA, oA, r0, rfl, _, hr0, hcr⟩ := hr.at (k := i) (by omega)
  have e0 : Hid (r0 = Pl.missN r c i 0) := (getD_get hr0).symm
  have HI := Lib.hid hi
  have hi9 : (m : Int) + 1 ≤ (i : Int) ∧ (i : Int) ≤ (m : Int) + 1 := by omega
  have HI9 := Lib.hid hi9
  clear hn hm hr0 hi hi9
  go_enter Try.func26, Try.ntmps26
  go_wp2_with fail
  go_loopw [7, 8] (fun a j wr => ∃ k d : Nat, k ≤ m ∧ j = .int .i64 ((k : Int) + 1) ∧ a = .int .i64 (Pl.missN r c i k) ∧ wr = w.drewN d) (fun _ j _ => m + 1 - (intOf j).toNat)
  case atStart => exact ⟨0, 0, by omega, rfl, by rw [← e0.out], rfl⟩
  case round =>
    obtain ⟨k, d, hk, rfl, rfl, hwr⟩ := hrel
    have hcW : Rd wr B C c := hwr ▸ hc
    have hrW : Rd wr B (some ⟨bA, oA, none⟩) r := hwr ▸ hr
    have HW := Lib.hid hwr
    clear hwr
    have hi := HI.out
    have hml := Pl.missN_le r c fr fc i k
    by_cases hlt : k < m
    · obtain ⟨bC, oC, x, rfl, _, hx, hcx⟩ := hcW.at (k := k) (by rw [HM.out]; exact hlt)
      obtain ⟨bA', oA', y, e2, _, hy, hcy⟩ := hrW.at (k := m - k) (by rw [HN.out]; omega)
      injection e2 with e2; injection e2 with e3 e4
      subst e3; subst e4
      have hml2 := Pl.missN_le r c fr fc i (k + 1)
      have hp := Pl.prod31 (fc k) (fr (m - k))
      have ex := getD_get hx
      have ey := getD_get hy
      have es : Pl.missN r c i (k + 1) = Pl.missN r c i k - x * y / 16777216 := by
        simp only [Pl.missN]; rw [show i - (k + 1) = m - k by omega, ex, ey]
      rw [ex, ey] at hp
      rw [es] at hml2
      have ES := Lib.hid es
      clear hx hy ex ey es
      generalize hM : Pl.missN r c i k = M at *
      have hki : (k : Int) + 1 < (i : Int) := by omega
      have w1 : IntKind.i64.wrap ((k : Int) + 1 - 1) = (k : Int) := by rw [show (k : Int) + 1 - 1 = k by omega]; exact IntWalk.i64_in _ (by omega)
      have w1b : IntKind.i64.wrap (k : Int) = (k : Int) := IntWalk.i64_in _ (by omega)
      have w2 : IntKind.i64.wrap ((i : Int) - ((k : Int) + 1)) = ((m - k : Nat) : Int) := by rw [show (i : Int) - ((k : Int) + 1) = ((m - k : Nat) : Int) by omega]; exact IntWalk.i64_in _ (by omega)
      have w3 : IntKind.i64.wrap (x * y) = x * y := IntWalk.i64_in _ (by omega)
      have w4 : IntKind.i64.wrap (M - x * y / 16777216) = M - x * y / 16777216 := IntWalk.i64_in _ (by omega)
      have HF : Hid (∀ W : World, Calls Try.prog 21 #[.int .i64 (x * y), .int .i64 16777216] W fun e w' => e = .returned (.int .i64 (x * y / 16777216)) ∧ w' = W) := fun W => floor_q (x * y) 16777216 (by omega) (by omega) W
      have hmk : m - k < n := by omega
      clear hi
      go_wp2_with fail
      go_quiet ((go_at_call 21; exact Calls.quiet_of_same (HF.out _)))
      go_wp2_with fail
      go_roundw
      case rel => exact ⟨k + 1, _, by omega, by go_num, by rw [ES.out], by rw [HW.out, World.drewN_drewN]⟩
      case measure => simp [intOf]; omega
    · have ekm : k = m := by omega
      subst ekm
      have hdk : decide ((k : Int) + 1 < (i : Int)) = false := by simp; omega
      clear hi
      go_wp2_with fail
      go_ret
      exact ⟨rfl, _, HW.out⟩
end Go.Proofs.Ytkdaalceekbahaa
