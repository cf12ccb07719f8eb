/- Plain facts: numbers that are all multiplied by one power of 2 have the same norm, and so the same steps. -/
import Derived.Test.YtkdaalceekbahaaLevinQ
namespace Go.Proofs.Ytkdaalceekbahaa.Pl
theorem i64_and15 (n : Int) : bits .and .i64 n 15 = n % 16 := by
  have h15 : (BitVec.ofInt 64 15).toNat = 2 ^ 4 - 1 := by decide
  have key : (BitVec.ofInt 64 n &&& BitVec.ofInt 64 15).toNat = (n % ((2 ^ 64 : Nat) : Int)).toNat % 2 ^ 4 := by
    rw [BitVec.toNat_and, BitVec.toNat_ofInt, h15, Nat.and_two_pow_sub_one_eq_mod]
  show IntKind.i64.wrap ((BitVec.ofInt 64 n &&& BitVec.ofInt 64 15).toNat : Nat) = n % 16
  rw [key, IntKind.wrap_i64]
  omega
theorem width_mul {h : Int} (h0 : 0 < h) (b : Nat) (hm : h * pow b ≤ 4611686018427387904) (hb : b ≤ 62) : width (h * pow b) = width h + b := by
  have hp := pow_pos (b : Int)
  have hp1 : 1 ≤ pow (b : Int) := by omega
  have hle : h ≤ h * pow b := by
    have := Int.mul_le_mul_of_nonneg_left hp1 (Int.le_of_lt h0); omega
  have h1 : h ≤ 4611686018427387904 := by omega
  have hw := width_rng h0 h1
  have h0' : 0 < h * pow b := by omega
  have hw' := width_rng h0' hm
  obtain ⟨k, hk⟩ : ∃ k : Nat, (k : Int) = width h - 1 := ⟨(width h - 1).toNat, by omega⟩
  have e := pow_two_nat b hb
  have p2 : (0 : Int) < 2 ^ b := Int.pow_pos (by decide)
  have a1 : (2 : Int) ^ k ≤ h := (wlt h0 h1 k).2 (by omega)
  have a2 : ¬ (2 : Int) ^ (k + 1) ≤ h := fun hc => by have := (wlt h0 h1 (k + 1)).1 hc; omega
  have b1 : (2 : Int) ^ (k + b) ≤ h * pow b := by
    rw [Int.pow_add, e]; exact Int.mul_le_mul_of_nonneg_right a1 (Int.le_of_lt p2)
  have b2 : h * pow b < (2 : Int) ^ (k + 1 + b) := by
    rw [Int.pow_add, e]; exact Int.mul_lt_mul_of_pos_right (by omega) p2
  have c1 := (wlt h0' hm (k + b)).1 b1
  have c2 : ¬ ((k + 1 + b : Nat) : Int) < width (h * pow b) := fun hc => by have := (wlt h0' hm (k + 1 + b)).2 hc; omega
  omega
theorem pow_add' (a b : Nat) (h : a + b ≤ 62) : pow (a : Int) * pow (b : Int) = pow ((a + b : Nat) : Int) := by
  rw [pow_two_nat a (by omega), pow_two_nat b (by omega), pow_two_nat (a + b) h, Int.pow_add]
theorem scale_mul {h : Int} (x : Int) (h0 : 0 < h) (b : Nat) (hm : h * pow b ≤ 4611686018427387904) (hb : b ≤ 30) : scale (h * pow b) (x * pow b) = scale h x := by
  have hw := width_mul h0 b hm (by omega)
  have hp1 : 1 ≤ pow (b : Int) := by have := pow_pos (b : Int); omega
  have hle : h ≤ h * pow b := by
    have := Int.mul_le_mul_of_nonneg_left hp1 (Int.le_of_lt h0); omega
  have hr := width_rng h0 (by omega)
  have hr' := width_rng (by omega) hm
  unfold scale
  rw [hw]
  by_cases c1 : width h + b ≤ 31
  · rw [if_pos c1, if_pos (by omega)]
    obtain ⟨u, hu⟩ : ∃ u : Nat, (u : Int) = 31 - (width h + b) := ⟨(31 - (width h + b)).toNat, by omega⟩
    rw [show 31 - width h = ((b + u : Nat) : Int) by omega, ← hu, Int.mul_assoc, pow_add' b u (by omega)]
  · rw [if_neg c1]
    by_cases c2 : width h ≤ 31
    · rw [if_pos c2]
      obtain ⟨u, hu⟩ : ∃ u : Nat, (u : Int) = 31 - width h := ⟨(31 - width h).toNat, by omega⟩
      obtain ⟨d, hd⟩ : ∃ d : Nat, (d : Int) = width h + b - 31 := ⟨(width h + b - 31).toNat, by omega⟩
      rw [← hd, ← hu]
      have e : pow (b : Int) = pow (u : Int) * pow (d : Int) := by rw [pow_add' u d (by omega)]; congr 1; omega
      rw [e, ← Int.mul_assoc, Int.mul_ediv_cancel _ (by have := pow_pos (d : Int); omega)]
    · rw [if_neg c2]
      obtain ⟨d, hd⟩ : ∃ d : Nat, (d : Int) = width h - 31 := ⟨(width h - 31).toNat, by omega⟩
      rw [show width h + b - 31 = ((d + b : Nat) : Int) by omega, ← hd, ← pow_add' d b (by omega)]
      exact Int.mul_ediv_mul_of_pos_left _ _ (pow_pos _)
/-- the numbers that a law makes of any -/
def base (xs : List Int) : List Int := xs.map (· / 262144)
def times (b : Nat) (xs : List Int) : List Int := (base xs).map (· * pow b)
theorem base_get {xs : List Int} (hx : ∀ x ∈ xs, -9223372036854775808 ≤ x ∧ x ≤ 9223372036854775807) (x : Int) (h : x ∈ base xs) : -35184372088832 ≤ x ∧ x < 35184372088832 := by
  obtain ⟨y, hy, rfl⟩ := List.mem_map.1 h
  have := hx y hy
  show -35184372088832 ≤ y / 262144 ∧ y / 262144 < 35184372088832
  omega
theorem pow15 (b : Nat) (hb : b ≤ 15) : 1 ≤ pow (b : Int) ∧ pow (b : Int) ≤ 32768 := by
  have h1 := pow_pos (b : Int)
  have h2 := pow_mono (a := (b : Int)) (b := 15) (by omega)
  have h3 : pow 15 = 32768 := by decide
  omega
theorem times_le {x : Int} (h : -35184372088832 ≤ x ∧ x < 35184372088832) (b : Nat) (hb : b ≤ 15) : -1152921504606846976 ≤ x * pow b ∧ x * pow b ≤ 1152921504606846976 := by
  have hp := pow15 b hb
  have h1 : x.natAbs ≤ 35184372088832 := by omega
  have h2 : (pow (b : Int)).natAbs ≤ 32768 := by omega
  have h3 := Nat.mul_le_mul h1 h2
  rw [← Int.natAbs_mul] at h3
  omega
theorem norm_times {xs : List Int} (hx : ∀ x ∈ xs, -9223372036854775808 ≤ x ∧ x ≤ 9223372036854775807) (b : Nat) (hb : b ≤ 15) : norm (times b xs) = norm (base xs) := by
  unfold norm
  have hp := pow15 b hb
  rcases hl : base xs with _ | ⟨y, ys⟩
  · unfold times; rw [hl]; rfl
  · have hm : times b xs = (y * pow b) :: ys.map (· * pow b) := by unfold times; rw [hl]; rfl
    rw [hm]
    simp only [List.getD_cons_zero]
    have hy := base_get hx y (by rw [hl]; exact List.mem_cons_self)
    by_cases h0 : y ≤ 0
    · rw [if_pos h0, if_pos (Int.mul_nonpos_of_nonpos_of_nonneg h0 (by omega))]
    · have h0' : 0 < y * pow b := Int.mul_pos (by omega) (by omega)
      rw [if_neg h0, if_neg (by omega)]
      have ty := times_le hy b hb
      rw [hold_in y (by omega) (by omega), hold_in (y * pow b) (by omega) (by omega)]
      have key : ∀ z, (-35184372088832 ≤ z ∧ z < 35184372088832) → nrm (y * pow b) (z * pow b) = nrm y z := by
        intro z hz
        have tz := times_le hz b hb
        unfold nrm top
        rw [hold_in z (by omega) (by omega), hold_in (z * pow b) (by omega) (by omega), scale_mul z (by omega) b (by omega) (by omega), scale_mul y (by omega) b (by omega) (by omega)]
      have e : (y * pow b) :: ys.map (· * pow b) = (y :: ys).map (· * pow b) := rfl
      rw [e, List.map_map]
      apply List.map_congr_left
      intro z hz
      exact key z (base_get hx z (by rw [hl]; exact hz))
theorem solve_times {xs : List Int} (hx : ∀ x ∈ xs, -9223372036854775808 ≤ x ∧ x ≤ 9223372036854775807) (b : Nat) (hb : b ≤ 15) (order : Int) : solve (times b xs) order = solve (base xs) order := by
  unfold solve; rw [norm_times hx b hb]
end Go.Proofs.Ytkdaalceekbahaa.Pl
