/- Whole numbers that stop at an end, as plain functions on Int, and what is true of them: no Go in sight. -/
import Derived.Laws.BitsAllLaws
import Derived.Laws.BitsLemmas
import Derived.WalkSmall
import Derived.Lib.BitFns
import Derived.RowKit
namespace Go.Proofs.Ytkdaalceekbahaa.Pl
open Go
set_option linter.unusedVariables false
def hold (x : Int) : Int := if x < -4611686018427387904 then -4611686018427387904 else if 4611686018427387904 < x then 4611686018427387904 else x
def add (a b : Int) : Int := hold (hold a + hold b)
def mul (a b : Int) : Int := hold (hold a * hold b)
def floor (a b : Int) : Int := if b < 1 then 0 else a / b
def mod (a b : Int) : Int := if b < 1 then 0 else a % b
def clamp (x lo hi : Int) : Int := if x < lo ∨ hi < lo then lo else if hi < x then hi else x
def pow (n : Int) : Int := 2 ^ (min n 62).toNat
def round (a n : Int) : Int := if n < 1 then hold a else if pow n / 2 ≤ hold a % pow n then hold a / pow n + 1 else hold a / pow n
def lo (n : Int) : Int := if n < 1 ∨ 62 < n then 0 else -pow (n - 1)
def hi (n : Int) : Int := if n < 1 ∨ 62 < n then 0 else pow (n - 1) - 1
def fits (x n : Int) : Bool := decide (1 ≤ n ∧ n ≤ 62 ∧ -pow (n - 1) ≤ x ∧ x ≤ pow (n - 1) - 1)
def zig (x : Int) : Int := if 0 ≤ x then 2 * x else -2 * x - 1
def zag (u : Int) : Int := if u % 2 = 0 then u / 2 else -(u / 2) - 1

theorem hold_le (x : Int) : -4611686018427387904 ≤ hold x ∧ hold x ≤ 4611686018427387904 := by
  unfold hold; split
  · omega
  · split <;> omega
theorem hold_in (x : Int) (h1 : -4611686018427387904 ≤ x) (h2 : x ≤ 4611686018427387904) : hold x = x := by
  unfold hold; rw [if_neg (by omega), if_neg (by omega)]
theorem hold_hold (x : Int) : hold (hold x) = hold x := by
  have := hold_le x; exact hold_in _ this.1 this.2
theorem hold_mono {x y : Int} (h : x ≤ y) : hold x ≤ hold y := by
  unfold hold; repeat' split
  all_goals omega
theorem hold_neg (x : Int) : hold (-x) = -hold x := by
  unfold hold; repeat' split
  all_goals omega
theorem add_le (a b : Int) : -4611686018427387904 ≤ add a b ∧ add a b ≤ 4611686018427387904 := hold_le _
theorem mul_le (a b : Int) : -4611686018427387904 ≤ mul a b ∧ mul a b ≤ 4611686018427387904 := hold_le _
theorem pow_pos (n : Int) : 0 < pow n := Int.pow_pos (by decide)
theorem pow_one {n : Int} (h : n ≤ 0) : pow n = 1 := by unfold pow; rw [show (min n 62).toNat = 0 by omega]; rfl
theorem pow_succ (n : Int) (h0 : 0 ≤ n) (h : n < 62) : pow (n + 1) = 2 * pow n := by
  unfold pow
  rw [show (min (n + 1) 62).toNat = (min n 62).toNat + 1 by omega, Int.pow_succ]; omega
theorem pow_top {n : Int} (h : 62 ≤ n) : pow n = 4611686018427387904 := by
  unfold pow; rw [show (min n 62).toNat = 62 by omega]; rfl
theorem pow_mono {a b : Int} (h : a ≤ b) : pow a ≤ pow b := by
  unfold pow
  have h2 : (min a 62).toNat ≤ (min b 62).toNat := by omega
  obtain ⟨k, hk⟩ := Nat.le.dest h2
  rw [← hk, Int.pow_add]
  have h3 : (0:Int) < 2 ^ (min a 62).toNat := Int.pow_pos (by decide)
  have h4 : (0:Int) < 2 ^ k := Int.pow_pos (by decide)
  have : (2:Int) ^ (min a 62).toNat * 1 ≤ 2 ^ (min a 62).toNat * 2 ^ k := Int.mul_le_mul_of_nonneg_left (by omega) (by omega)
  omega
theorem pow_le (n : Int) : 1 ≤ pow n ∧ pow n ≤ 4611686018427387904 := by
  have h1 := pow_pos n
  refine ⟨by omega, ?_⟩
  by_cases h : n ≤ 62
  · have := pow_mono h; rwa [pow_top (Int.le_refl 62)] at this
  · rw [pow_top (by omega)]; omega
theorem pow_two {n : Int} (h0 : 1 ≤ n) (h : n ≤ 62) : pow n = 2 * pow (n - 1) := by
  have := pow_succ (n - 1) (by omega) (by omega)
  rwa [show n - 1 + 1 = n by omega] at this
theorem clamp_le (x l h : Int) (hlh : l ≤ h) : l ≤ clamp x l h ∧ clamp x l h ≤ h := by
  unfold clamp; split
  · omega
  · split <;> omega
theorem clamp_in (x l h : Int) (h1 : l ≤ x) (h2 : x ≤ h) : clamp x l h = x := by
  unfold clamp; rw [if_neg (by omega), if_neg (by omega)]
/-- a number halved n - 1 times, and once more: its last bit is the half -/
theorem half_law (a q : Int) (hq : 0 < q) : a / q / 2 + a / q % 2 = if q ≤ a % (2 * q) then a / (2 * q) + 1 else a / (2 * q) := by
  have e1 : a / q / 2 = a / (2 * q) := by rw [Int.ediv_ediv_of_nonneg (by omega), Int.mul_comm]
  have e2 : a % (2 * q) = a % q + q * (a / q % 2) := by
    have g1 := Int.emod_def a (2 * q)
    have g2 := Int.emod_def a q
    have g3 := Int.emod_def (a / q) 2
    have g4 : 2 * q * (a / (2 * q)) = q * (2 * (a / q / 2)) := by rw [e1, Int.mul_comm 2 q, Int.mul_assoc]
    have g5 : q * (a / q % 2) = q * (a / q) - q * (2 * (a / q / 2)) := by rw [g3, Int.mul_sub]
    omega
  have h1 := Int.emod_nonneg a (show q ≠ 0 by omega)
  have h2 := Int.emod_lt_of_pos a hq
  rw [e1, e2]
  rcases (show a / q % 2 = 0 ∨ a / q % 2 = 1 by omega) with h | h
  · rw [h, if_neg (by omega)]; omega
  · rw [h, if_pos (by omega)]
theorem round_shift (a n : Int) (h1 : 1 ≤ n) (h2 : n ≤ 62) : round a n = hold a / pow (n - 1) / 2 + hold a / pow (n - 1) % 2 := by
  rw [half_law _ _ (pow_pos _), ← pow_two h1 h2]
  unfold round
  rw [if_neg (by omega), show pow n / 2 = pow (n - 1) by rw [pow_two h1 h2]; omega]
theorem round_clamp (a n : Int) (h : 62 < n) : round a n = round a 62 := by
  have e1 : pow n = 4611686018427387904 := pow_top (by omega)
  have e2 : pow 62 = 4611686018427387904 := pow_top (by omega)
  have e3 : ¬ n < 1 := by omega
  unfold round; simp only [e1, e2, if_neg e3]; rfl
theorem i64_and1 (n : Int) : bits .and .i64 n 1 = n % 2 := by
  have h127 : (BitVec.ofInt 64 1).toNat = 2 ^ 1 - 1 := by decide
  have key : (BitVec.ofInt 64 n &&& BitVec.ofInt 64 1).toNat = (n % ((2 ^ 64 : Nat) : Int)).toNat % 2 ^ 1 := by
    rw [BitVec.toNat_and, BitVec.toNat_ofInt, h127, Nat.and_two_pow_sub_one_eq_mod]
  show IntKind.i64.wrap ((BitVec.ofInt 64 n &&& BitVec.ofInt 64 1).toNat : Nat) = n % 2
  rw [key, IntKind.wrap_i64]
  omega
theorem i64_xor_m1 (n : Int) (h1 : -9223372036854775808 ≤ n) (h2 : n ≤ 9223372036854775807) : bits .xor .i64 (-1) n = -1 - n := by
  show IntKind.i64.wrap ((BitVec.ofInt 64 (-1) ^^^ BitVec.ofInt 64 n).toNat : Int) = _
  have e1 : BitVec.ofInt 64 (-1) = BitVec.allOnes 64 := by decide
  have e2 : (BitVec.ofInt 64 n).toNat = (n % ((2 ^ 64 : Nat) : Int)).toNat := BitVec.toNat_ofInt ..
  rw [e1, BitVec.allOnes_xor, BitVec.toNat_not, e2, IntKind.wrap_i64]
  omega
theorem xor_comm (k : IntKind) (a b : Int) : bits .xor k a b = bits .xor k b a := by simp only [bits, BitVec.xor_comm]
theorem i64_xor_0 (n : Int) (h1 : -9223372036854775808 ≤ n) (h2 : n ≤ 9223372036854775807) : bits .xor .i64 n 0 = n := by
  show IntKind.i64.wrap ((BitVec.ofInt 64 n ^^^ BitVec.ofInt 64 0).toNat : Int) = _
  have e1 : BitVec.ofInt 64 0 = 0#64 := by decide
  have e2 : (BitVec.ofInt 64 n).toNat = (n % ((2 ^ 64 : Nat) : Int)).toNat := BitVec.toNat_ofInt ..
  rw [e1, BitVec.xor_zero, e2, IntKind.wrap_i64]
  omega
theorem u64_xor_0 (n : Int) (h1 : 0 ≤ n) (h2 : n < 18446744073709551616) : bits .xor .u64 n 0 = n := by
  show IntKind.u64.wrap ((BitVec.ofInt 64 n ^^^ BitVec.ofInt 64 0).toNat : Int) = _
  have e1 : BitVec.ofInt 64 0 = 0#64 := by decide
  have e2 : (BitVec.ofInt 64 n).toNat = (n % ((2 ^ 64 : Nat) : Int)).toNat := BitVec.toNat_ofInt ..
  rw [e1, BitVec.xor_zero, e2, IntKind.wrap_u64]
  omega
theorem u64_xor_ones (n : Int) (h1 : 0 ≤ n) (h2 : n < 18446744073709551616) : bits .xor .u64 n 18446744073709551615 = 18446744073709551615 - n := by
  show IntKind.u64.wrap ((BitVec.ofInt 64 n ^^^ BitVec.ofInt 64 18446744073709551615).toNat : Int) = _
  have e1 : BitVec.ofInt 64 18446744073709551615 = BitVec.allOnes 64 := by decide
  have e2 : (BitVec.ofInt 64 n).toNat = (n % ((2 ^ 64 : Nat) : Int)).toNat := BitVec.toNat_ofInt ..
  rw [e1, BitVec.xor_allOnes, BitVec.toNat_not, e2, IntKind.wrap_u64]
  omega
theorem zig_bits (x : Int) (h1 : -9223372036854775808 ≤ x) (h2 : x ≤ 9223372036854775807) :
    bits .xor .u64 (IntKind.u64.wrap (IntKind.u64.wrap x * 2)) (IntKind.u64.wrap (x / 9223372036854775808)) = zig x := by
  rw [IntKind.wrap_u64, IntKind.wrap_u64, IntKind.wrap_u64]
  by_cases h : 0 ≤ x
  · rw [show x / 9223372036854775808 % 18446744073709551616 = 0 by omega, u64_xor_0 _ (by omega) (by omega)]
    unfold zig; rw [if_pos h]; omega
  · rw [show x / 9223372036854775808 % 18446744073709551616 = 18446744073709551615 by omega, u64_xor_ones _ (by omega) (by omega)]
    unfold zig; rw [if_neg h]; omega
theorem zag_bits (u : Int) (h1 : 0 ≤ u) (h2 : u < 18446744073709551616) :
    bits .xor .i64 (u / 2) (-(u % 2)) = zag u := by
  rcases (show u % 2 = 0 ∨ u % 2 = 1 by omega) with h | h
  · rw [h, show -(0:Int) = 0 by omega, i64_xor_0 _ (by omega) (by omega)]; unfold zag; rw [if_pos h]
  · rw [h, xor_comm, i64_xor_m1 _ (by omega) (by omega)]; unfold zag; rw [if_neg (by omega)]; omega

/-! ### products -/
theorem abs_mul (a b : Int) : (a.natAbs : Int) * (b.natAbs : Int) = if (a < 0 ∧ 0 < b) ∨ (0 < a ∧ b < 0) then -(a * b) else a * b := by
  rcases Int.natAbs_eq a with ha | ha <;> rcases Int.natAbs_eq b with hb | hb
  · have h1 : 0 ≤ a := by omega
    have h2 : 0 ≤ b := by omega
    rw [if_neg (by omega), ← ha, ← hb]
  · by_cases h : 0 < a ∧ b < 0
    · rw [if_pos (.inr h)]
      have : (b.natAbs : Int) = -b := by omega
      rw [← ha, this, Int.mul_neg]
    · have : a = 0 ∨ b = 0 := by omega
      rcases this with h | h <;> subst h <;> simp
  · by_cases h : a < 0 ∧ 0 < b
    · rw [if_pos (.inl h)]
      have : (a.natAbs : Int) = -a := by omega
      rw [← hb, this, Int.neg_mul]
    · have : a = 0 ∨ b = 0 := by omega
      rcases this with h | h <;> subst h <;> simp
  · rw [if_neg (by omega)]
    have h1 : (a.natAbs : Int) = -a := by omega
    have h2 : (b.natAbs : Int) = -b := by omega
    rw [h1, h2, Int.neg_mul_neg]
theorem mul_sign (a b : Int) (h : (a < 0 ∧ 0 < b) ∨ (0 < a ∧ b < 0)) : a * b < 0 := by
  rcases h with ⟨h1, h2⟩ | ⟨h1, h2⟩
  · exact Int.mul_neg_of_neg_of_pos h1 h2
  · exact Int.mul_neg_of_pos_of_neg h1 h2
theorem mul_sign' (a b : Int) (h : ¬ ((a < 0 ∧ 0 < b) ∨ (0 < a ∧ b < 0))) : 0 ≤ a * b := by
  have := abs_mul a b
  rw [if_neg h] at this
  rw [← this, ← Int.natCast_mul]; omega
/-! ### widths -/
theorem bitLen_lt (x : Nat) (h : x < 2 ^ 64) : x < 2 ^ Lib.bitLen x := by
  have key : ∀ f x : Nat, x < 2 ^ f → x < 2 ^ Lib.bitLenAux f x := by
    intro f
    induction f with
    | zero => intro x hx; simpa [Lib.bitLenAux] using hx
    | succ f ih =>
      intro x hx
      simp only [Lib.bitLenAux]
      split
      · subst_vars; simp
      · have := ih (x / 2) (by rw [Nat.pow_succ] at hx; omega)
        rw [Nat.add_comm, Nat.pow_succ]; omega
  exact key 64 x h
theorem le_bitLen (x : Nat) (h : x < 2 ^ 64) (h0 : x ≠ 0) : 2 ^ (Lib.bitLen x - 1) ≤ x := by
  have key : ∀ f x : Nat, x < 2 ^ f → x ≠ 0 → 2 ^ (Lib.bitLenAux f x - 1) ≤ x := by
    intro f
    induction f with
    | zero => intro x hx h0; simp at hx; omega
    | succ f ih =>
      intro x hx h0
      simp only [Lib.bitLenAux]
      rw [if_neg h0]
      by_cases h2 : x / 2 = 0
      · rw [h2]; cases f <;> simp [Lib.bitLenAux] <;> omega
      · have := ih (x / 2) (by rw [Nat.pow_succ] at hx; omega) h2
        have h3 : 0 < Lib.bitLenAux f (x / 2) := by
          cases f with
          | zero => simp at hx; omega
          | succ f => simp only [Lib.bitLenAux]; rw [if_neg h2]; omega
        rw [show 1 + Lib.bitLenAux f (x / 2) - 1 = (Lib.bitLenAux f (x / 2) - 1) + 1 by omega, Nat.pow_succ]
        omega
  exact key 64 x h h0
theorem bitLen_le (x : Nat) : Lib.bitLen x ≤ 64 := by
  have key : ∀ f x : Nat, Lib.bitLenAux f x ≤ f := by
    intro f
    induction f with
    | zero => intro x; simp [Lib.bitLenAux]
    | succ f ih => intro x; simp only [Lib.bitLenAux]; split; omega; have := ih (x / 2); omega
  exact key 64 x
theorem bitLen_zero : Lib.bitLen 0 = 0 := by decide
theorem bitLen_pos (x : Nat) (h0 : x ≠ 0) : 0 < Lib.bitLen x := by
  unfold Lib.bitLen; rw [show (64:Nat) = 63 + 1 from rfl, Lib.bitLenAux, if_neg h0]; omega
def width (u : Int) : Int := (Lib.bitLen u.toNat : Nat)
theorem width_le (u : Int) : 0 ≤ width u ∧ width u ≤ 64 := by
  have := bitLen_le u.toNat; unfold width; omega
def need (x : Int) : Int := width (if x < 0 then -1 - x else x) + 1
theorem need_le (x : Int) : 1 ≤ need x ∧ need x ≤ 65 := by
  have := width_le (if x < 0 then -1 - x else x); unfold need; omega
theorem pow_nat (k : Nat) (h : k ≤ 62) : pow (k : Int) = ((2 ^ k : Nat) : Int) := by
  unfold pow; rw [show (min (k : Int) 62).toNat = k by omega]; simp
theorem width_zero : width 0 = 0 := by decide
theorem width_half (u : Int) (h0 : 0 < u) (h1 : u < 18446744073709551616) : width u = 1 + width (u / 2) := by
  unfold width
  have := Lib.bitLen_half u.toNat (by omega) (by omega)
  rw [this, show u.toNat / 2 = (u / 2).toNat by omega]; omega
theorem need_fits (x : Int) (h1 : -9223372036854775808 ≤ x) (h2 : x ≤ 9223372036854775807) (h : need x ≤ 62) : fits x (need x) = true := by
  have e0 : ∃ y : Nat, (if x < 0 then -1 - x else x) = (y : Int) ∧ y < 2 ^ 63 := by
    split
    · exact ⟨(-1 - x).toNat, by omega, by omega⟩
    · exact ⟨x.toNat, by omega, by omega⟩
  obtain ⟨y, hy, hy2⟩ := e0
  have hn : need x = (Lib.bitLen y : Int) + 1 := by unfold need width; rw [hy]; simp
  have hl := bitLen_lt y (by omega)
  rw [hn] at h
  have hp := pow_nat (Lib.bitLen y) (by omega)
  unfold fits
  rw [hn]
  simp only [show ((Lib.bitLen y : Int) + 1 - 1) = (Lib.bitLen y : Int) by omega, hp, decide_eq_true_eq]
  split at hy <;> omega
theorem need_least (x : Int) (h1 : -9223372036854775808 ≤ x) (h2 : x ≤ 9223372036854775807) (h : need x ≤ 62) : fits x (need x - 1) = false := by
  have e0 : ∃ y : Nat, (if x < 0 then -1 - x else x) = (y : Int) ∧ y < 2 ^ 63 := by
    split
    · exact ⟨(-1 - x).toNat, by omega, by omega⟩
    · exact ⟨x.toNat, by omega, by omega⟩
  obtain ⟨y, hy, hy2⟩ := e0
  have hn : need x = (Lib.bitLen y : Int) + 1 := by unfold need width; rw [hy]; simp
  rw [hn] at h
  rw [hn]
  unfold fits
  by_cases h0 : y = 0
  · subst h0; rw [bitLen_zero]; simp
  · have hl := le_bitLen y (by omega) h0
    have hp0 := bitLen_pos y h0
    have hp := pow_nat (Lib.bitLen y - 1) (by omega)
    rw [show (((Lib.bitLen y - 1 : Nat)) : Int) = (Lib.bitLen y : Int) + 1 - 1 - 1 by omega] at hp
    rw [hp]
    rw [decide_eq_false_iff_not]
    split at hy <;> omega
/-! ### roots -/
def IsRoot (n r : Int) : Prop := (n ≤ 0 ∧ r = 0) ∨ (0 < n ∧ 0 ≤ r ∧ r * r ≤ n ∧ n < (r + 1) * (r + 1))
theorem sq_le {a b : Int} (h0 : 0 ≤ a) (h : a ≤ b) : a * a ≤ b * b := Int.mul_le_mul h h h0 (by omega)
theorem isRoot_eq {n r s : Int} (h1 : IsRoot n r) (h2 : IsRoot n s) : r = s := by
  rcases h1 with ⟨_, h1⟩ | ⟨a0, a1, a2, a3⟩ <;> rcases h2 with ⟨_, h2⟩ | ⟨b0, b1, b2, b3⟩
  · rw [h1, h2]
  · omega
  · omega
  · rcases Int.lt_trichotomy r s with h | h | h
    · have := sq_le (by omega) (show r + 1 ≤ s by omega); omega
    · exact h
    · have := sq_le (by omega) (show s + 1 ≤ r by omega); omega
/-- the program's way: bit by bit -/
def RootInv (n k r : Int) : Prop := ∃ m : Nat, r = m * pow (k + 1) ∧ r * r ≤ n ∧ n < (r + pow (k + 1)) * (r + pow (k + 1))
theorem rootInv_start (n : Int) (h0 : 0 < n) (h : n ≤ 9223372036854775807) : RootInv n ((width n - 1) / 2) 0 ∧ 0 ≤ (width n - 1) / 2 ∧ (width n - 1) / 2 ≤ 31 := by
  obtain ⟨y, rfl⟩ := Int.eq_ofNat_of_zero_le (show 0 ≤ n by omega)
  have hl := bitLen_lt y (by omega)
  have hp := bitLen_pos y (by omega)
  have hb : Lib.bitLen y ≤ 63 := by
    have h2 := le_bitLen y (by omega) (by omega)
    rcases Nat.lt_or_ge (Lib.bitLen y) 64 with h3 | h3
    · omega
    · have : 2 ^ 63 ≤ 2 ^ (Lib.bitLen y - 1) := Nat.pow_le_pow_right (by decide) (by omega)
      omega
  have hw : width (y : Int) = Lib.bitLen y := by unfold width; simp
  rw [hw]
  refine ⟨⟨0, by simp, by simp, ?_⟩, by omega, by omega⟩
  obtain ⟨c, hc⟩ : ∃ c : Nat, ((Lib.bitLen y : Int) - 1) / 2 + 1 = (c : Int) ∧ Lib.bitLen y ≤ 2 * c ∧ c ≤ 62 := ⟨(Lib.bitLen y - 1) / 2 + 1, by omega, by omega, by omega⟩
  rw [hc.1, pow_nat c hc.2.2]
  have h4 : 2 ^ Lib.bitLen y ≤ 2 ^ (2 * c) := Nat.pow_le_pow_right (by decide) hc.2.1
  have h5 : 2 ^ (2 * c) = 2 ^ c * 2 ^ c := by rw [← Nat.pow_add]; congr 1; omega
  simp only [Int.zero_add]
  rw [← Int.natCast_mul]
  omega
theorem rootInv_end (n r : Int) (h0 : 0 < n) (hr : 0 ≤ r) (h : RootInv n (-1) r) : IsRoot n r := by
  obtain ⟨m, h1, h2, h3⟩ := h
  rw [show (-1 : Int) + 1 = 0 by omega, pow_one (by omega)] at h3
  exact .inr ⟨h0, hr, h2, h3⟩
theorem rootInv_no (n k r : Int) (hk : 0 ≤ k) (hk2 : k ≤ 31) (h : RootInv n k r) (ht : n < (r + pow k) * (r + pow k)) : RootInv n (k - 1) r := by
  obtain ⟨m, h1, h2, h3⟩ := h
  have := pow_succ k hk (by omega)
  refine ⟨2 * m, ?_, h2, by rw [show k - 1 + 1 = k by omega]; exact ht⟩
  rw [show k - 1 + 1 = k by omega, h1, this]
  rw [show ((2 * m : Nat) : Int) = 2 * m by omega, Int.mul_comm 2 (m : Int), Int.mul_assoc]
theorem rootInv_yes (n k r : Int) (hk : 0 ≤ k) (hk2 : k ≤ 31) (h : RootInv n k r) (ht : (r + pow k) * (r + pow k) ≤ n) : RootInv n (k - 1) (r + pow k) := by
  obtain ⟨m, h1, h2, h3⟩ := h
  have := pow_succ k hk (by omega)
  refine ⟨2 * m + 1, ?_, ht, ?_⟩
  · rw [show k - 1 + 1 = k by omega, h1, this]
    rw [show ((2 * m + 1 : Nat) : Int) = 2 * m + 1 by omega, Int.add_mul, Int.one_mul, Int.mul_comm 2 (m : Int), Int.mul_assoc]
  · rw [show k - 1 + 1 = k by omega]
    rw [this] at h3
    rwa [show r + pow k + pow k = r + 2 * pow k by omega]
theorem root_small (n r : Int) (hr : 0 ≤ r) (h : r * r ≤ n) (hn : n ≤ 9223372036854775807) : r ≤ 3037000499 := by
  rcases Int.lt_or_le r 3037000500 with h1 | h1
  · omega
  · have := sq_le (by omega) h1; omega
theorem i64_or (a b : Nat) (ha : a < 9223372036854775808) (hb : b < 9223372036854775808) : bits .or .i64 (a : Int) (b : Int) = ((a ||| b : Nat) : Int) := by
  have hx : a ||| b < 2 ^ 63 := Nat.or_lt_two_pow (by omega) (by omega)
  show IntKind.i64.wrap ((BitVec.ofInt 64 (a : Int) ||| BitVec.ofInt 64 (b : Int)).toNat : Int) = _
  rw [BitVec.toNat_or, ofInt_u64 a (by omega), ofInt_u64 b (by omega), IntKind.wrap_i64]
  omega
theorem or_low (m c : Nat) : m * 2 ^ (c + 1) ||| 2 ^ c = m * 2 ^ (c + 1) + 2 ^ c := by
  have := Nat.two_pow_add_eq_or_of_lt (i := c + 1) (b := 2 ^ c) (by rw [Nat.pow_succ]; have := Nat.two_pow_pos c; omega) m
  rw [Nat.mul_comm] at this
  exact this.symm
theorem root_or (n k r : Int) (hk : 0 ≤ k) (hk2 : k ≤ 31) (hr : 0 ≤ r) (hr2 : r ≤ 3037000499) (h : RootInv n k r) : bits .or .i64 r (pow k) = r + pow k := by
  obtain ⟨m, h1, h2, h3⟩ := h
  obtain ⟨c, rfl⟩ := Int.eq_ofNat_of_zero_le hk
  rw [show ((c : Int) + 1) = ((c + 1 : Nat) : Int) by omega, pow_nat _ (by omega), ← Int.natCast_mul] at h1
  have hp := pow_le (c : Int)
  rw [pow_nat c (by omega)] at *
  have h5 := i64_or (m * 2 ^ (c + 1)) (2 ^ c) (by omega) (by omega)
  rw [or_low] at h5
  rw [h1, h5]; omega
/-- the reference's way: by halves -/
def RootMid (n : Int) (i : Nat) (l h : Int) : Prop := l * l ≤ n ∧ n < h * h ∧ h - l ≤ 2 ^ (32 - i)
theorem rootMid_start (n : Int) (h0 : 0 < n) (h : n ≤ 9223372036854775807) : RootMid n 0 0 3037000500 := ⟨by omega, by omega, by decide⟩
theorem rootMid_end (n : Int) (i : Nat) (l h : Int) (h0 : 0 < n) (hl : 0 ≤ l) (hlh : l < h) (hh : h ≤ l + 1) (hm : RootMid n i l h) : IsRoot n l := by
  obtain ⟨h1, h2, h3⟩ := hm
  have := sq_le (show 0 ≤ h by omega) hh
  exact .inr ⟨h0, hl, h1, by omega⟩
theorem rootMid_more (n : Int) (i : Nat) (l h : Int) (hm : RootMid n i l h) (hlh : l + 1 < h) : i < 32 := by
  obtain ⟨h1, h2, h3⟩ := hm
  rcases Nat.lt_or_ge i 32 with h | h
  · exact h
  · rw [show 32 - i = 0 by omega] at h3; omega
theorem rootMid_lo (n : Int) (i : Nat) (l h : Int) (hi : i < 32) (hm : RootMid n i l h) (ht : (l + h) / 2 * ((l + h) / 2) ≤ n) : RootMid n (i + 1) ((l + h) / 2) h := by
  obtain ⟨h1, h2, h3⟩ := hm
  rw [show 32 - i = (32 - (i + 1)) + 1 by omega, Int.pow_succ] at h3
  exact ⟨ht, h2, by omega⟩
theorem rootMid_hi (n : Int) (i : Nat) (l h : Int) (hi : i < 32) (hm : RootMid n i l h) (ht : n < (l + h) / 2 * ((l + h) / 2)) : RootMid n (i + 1) l ((l + h) / 2) := by
  obtain ⟨h1, h2, h3⟩ := hm
  rw [show 32 - i = (32 - (i + 1)) + 1 by omega, Int.pow_succ] at h3
  exact ⟨h1, ht, by omega⟩
/-- Go's test 'm <= n/m' is 'm * m <= n' -/
theorem le_quo (m n : Int) (hm : 1 ≤ m) : m ≤ n / m ↔ m * m ≤ n := Int.le_ediv_iff_mul_le (by omega)
theorem mul_le_M (a b M : Int) (hb : 1 ≤ b) : a ≤ M / b ↔ a * b ≤ M := Int.le_ediv_iff_mul_le (by omega)
/-! ### Go's division cut towards nought, and the one rounded down -/
theorem ediv_uniq {a b q r : Int} (hb : 1 ≤ b) (h : b * q + r = a) (h0 : 0 ≤ r) (h1 : r < b) : a / b = q ∧ a % b = r :=
  (Int.ediv_emod_unique (by omega)).2 ⟨by omega, h0, h1⟩
theorem tdiv_neg (a b : Int) (hb : 1 ≤ b) (ha : a < 0) : a.tdiv b = -(-a / b) ∧ a.tmod b = -(-a % b) := by
  have h := Int.neg_tdiv (-a) b
  have h' := Int.neg_tmod (-a) b
  rw [Int.neg_neg] at h h'
  rw [h, h', Int.tdiv_eq_ediv_of_nonneg (by omega), Int.tmod_eq_emod_of_nonneg (by omega)]
  exact ⟨rfl, rfl⟩
theorem tdiv_yes {a b : Int} (hb : 1 ≤ b) (h : 0 ≤ a.tmod b) : a.tdiv b = a / b ∧ a.tmod b = a % b := by
  by_cases ha : 0 ≤ a
  · exact ⟨Int.tdiv_eq_ediv_of_nonneg ha, Int.tmod_eq_emod_of_nonneg ha⟩
  · obtain ⟨h1, h2⟩ := tdiv_neg a b hb (by omega)
    have e := Int.mul_ediv_add_emod (-a) b
    have e0 := Int.emod_nonneg (-a) (show b ≠ 0 by omega)
    have := ediv_uniq (a := a) (b := b) (q := -(-a / b)) (r := 0) hb (by rw [Int.mul_neg]; omega) (by omega) (by omega)
    omega
theorem tdiv_no {a b : Int} (hb : 1 ≤ b) (h : a.tmod b < 0) : a.tdiv b - 1 = a / b ∧ a.tmod b + b = a % b := by
  by_cases ha : 0 ≤ a
  · rw [Int.tmod_eq_emod_of_nonneg ha] at h
    have := Int.emod_nonneg a (show b ≠ 0 by omega)
    omega
  · obtain ⟨h1, h2⟩ := tdiv_neg a b hb (by omega)
    have e := Int.mul_ediv_add_emod (-a) b
    have e1 := Int.emod_lt_of_pos (-a) (show 0 < b by omega)
    have := ediv_uniq (a := a) (b := b) (q := -(-a / b) - 1) (r := b - (-a % b)) hb (by rw [Int.mul_sub, Int.mul_neg]; omega) (by omega) (by omega)
    omega
theorem tmod_sign (a b : Int) (hb : 1 ≤ b) : (0 ≤ a → 0 ≤ a.tmod b) ∧ (a < 0 → a.tmod b ≤ 0) := by
  refine ⟨fun ha => ?_, fun ha => ?_⟩
  · rw [Int.tmod_eq_emod_of_nonneg ha]; exact Int.emod_nonneg a (by omega)
  · have := (tdiv_neg a b hb ha).2
    have := Int.emod_nonneg (-a) (show b ≠ 0 by omega)
    omega
theorem quo_range (a b : Int) (hb : 1 ≤ b) (h1 : -9223372036854775808 ≤ a) (h2 : a ≤ 9223372036854775807) : -9223372036854775808 ≤ a / b ∧ a / b ≤ 9223372036854775807 := by
  refine ⟨?_, ?_⟩
  · exact (Int.le_ediv_iff_mul_le (by omega)).2 (by omega)
  · by_cases h : 0 ≤ a
    · have := Int.ediv_le_self b h; omega
    · have : a / b < 0 := Int.ediv_neg_of_neg_of_pos (by omega) (by omega)
      omega
theorem floor_yes {a b : Int} (hb : ¬ b < 1) (h : 0 ≤ a.tmod b) : a.tdiv b = floor a b := by
  unfold floor; rw [if_neg hb, (tdiv_yes (by omega) h).1]
theorem floor_no {a b : Int} (hb : ¬ b < 1) (h1 : -9223372036854775808 ≤ a) (h2 : a ≤ 9223372036854775807) (h : a.tmod b < 0) : RowKit.wrap64 (a.tdiv b - 1) = floor a b := by
  have := quo_range a b (by omega) h1 h2
  unfold floor; rw [if_neg hb, (tdiv_no (by omega) h).1]; unfold RowKit.wrap64; omega
theorem mod_yes {a b : Int} (hb : ¬ b < 1) (h : 0 ≤ a.tmod b) : a.tmod b = mod a b := by
  unfold mod; rw [if_neg hb, (tdiv_yes (by omega) h).2]
theorem mod_no {a b : Int} (hb : ¬ b < 1) (h2 : b ≤ 9223372036854775807) (h : a.tmod b < 0) : RowKit.wrap64 (a.tmod b + b) = mod a b := by
  have e1 := Int.emod_lt_of_pos a (show 0 < b by omega)
  have e0 := Int.emod_nonneg a (show b ≠ 0 by omega)
  unfold mod; rw [if_neg hb, (tdiv_no (by omega) h).2]; unfold RowKit.wrap64; omega
theorem mod_le (a b : Int) (hb : 1 ≤ b) : 0 ≤ mod a b ∧ mod a b < b := by
  unfold mod; rw [if_neg (by omega)]; exact ⟨Int.emod_nonneg a (by omega), Int.emod_lt_of_pos a (by omega)⟩
theorem floor_mod (a b : Int) (hb : 1 ≤ b) : floor a b * b + mod a b = a := by
  unfold floor mod; rw [if_neg (by omega), if_neg (by omega), Int.mul_comm]; exact Int.mul_ediv_add_emod a b
/-! ### what the walks leave, and what it is -/
theorem pow_bits (m : Int) (h0 : 0 ≤ m) (h : m ≤ 62) : (2 : Int) ^ m.toNat = pow m := by
  unfold pow; rw [show min m 62 = m by omega]
theorem lo_bits (n : Int) (h1 : 1 ≤ n) (h2 : n ≤ 62) : RowKit.wrap64 (-RowKit.wrap64 (2 ^ (n.toNat - 1))) = lo n := by
  have e : (2 : Int) ^ (n.toNat - 1) = pow (n - 1) := by rw [← pow_bits (n - 1) (by omega) (by omega)]; congr 1; omega
  have := pow_le (n - 1)
  rw [e]; unfold lo RowKit.wrap64; rw [if_neg (by omega)]; omega
theorem hi_bits (n : Int) (h1 : 1 ≤ n) (h2 : n ≤ 62) : RowKit.wrap64 (RowKit.wrap64 (2 ^ (n.toNat - 1)) - 1) = hi n := by
  have e : (2 : Int) ^ (n.toNat - 1) = pow (n - 1) := by rw [← pow_bits (n - 1) (by omega) (by omega)]; congr 1; omega
  have := pow_le (n - 1)
  rw [e]; unfold hi RowKit.wrap64; rw [if_neg (by omega)]; omega
theorem fits_1 (x n : Int) (h1 : lo n < 0) (h2 : lo n ≤ x) : decide (x ≤ hi n) = fits x n := by
  unfold lo hi fits at *
  split at h1
  · omega
  · rw [if_neg (by omega)] at h2; rw [if_neg (by omega), decide_eq_decide]; omega
theorem fits_2 (x n : Int) (h : ¬ lo n < 0 ∨ ¬ lo n ≤ x) : false = fits x n := by
  have := pow_pos (n - 1)
  symm; unfold fits; rw [decide_eq_false_iff_not]; unfold lo at h
  intro h3
  rw [if_neg (by omega)] at h; omega
theorem floor_le (a b : Int) (hb : 1 ≤ b) (h : -4611686018427387904 ≤ a ∧ a ≤ 4611686018427387904) : -4611686018427387904 ≤ floor a b ∧ floor a b ≤ 4611686018427387904 := by
  unfold floor; rw [if_neg (by omega)]
  refine ⟨(Int.le_ediv_iff_mul_le (by omega)).2 (by omega), ?_⟩
  by_cases h0 : 0 ≤ a
  · have := Int.ediv_le_self b h0; omega
  · have : a / b < 0 := Int.ediv_neg_of_neg_of_pos (by omega) (by omega)
    omega
theorem round_none (a n : Int) (h : clamp n 0 62 = 0) : hold a = round a n := by
  unfold round; rw [if_pos]; unfold clamp at h; repeat' split at h
  all_goals omega
theorem round_bits (a n : Int) (h : ¬ clamp n 0 62 = 0) :
    RowKit.wrap64 (hold a / 2 ^ ((clamp n 0 62).toNat - 1) / 2 + bits BinOp.and IntKind.i64 (hold a / 2 ^ ((clamp n 0 62).toNat - 1)) 1) = round a n := by
  have hc : 1 ≤ clamp n 0 62 ∧ clamp n 0 62 ≤ 62 ∧ (clamp n 0 62 = n ∨ (62 < n ∧ clamp n 0 62 = 62)) := by
    unfold clamp at *; repeat' split
    all_goals (try rw [if_pos (by omega)] at h)
    all_goals (try omega)
  have e : (2 : Int) ^ ((clamp n 0 62).toNat - 1) = pow (clamp n 0 62 - 1) := by rw [← pow_bits (clamp n 0 62 - 1) (by omega) (by omega)]; congr 1; omega
  have er : round a n = round a (clamp n 0 62) := by
    rcases hc.2.2 with h | ⟨h, h'⟩
    · rw [h]
    · rw [h', round_clamp a n h]
  rw [e, i64_and1, er, round_shift a _ hc.1 hc.2.1]
  have h1 := hold_le a
  have h2 := floor_le (hold a) (pow (clamp n 0 62 - 1)) (by have := pow_le (clamp n 0 62 - 1); omega) h1
  unfold floor at h2; rw [if_neg (by have := pow_le (clamp n 0 62 - 1); omega)] at h2
  unfold RowKit.wrap64; omega
theorem round_up (a n : Int) (h : ¬ n < 1) (h3 : pow n / 2 ≤ mod (hold a) (pow n)) : floor (hold a) (pow n) + 1 = round a n := by
  have := pow_le n
  unfold mod at h3; rw [if_neg (by omega)] at h3
  unfold round floor; rw [if_neg h, if_pos h3, if_neg (by omega)]
theorem round_down (a n : Int) (h : ¬ n < 1) (h3 : ¬ pow n / 2 ≤ mod (hold a) (pow n)) : floor (hold a) (pow n) = round a n := by
  have := pow_le n
  unfold mod at h3; rw [if_neg (by omega)] at h3
  unfold round floor; rw [if_neg h, if_neg h3, if_neg (by omega)]
theorem need_neg (x : Int) (h : x < 0) : width (-1 - x) + 1 = need x := by unfold need; rw [if_pos h]
theorem need_pos (x : Int) (h : 0 ≤ x) : width x + 1 = need x := by unfold need; rw [if_neg (by omega)]
theorem zag_walk (x : Int) (h1 : 0 ≤ x) (h2 : x < 18446744073709551616) : bits BinOp.xor IntKind.i64 (x / 2) (RowKit.wrap64 (-RowKit.wrap64 (bits BinOp.and IntKind.u64 x 1))) = zag x := by
  rw [and_one_u64 x h1 (by omega), ← zag_bits x h1 h2]
  congr 1; unfold RowKit.wrap64; omega
theorem lt_two_pow (c : Int) (k : Nat) (hk : k ≤ 64) (h : c < 2 ^ (64 - k)) : c < 18446744073709551616 := by
  have : (2 : Int) ^ (64 - k) ≤ 2 ^ 64 := by
    have h3 : (0 : Int) < 2 ^ (64 - k) := Int.pow_pos (by decide)
    have h4 : (0 : Int) < 2 ^ k := Int.pow_pos (by decide)
    have e : (2 : Int) ^ 64 = 2 ^ (64 - k) * 2 ^ k := by rw [← Int.pow_add]; congr 1; omega
    rw [e]
    have := Int.mul_le_mul_of_nonneg_left (show (1 : Int) ≤ 2 ^ k by omega) (show (0 : Int) ≤ 2 ^ (64 - k) by omega)
    omega
  omega
theorem half_lt (c : Int) (k : Nat) (hk : k < 64) (h : c < 2 ^ (64 - k)) : c / 2 < 2 ^ (64 - (k + 1)) := by
  rw [show 64 - k = (64 - (k + 1)) + 1 by omega, Int.pow_succ] at h; omega
/-! ### what the laws say of one number -/
theorem zig_le (x : Int) (h1 : -9223372036854775808 ≤ x) (h2 : x ≤ 9223372036854775807) : 0 ≤ zig x ∧ zig x ≤ 18446744073709551615 := by
  unfold zig; split <;> omega
theorem zag_le (u : Int) (h1 : 0 ≤ u) (h2 : u < 18446744073709551616) : -9223372036854775808 ≤ zag u ∧ zag u ≤ 9223372036854775807 := by
  unfold zag; split <;> omega
theorem zag_zig (x : Int) : zag (zig x) = x := by
  unfold zag zig; split <;> split <;> omega
theorem zig_zag (u : Int) (h : 0 ≤ u) : zig (zag u) = u := by
  unfold zag zig; split <;> split <;> omega
theorem fits_clamp (x n : Int) (h : ¬ lo n = 0) : fits (clamp x (lo n) (hi n)) n = true := by
  unfold lo at h
  have hn : ¬ (n < 1 ∨ 62 < n) := by
    intro hn; rw [if_pos hn] at h; exact h rfl
  have := pow_pos (n - 1)
  have hc := clamp_le x (lo n) (hi n) (by unfold lo hi; rw [if_neg hn, if_neg hn]; omega)
  unfold lo hi at hc; rw [if_neg hn, if_neg hn] at hc
  unfold lo hi; rw [if_neg hn, if_neg hn]
  unfold fits; rw [decide_eq_true_eq]; omega
theorem isRoot_some (n : Int) : ∃ r, IsRoot n r := by
  by_cases h : n ≤ 0
  · exact ⟨0, .inl ⟨h, rfl⟩⟩
  · have key : ∀ k : Nat, (k : Int) * k ≤ n ∨ ∃ r, IsRoot n r := by
      intro k
      induction k with
      | zero => left; simp; omega
      | succ k ih =>
        rcases ih with ih | ih
        · by_cases h2 : ((k + 1 : Nat) : Int) * ((k + 1 : Nat) : Int) ≤ n
          · exact .inl h2
          · exact .inr ⟨k, .inr ⟨by omega, by omega, ih, by rw [show ((k : Int) + 1) = ((k + 1 : Nat) : Int) by omega]; omega⟩⟩
        · exact .inr ih
    rcases key (n.toNat + 1) with h1 | h1
    · have : n + 1 ≤ (n + 1) * (n + 1) := by
        have := Int.mul_le_mul_of_nonneg_left (show (1 : Int) ≤ n + 1 by omega) (show (0 : Int) ≤ n + 1 by omega)
        omega
      rw [show ((n.toNat + 1 : Nat) : Int) = n + 1 by omega] at h1; omega
    · exact h1
theorem isRoot_sq (n r : Int) (h : IsRoot n r) (h0 : 1 ≤ n) : r * r ≤ n := by
  rcases h with h | h
  · omega
  · exact h.2.2.1
theorem isRoot_quo (n r : Int) (h : IsRoot n r) (h0 : 1 ≤ n) : 1 ≤ r ∧ r ≤ n / r ∧ n / (r + 1) < r + 1 := by
  rcases h with h | ⟨_, h1, h2, h3⟩
  · omega
  · have hr : 1 ≤ r := by
      rcases Int.lt_or_le r 1 with h | h
      · rw [show r = 0 by omega] at h3; omega
      · exact h
    exact ⟨hr, (le_quo r n hr).2 h2, Int.not_le.1 fun h => by have := (le_quo (r + 1) n (by omega)).1 h; omega⟩
end Go.Proofs.Ytkdaalceekbahaa.Pl
