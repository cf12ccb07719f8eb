/- Plain facts about the norm of numbers: no program in sight. -/
import Derived.Test.YtkdaalceekbahaaNum
namespace Go.Proofs.Ytkdaalceekbahaa.Pl
theorem two_pow_le {a b : Nat} (h : a ≤ b) : (2 : Int) ^ a ≤ 2 ^ b := by
  have := Nat.pow_le_pow_right (n := 2) (by decide) h
  exact_mod_cast this
/-- 2 to k is not above h if and only if k is below h's width -/
theorem wlt {h : Int} (h0 : 0 < h) (h1 : h ≤ 4611686018427387904) (k : Nat) : (2 : Int) ^ k ≤ h ↔ (k : Int) < width h := by
  obtain ⟨n, rfl⟩ := Int.eq_ofNat_of_zero_le (Int.le_of_lt h0)
  have hn : n < 2 ^ 64 := by have : (2 : Nat) ^ 64 = 18446744073709551616 := by decide
                             omega
  have a1 := bitLen_lt n hn
  have a2 := le_bitLen n hn (by omega)
  have a3 := bitLen_pos n (by omega)
  unfold width
  rw [Int.toNat_natCast]
  have e2 : ((2 ^ (Lib.bitLen n - 1) : Nat) : Int) ≤ (n : Int) := by exact_mod_cast a2
  have e1 : (n : Int) < ((2 ^ Lib.bitLen n : Nat) : Int) := by exact_mod_cast a1
  rw [Int.natCast_pow] at e1 e2
  constructor
  · intro hk
    rcases Nat.lt_or_ge k (Lib.bitLen n) with h | h
    · exact_mod_cast h
    · have := two_pow_le h
      have c2 : ((2 : Nat) : Int) = 2 := rfl
      rw [c2] at e1 e2
      omega
  · intro hk
    have hk' : k ≤ Lib.bitLen n - 1 := by omega
    have := two_pow_le hk'
    have c2 : ((2 : Nat) : Int) = 2 := rfl
    rw [c2] at e1 e2
    omega
theorem width_rng {h : Int} (h0 : 0 < h) (h1 : h ≤ 4611686018427387904) : 1 ≤ width h ∧ width h ≤ 63 := by
  have a := (wlt h0 h1 0).1 (by rw [Int.pow_zero]; omega)
  have b := wlt h0 h1 63
  have c : (2 : Int) ^ 63 = 9223372036854775808 := by decide
  rw [c] at b
  constructor
  · omega
  · rcases Int.lt_or_le (63 : Int) (width h) with h2 | h2
    · have := b.2 h2; omega
    · exact h2
theorem pow_two_nat (k : Nat) (hk : k ≤ 62) : pow (k : Int) = (2 : Int) ^ k := by rw [pow_nat k hk, Int.natCast_pow]; rfl
/-- a number's halves, so often -/
theorem down_test {h : Int} (h0 : 0 < h) (h1 : h ≤ 4611686018427387904) (d : Nat) (hd : d ≤ 32) : 2147483648 ≤ h / pow d ↔ (d : Int) < width h - 31 := by
  have hp := pow_pos (d : Int)
  rw [Int.le_ediv_iff_mul_le hp, pow_two_nat d (by omega), show (2147483648 : Int) = 2 ^ 31 by decide, ← Int.pow_add, wlt h0 h1]
  omega
theorem ediv_two (h p : Int) (hp : 0 < p) : h / p / 2 = h / (p * 2) := by
  have h1 := Int.emod_add_mul_ediv h p
  have h2 := Int.emod_nonneg h (b := p) (by omega)
  have h3 := Int.emod_lt_of_pos h hp
  have h4 : p * (h / p) = p * 2 * (h / p / 2) + p * (h / p % 2) := by
    rw [show p * 2 * (h / p / 2) = p * (2 * (h / p / 2)) by rw [Int.mul_assoc], ← Int.mul_add]
    congr 1; omega
  have h5 : 0 ≤ p * (h / p % 2) ∧ p * (h / p % 2) ≤ p := by
    rcases (show h / p % 2 = 0 ∨ h / p % 2 = 1 by omega) with e | e <;> rw [e] <;> omega
  exact ((ediv_uniq (a := h) (b := p * 2) (q := h / p / 2) (r := p * (h / p % 2) + h % p) (by omega) (by omega) (by omega) (by omega)).1).symm
theorem half_more {h : Int} (d : Nat) (hd : d < 62) : h / pow d / 2 = h / pow (d + 1 : Nat) := by
  have e : pow ((d + 1 : Nat) : Int) = 2 * pow d := by rw [show ((d + 1 : Nat) : Int) = (d : Int) + 1 by omega]; exact pow_succ _ (by omega) (by omega)
  rw [e, Int.mul_comm 2 (pow d)]
  exact ediv_two _ _ (pow_pos _)
theorem up_test {h : Int} (h0 : 0 < h) (h1 : h ≤ 4611686018427387904) (u : Nat) (hu : u ≤ 30) : h * pow u < 1073741824 ↔ (u : Int) < 31 - width h := by
  have e : (1073741824 : Int) = 2 ^ (30 - u) * 2 ^ u := by rw [← Int.pow_add, show 30 - u + u = 30 by omega]; decide
  have hp : (0 : Int) < 2 ^ u := Int.pow_pos (by decide)
  rw [e, pow_two_nat u (by omega)]
  have := wlt h0 h1 (30 - u)
  constructor
  · intro hx
    have h2 : h < 2 ^ (30 - u) := Int.lt_of_mul_lt_mul_right hx (Int.le_of_lt hp)
    have : ¬ (((30 - u : Nat) : Int) < width h) := fun hc => by have := (wlt h0 h1 (30 - u)).2 hc; omega
    omega
  · intro hx
    have h2 : h < 2 ^ (30 - u) := by
      rcases Int.lt_or_le h (2 ^ (30 - u)) with h3 | h3
      · exact h3
      · have := this.1 h3; omega
    exact Int.mul_lt_mul_of_pos_right h2 hp
/-- a number's bits, moved till it has 31 of them -/
def scale (h x : Int) : Int := if width h ≤ 31 then x * pow (31 - width h) else x / pow (width h - 31)
def top (h : Int) : Int := scale h h
def nrm (h x : Int) : Int := clamp (scale h (hold x)) (-top h) (top h)
theorem top_rng {h : Int} (h0 : 0 < h) (h1 : h ≤ 4611686018427387904) : 1073741824 ≤ top h ∧ top h < 2147483648 := by
  have hw := width_rng h0 h1
  unfold top scale
  split
  · rename_i hle
    obtain ⟨u, hu⟩ : ∃ u : Nat, (u : Int) = 31 - width h := ⟨(31 - width h).toNat, by omega⟩
    rw [← hu]
    have t1 := up_test h0 h1 u (by omega)
    constructor
    · rcases Int.lt_or_le (h * pow u) 1073741824 with h2 | h2
      · have := t1.1 h2; omega
      · exact h2
    · have a := wlt h0 h1 (31 - u)
      have hp : (0 : Int) < 2 ^ u := Int.pow_pos (by decide)
      have e : (2147483648 : Int) = 2 ^ (31 - u) * 2 ^ u := by rw [← Int.pow_add, show 31 - u + u = 31 by omega]; decide
      rw [e, pow_two_nat u (by omega)]
      refine Int.mul_lt_mul_of_pos_right ?_ hp
      rcases Int.lt_or_le h (2 ^ (31 - u)) with h3 | h3
      · exact h3
      · have := a.1 h3; omega
  · rename_i hle
    obtain ⟨d, hd⟩ : ∃ d : Nat, (d : Int) = width h - 31 := ⟨(width h - 31).toNat, by omega⟩
    rw [← hd]
    have t1 := down_test h0 h1 d (by omega)
    constructor
    · rw [Int.le_ediv_iff_mul_le (pow_pos _), pow_two_nat d (by omega), show (1073741824 : Int) = 2 ^ 30 by decide, ← Int.pow_add, wlt h0 h1]
      omega
    · rcases Int.lt_or_le (h / pow d) 2147483648 with h2 | h2
      · exact h2
      · have := t1.1 h2; omega
theorem nrm_rng {h : Int} (h0 : 0 < h) (h1 : h ≤ 4611686018427387904) (x : Int) : -top h ≤ nrm h x ∧ nrm h x ≤ top h := by
  have := top_rng h0 h1
  exact clamp_le _ _ _ (by omega)
theorem scale_lo {h x : Int} (hw : width h ≤ 31) (hx : x < -h) : scale h x < -top h := by
  unfold top scale; rw [if_pos hw, if_pos hw, ← Int.neg_mul]
  exact Int.mul_lt_mul_of_pos_right hx (pow_pos _)
theorem scale_hi {h x : Int} (hw : width h ≤ 31) (hx : h < x) : top h < scale h x := by
  unfold top scale; rw [if_pos hw, if_pos hw]
  exact Int.mul_lt_mul_of_pos_right hx (pow_pos _)
theorem scale_mid {h x : Int} (hw : width h ≤ 31) (h1 : -h ≤ x) (h2 : x ≤ h) : -top h ≤ scale h x ∧ scale h x ≤ top h := by
  unfold top scale; rw [if_pos hw, if_pos hw, ← Int.neg_mul]
  have hp := Int.le_of_lt (pow_pos (31 - width h))
  exact ⟨Int.mul_le_mul_of_nonneg_right h1 hp, Int.mul_le_mul_of_nonneg_right h2 hp⟩
theorem nrm_first {h : Int} (h0 : 0 < h) (h1 : h ≤ 4611686018427387904) : nrm h h = top h := by
  have := top_rng h0 h1
  unfold nrm; rw [hold_in h (by omega) h1]
  show clamp (top h) _ _ = _
  exact clamp_in _ _ _ (by omega) (by omega)
/-- the norm of a list -/
def norm (l : List Int) : List Int := if l.getD 0 0 ≤ 0 then [] else l.map (nrm (hold (l.getD 0 0)))
/-- what the document does with a number that is scaled -/
def cut (t x : Int) : Int := if (if t < x then t else x) < -t then -t else if t < x then t else x
theorem cut_clamp (t x : Int) (ht : 0 ≤ t) : cut t x = clamp x (-t) t := by
  unfold cut clamp; repeat' split
  all_goals omega
theorem clamp_hold (t x : Int) (h0 : 0 ≤ t) (ht : t ≤ 4611686018427387904) : clamp (hold x) (-t) t = clamp x (-t) t := by
  unfold hold clamp; repeat' split
  all_goals omega
/-- the document's way to scale -/
theorem ref_scale {h : Int} (h0 : 0 < h) (h1 : h ≤ 4611686018427387904) (x : Int) (u d : Nat) (hu : (u : Int) = if width h ≤ 31 then 31 - width h else 0) (hd : (d : Int) = if width h ≤ 31 then 0 else width h - 31) :
    cut (top h) (mul (floor (hold x) (pow d)) (pow u)) = nrm h x := by
  have ht := top_rng h0 h1
  have hw := width_rng h0 h1
  have hpd := pow_le (d : Int)
  have hpu := pow_le (u : Int)
  have hhx := hold_le x
  rw [cut_clamp _ _ (by omega)]
  unfold nrm mul floor
  rw [if_neg (by omega), hold_in (pow u) (by omega) (by omega)]
  rw [clamp_hold _ _ (by omega) (by omega)]
  unfold scale
  split at hu
  · rename_i hle
    rw [if_pos hle] at hd
    rw [if_pos hle, hd, hu, pow_one (by omega), Int.ediv_one, hold_hold]
  · rename_i hle
    rw [if_neg hle] at hd
    rw [if_neg hle, hd, hu, pow_one (n := 0) (by omega), Int.mul_one]
    have := floor_le (hold x) (pow (width h - 31)) (by have := pow_pos (width h - 31); omega) hhx
    unfold floor at this
    rw [if_neg (by have := pow_pos (width h - 31); omega)] at this
    rw [hold_in _ this.1 this.2]
theorem dn_test {h : Int} (h0 : 0 < h) (h1 : h ≤ 4611686018427387904) {D : Nat} (hD : (D : Int) = if width h ≤ 31 then 0 else width h - 31) (d : Nat) (hd : d ≤ D) : 2147483648 ≤ h / pow d ↔ d < D := by
  have hw := width_rng h0 h1
  have := down_test h0 h1 d (by split at hD <;> omega)
  rw [this]
  split at hD <;> omega
theorem up_test2 {h : Int} (h0 : 0 < h) (h1 : h ≤ 4611686018427387904) {D U : Nat} (hD : (D : Int) = if width h ≤ 31 then 0 else width h - 31) (hU : (U : Int) = if width h ≤ 31 then 31 - width h else 0) (u : Nat) (hu : u ≤ U) : h / pow D * pow u < 1073741824 ↔ u < U := by
  have hw := width_rng h0 h1
  have ht := top_rng h0 h1
  split at hD
  · rename_i hle
    rw [if_pos hle] at hU
    rw [hD, pow_one (n := 0) (by omega), Int.ediv_one, up_test h0 h1 u (by omega)]
    omega
  · rename_i hle
    rw [if_neg hle] at hU
    have hu0 : u = 0 := by omega
    subst hu0
    unfold top scale at ht
    rw [if_neg hle] at ht
    rw [hD, pow_one (n := ((0 : Nat) : Int)) (by omega), Int.mul_one]
    omega
theorem up_last {h : Int} {D U : Nat} (hD : (D : Int) = if width h ≤ 31 then 0 else width h - 31) (hU : (U : Int) = if width h ≤ 31 then 31 - width h else 0) : h / pow D * pow U = top h := by
  unfold top scale
  split at hD
  · rename_i hle
    rw [if_pos hle] at hU ⊢
    rw [hD, hU, pow_one (n := 0) (by omega), Int.ediv_one]
  · rename_i hle
    rw [if_neg hle] at hU ⊢
    rw [hD, hU, pow_one (n := 0) (by omega), Int.mul_one]
theorem up_more (F : Int) (u : Nat) (hu : u < 62) : 2 * (F * pow u) = F * pow (u + 1 : Nat) := by
  have e : pow ((u + 1 : Nat) : Int) = 2 * pow u := by rw [show ((u + 1 : Nat) : Int) = (u : Int) + 1 by omega]; exact pow_succ _ (by omega) (by omega)
  rw [e, Int.mul_left_comm]
end Go.Proofs.Ytkdaalceekbahaa.Pl
