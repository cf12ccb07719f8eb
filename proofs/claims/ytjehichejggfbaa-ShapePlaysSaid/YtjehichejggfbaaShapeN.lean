/- The walk of the law on calls of a shaper, whatever they are. -/
import Derived.Test.YtjehichejggfbaaShapeL
namespace Go.Proofs.Ytjehichejggfbaa
open Go.RowKit
set_option linter.unusedVariables false
/-- a slice of calls: for each its kind and its number -/
def RdActs (w : World) (B : Nat) (A : Option Addr) (n : Nat) (Ks Ns : Nat → Int) : Prop :=
  ∀ i, i < n → ∃ b off, A = some ⟨b, off, none⟩ ∧ b < B ∧ w.cell? ⟨b, off + i * 2, none⟩ = some (.int .i64 (Ks i)) ∧ w.cell? ⟨b, off + i * 2 + 1, none⟩ = some (.int .i64 (Ns i))
theorem RdActs.later {w w' : World} {B C n : Nat} {A : Option Addr} {Ks Ns : Nat → Int} (h : RdActs w B A n Ks Ns) (hb : Below C w w') (hB : B ≤ C) : RdActs w' B A n Ks Ns := by
  intro i hi
  obtain ⟨b, off, e, hbb, h1, h2⟩ := h i hi
  exact ⟨b, off, e, hbb, (hb.cell (p := ⟨b, off + i * 2, none⟩) (show b < C by omega)).trans h1, (hb.cell (p := ⟨b, off + i * 2 + 1, none⟩) (show b < C by omega)).trans h2⟩
set_option maxHeartbeats 1600000 in
theorem walkPlays (k : Int) (A : Option Addr) (n ca : Nat) (Ks Ns : Nat → Int) (w : World) (hx : RdActs w w.heap.size A n Ks Ns) (hn2 : n ≤ maxLen) :
    Calls Try.prog 3 #[.int .i64 k, .slice A n ca] w fun e w' => e = .returned (.bool true) ∧ Below w.heap.size w w' := by
  unfold maxLen at hn2
  by_cases hk : 0 ≤ k ∧ k ≤ 3
  · by_cases hn200 : 200 < n
    · have hd : (200 : Int) < (n : Int) := by omega
      go_enter Try.func3, Try.ntmps3
      go_wp2_with fail
      refine (new_any _ _ hk.1 hk.2).mono ?_
      rintro e w1 ⟨rfl, hw⟩
      have b1 : Below w.heap.size w w1 := hw ▸ (Below.refl _ _).alloc (Nat.le_refl _) _
      clear hw
      go_wp2_with (go_at_call 9; refine (known_any _).mono ?_; rintro e w6 ⟨rfl, hb⟩)
      go_ret
      exact ⟨rfl, below_next b1 b1.size hb⟩
    · have hd1 : decide ((200 : Int) < (n : Int)) = false := by simp; omega
      go_enter Try.func3, Try.ntmps3
      go_wp2_with fail
      refine (new_any _ _ hk.1 hk.2).mono ?_
      rintro e w1 ⟨rfl, hw⟩
      have s1 : Shp w1 w.heap.size k 0 0 0 0 := hw ▸ Blk.new _ _ _
      have b1 : Below w.heap.size w w1 := hw ▸ (Below.refl _ _).alloc (Nat.le_refl _) _
      clear hw
      obtain ⟨G, hG⟩ : ∃ G, G = w.heap.size := ⟨_, rfl⟩
      rw [← hG] at s1 ⊢
      have hGw : w.heap.size ≤ G := by omega
      have HG := Lib.hid hG; clear hG
      go_wp2_with fail
      go_loopw [7, 8, 9] (fun mm la i wr => ∃ (j p : Nat) (Am : Option Addr) (cm : Nat) (ms : List Int) (l : Int), j ≤ n ∧ p ≤ j ∧ i = .int .i64 j ∧ mm = .slice Am p cm ∧ la = .int .i64 l ∧ (-4529848320 ≤ l ∧ l ≤ 4529848321) ∧ Own wr w.heap.size Am p cm ms ∧ Hid (∀ x ∈ ms, Pl.Small x) ∧ Shp wr G k (Pl.mth ms 0) (Pl.mth ms 1) (Pl.mth ms 2) l ∧ Below w.heap.size w wr) (fun _ _ i _ => n - (intOf i).toNat)
      case atStart => exact ⟨0, 0, none, 0, [], 0, by omega, by omega, rfl, rfl, rfl, by omega, Own.nil _ _, fun x hx => by simp at hx, s1, b1⟩
      case round =>
        obtain ⟨j, p, Am, cm, ms, l, hj, hp, rfl, rfl, rfl, hl, ho, hsm, hs, hb⟩ := hrel
        clear s1 b1
        by_cases hlt : j < n
        · obtain ⟨b, off, rfl, hbb, hcK, hcN⟩ := (hx.later hb (Nat.le_refl _)) j hlt
          have hji : (j : Int) < (n : Int) := by omega
          have hHK : Hid (∀ W : World, Below w.heap.size w W → W.cell? ⟨b, off + j * 2 + 1, none⟩ = some (.int .i64 (Ns j))) := by
            intro W hW
            obtain ⟨b2, o2, e2, _, _, h2⟩ := (hx.later hW (Nat.le_refl _)) j hlt
            injection e2 with e2; injection e2 with e3 e4
            subst e3; subst e4; exact h2
          generalize Ks j = K at *
          generalize Ns j = N at *
          have k0 := Pl.mth_small hsm.out 0; have k1 := Pl.mth_small hsm.out 1; have k2 := Pl.mth_small hsm.out 2
          have hap : blk Am ≠ some G := by rw [← ownBlock_blk Am p cm]; exact Blk.own_apart hs ho.2 (by decide)
          have HAP := Lib.hid hap; clear hap
          have HOL : Hid (ms.length = p) := ho.1
          by_cases hK0 : K = 0
          · subst hK0
            go_wp2_with fail
            refine (target_r k N Am p cm _ _ _ hk.1 hk.2 HOL.out (by omega) ho.rd (Nat.le_refl _) hsm.out).mono ?_
            rintro e w3 ⟨rfl, b3⟩
            have s3 := hs.later b3
            have o3 := ho.later b3
            have bb3 := below_next hb hb.size b3
            have hc3 := hHK.out _ bb3
            have hT := Pl.tgt_le (k := k) (x := N) k0 k1 k2
            clear hs ho hb b3 hcK hcN
            go_wp2_with fail
            refine (target_any k _ _ _ _ N G _ s3 k0 k1 k2).mono ?_
            rintro e w4 ⟨rfl, s4, g4⟩
            have o4 := o3.kept g4 (.inr HAP.out)
            have b4 : Below w.heap.size w w4 := bb3.trans (below_gb g4 bb3.size (fun g hg => by injection hg with hg; omega))
            clear s3 o3 bb3 hc3 g4
            go_wp2_with fail
            go_roundw
            case rel => exact ⟨j + 1, p, Am, cm, ms, _, by omega, by omega, by go_num, rfl, rfl, hT, o4, hsm, s4, b4⟩
            case measure => simp [intOf]; omega
          · have hq0 : (K == 0) = false := beq_eq_false_iff_ne.2 hK0
            by_cases hK1 : K = 1
            · subst hK1
              clear hq0 hK0
              go_wp2_with fail
              refine (note_any k _ _ _ l N G _ hs k0 k1 k2 hl).mono ?_
              rintro e w3 ⟨rfl, s3, g3⟩
              have o3 := ho.kept g3 (.inr HAP.out)
              have b3 : Below w.heap.size w w3 := hb.trans (below_gb g3 hb.size (fun g hg => by injection hg with hg; omega))
              have hc3 := hHK.out _ b3
              have hw3 := b3.size
              clear hs ho hb g3 hcK hcN
              go_wp2_with (first
                | (go_at_call 13; refine (miss_r _ _ hl _).mono ?_; rintro e w' ⟨rfl, rfl⟩)
                | (at_builtin; refine app1 rfl (.tmp 62) (.tmp 70) rfl w.heap.size Am p cm _ (Pl.miss N l) rfl rfl o3 (by omega) hw3 ?_; intro A5 c5 w5 m5 g5 e5))
              have bb5 := b3.grown g5 hw3 (fun g h => (o3.lt h).1)
              have s5 : Shp w5 G k (Pl.mth (ms ++ [Pl.miss N l]) 0) (Pl.mth (ms ++ [Pl.miss N l]) 1) (Pl.mth (ms ++ [Pl.miss N l]) 2) l := by
                rw [Pl.mth_snoc_zero, Pl.mth_snoc_succ, Pl.mth_snoc_succ]
                exact Blk.grown s3 g5 (Ne.symm HAP.out)
              have hs5 : Hid (∀ x ∈ ms ++ [Pl.miss N l], Pl.Small x) := by
                intro x hx
                rcases List.mem_append.1 hx with h | h
                · exact hsm.out x h
                · simp at h; subst h; exact Pl.small_miss _ _
              clear o3 b3 hc3 g5 e5 s3
              go_roundw
              case rel => exact ⟨j + 1, p + 1, A5, c5, ms ++ [Pl.miss N l], l, by omega, by omega, by go_num, rfl, rfl, hl, m5, hs5, s5, bb5⟩
              case measure => simp [intOf]; omega
            · have hq1 : (K == 1) = false := beq_eq_false_iff_ne.2 hK1
              clear hK0 hK1
              go_wp2_with fail
              go_roundw
              case rel => exact ⟨j + 1, p, Am, cm, ms, l, by omega, by omega, by go_num, rfl, rfl, hl, ho, hsm, hs, hb⟩
              case measure => simp [intOf]; omega
        · have hdj : decide ((j : Int) < (n : Int)) = false := by simp; omega
          go_wp2_with (go_at_call 9; refine (known_any _).mono ?_; rintro e w9 ⟨rfl, hb9⟩)
          go_ret
          exact ⟨rfl, below_next hb hb.size hb9⟩
  · have h4 : k < 0 ∨ 3 < k := by omega
    by_cases hn200 : 200 < n
    · have hd : (200 : Int) < (n : Int) := by omega
      go_enter Try.func3, Try.ntmps3
      go_wp2_with (first
        | (go_at_call 8; refine (new_no _ _ h4).mono ?_; rintro e w' ⟨rfl, rfl⟩)
        | (go_at_call 9; refine (known_any _).mono ?_; rintro e w9 ⟨rfl, hb9⟩))
      go_ret
      exact ⟨rfl, hb9⟩
    · have hd1 : decide ((200 : Int) < (n : Int)) = false := by simp; omega
      go_enter Try.func3, Try.ntmps3
      go_wp2_with (first
        | (go_at_call 8; refine (new_no _ _ h4).mono ?_; rintro e w' ⟨rfl, rfl⟩)
        | (go_at_call 9; refine (known_any _).mono ?_; rintro e w9 ⟨rfl, hb9⟩))
      go_ret
      exact ⟨rfl, hb9⟩
end Go.Proofs.Ytjehichejggfbaa
