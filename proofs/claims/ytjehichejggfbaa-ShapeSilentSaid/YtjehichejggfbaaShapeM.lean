/- The walk of the law on silence: when each sample becomes its target, all targets are the samples. -/
import Derived.Test.YtjehichejggfbaaShapeL
namespace Go.Proofs.Ytjehichejggfbaa
open Go.RowKit
set_option linter.unusedVariables false
set_option maxHeartbeats 1600000 in
theorem walkSilent (k : Int) (A A' : Option Addr) (n ca m cb : Nat) (xs ys : List Int) (w : World) (hn : xs.length = n) (hm : ys.length = m) (hx : Rd w w.heap.size A xs) (hy : Rd w w.heap.size A' ys) (hix : I64s xs) (hiy : I64s ys) (hn2 : n ≤ maxLen) (hm2 : m ≤ maxLen) :
    Calls Try.prog 7 #[.int .i64 k, .slice A n ca, .slice A' m cb] w fun e w' => e = .returned (.bool true) ∧ Below w.heap.size w w' := by
  unfold maxLen at hn2 hm2
  by_cases hn200 : 200 < n
  · have hd : (200 : Int) < (n : Int) := by omega
    clear hn hm hix hiy
    go_enter Try.func7, Try.ntmps7
    go_wp2_with (go_at_call 9; refine (known_any _).mono ?_; rintro e w6 ⟨rfl, hb⟩)
    go_ret
    exact ⟨rfl, hb⟩
  have hd1 : decide ((200 : Int) < (n : Int)) = false := by simp; omega
  have HN := Lib.hid hn; have HM := Lib.hid hm; have HX := Lib.hid hix; have HY := Lib.hid hiy
  clear hn hm hix hiy
  go_enter Try.func7, Try.ntmps7
  go_wp2_with fail
  go_loopw [7, 8] (fun o i wr => ∃ (j : Nat) (Ao : Option Addr) (co : Nat), j ≤ n ∧ i = .int .i64 j ∧ o = .slice Ao j co ∧ Own wr w.heap.size Ao j co ((xs.map Pl.loud).take j) ∧ Below w.heap.size w wr) (fun _ i _ => n - (intOf i).toNat)
  case atStart => exact ⟨0, none, 0, by omega, rfl, rfl, by simpa using Own.nil w w.heap.size, Below.refl _ _⟩
  case round =>
    obtain ⟨j, A1, c1, hj, rfl, rfl, ho, hb⟩ := hrel
    by_cases hlt : j < n
    · obtain ⟨b, off, x, rfl, hbb, hxx, hc⟩ := (hx.later hb (Nat.le_refl _)).at (k := j) (by rw [HN.out]; exact hlt)
      have hji : (j : Int) < (n : Int) := by omega
      have hw3 := hb.size
      have HX2 := Lib.hid hxx
      clear hxx
      go_wp2_with (first
        | (at_builtin; refine app1 rfl (.tmp 25) (.tmp 31) rfl w.heap.size A1 j c1 _ (Pl.loud x) rfl rfl ho (by omega) hw3 ?_; intro A4 c4 w4 o4 g4 e4)
        | (go_at_call 20; refine (loud_r _ _).mono ?_; rintro e w' ⟨rfl, rfl⟩))
      have bb4 := hb.grown g4 hw3 (fun g h => (ho.lt h).1)
      have O4 : Own w4 w.heap.size A4 (j + 1) c4 ((xs.map Pl.loud).take (j + 1)) := by
        rw [List.take_add_one, List.getElem?_map, HX2.out]; exact o4
      clear o4 g4 e4 ho hb hc
      go_roundw
      case rel => exact ⟨j + 1, A4, c4, by omega, by go_num, rfl, O4, bb4⟩
      case measure => simp [intOf]; omega
    · have hdj : decide ((j : Int) < (n : Int)) = false := by simp; omega
      have ejn : n = j := by omega
      subst ejn
      have r1 : Rd wr wr.heap.size A1 (xs.map Pl.loud) := by
        have h := ho.rd
        rw [List.take_of_length_le (by rw [List.length_map, HN.out]; exact Nat.le_refl _)] at h
        exact h
      clear ho hj hlt
      have HL : Hid ((xs.map Pl.loud).length = n) := by show _ = _; rw [List.length_map, HN.out]
      have HI : Hid (I64s (xs.map Pl.loud)) := by
        intro y hy
        obtain ⟨z, _, rfl⟩ := List.mem_map.1 hy
        have := Pl.loud_le z; omega
      by_cases hne : n = m
      · subst hne
        go_wp2_with fail
        have hy1 := (hy.later hb (Nat.le_refl _)).more hb.size
        refine (targets_p 0 _ _ _ _ _ _ _ _ _ (by decide) (by decide) HL.out HM.out (by omega) r1 hy1 (Nat.le_refl _) HI.out HY.out).mono ?_
        rintro e w2 ⟨⟨g2, rfl, hr2⟩, b2⟩
        have bb2 := below_next hb hb.size b2
        have r2 := r1.later b2 (Nat.le_refl _)
        have HE : Hid ((Pl.trun 0 (xs.map Pl.loud) ys n).1 = xs.map Pl.loud) := by
          show _ = _
          have h := Pl.trun_low xs ys
          rw [HN.out] at h; exact h
        rw [HE.out] at hr2
        have HB := b2.size
        clear hy1 r1 hb b2
        go_wp2_with fail
        refine (ints_any _ _ _ _ _ _ _ _ _ _ _ HL.out HL.out hr2 r2 (by omega) (by omega)).mono ?_
        rintro e w3 ⟨rfl, d, hw3⟩
        have b3 : Below w.heap.size w w3 := hw3 ▸ below_drawn bb2 d
        obtain ⟨B2, hr3, hB2⟩ : ∃ B2, Rd w3 B2 A1 (xs.map Pl.loud) ∧ B2 ≤ w3.heap.size := ⟨wr.heap.size, hw3 ▸ (show Rd (w2.drewN d) wr.heap.size A1 (xs.map Pl.loud) from r2), by rw [← hw3]; exact HB⟩
        clear hw3 bb2 hr2 r2 HB
        by_cases hk : 0 ≤ k ∧ k ≤ 3
        · go_wp2_with fail
          refine (new_any _ _ hk.1 hk.2).mono ?_
          rintro e w4 ⟨rfl, hw⟩
          have s4 : Shp w4 w3.heap.size k 0 0 0 0 := hw ▸ Blk.new _ _ _
          have b4 : Below w.heap.size w w4 := hw ▸ b3.alloc b3.size _
          have r4 : Rd w4 B2 A1 (xs.map Pl.loud) := hr3.keep fun p hp => by rw [← hw]; exact World.cell?_alloc_lt w3 _ p (by omega)
          have hG : B2 ≤ w3.heap.size := hB2
          have hGw : w.heap.size ≤ w3.heap.size := b3.size
          generalize w3.heap.size = G at *
          clear hw hr3 b3 hB2
          go_wp2_with fail
          go_loopw [13] (fun i wr => ∃ (j : Nat) (l : Int), j ≤ n ∧ i = .int .i64 j ∧ Shp wr G k 0 0 0 l ∧ Rd wr B2 A1 (xs.map Pl.loud) ∧ Below w.heap.size w wr) (fun i _ => n - (intOf i).toNat)
          case atStart => exact ⟨0, 0, by omega, rfl, s4, r4, b4⟩
          case round =>
            obtain ⟨j, l, hj, rfl, hs, hr, hb⟩ := hrel
            clear s4 r4 b4
            by_cases hlt : j < n
            · obtain ⟨b, off, y, rfl, hbb, hyy, hc⟩ := hr.at (k := j) (by rw [List.length_map, HN.out]; exact hlt)
              have hji : (j : Int) < (n : Int) := by omega
              obtain ⟨z, hz⟩ : ∃ z, Pl.loud z = y := by
                rw [List.getElem?_map] at hyy
                rcases hzz : xs[j]? with _ | z
                · rw [hzz] at hyy; cases hyy
                · rw [hzz] at hyy; exact ⟨z, by simpa using hyy⟩
              have E1 : Hid (Pl.tgt k 0 0 0 y = y) := by show _ = _; rw [← hz]; exact Pl.tgt_quiet k z
              have E2 : Hid (Pl.miss y y = 0) := by show _ = _; rw [← hz]; exact Pl.miss_quiet z
              have hyb : -4529848320 ≤ y ∧ y ≤ 4529848321 := by have := Pl.loud_le z; rw [hz] at this; omega
              clear hyy hz
              go_wp2_with fail
              refine (target_any k _ _ _ _ y G _ hs small0 small0 small0).mono ?_
              rintro e w5 ⟨rfl, s5, g5⟩
              rw [E1.out] at s5 ⊢
              have r5 : Rd w5 B2 (some ⟨b, off, none⟩) (xs.map Pl.loud) := hr.keep fun p hp => World.cell?_of_block (g5.block p.block (by have := hs.lt; omega) (by intro h; injection h with h; omega))
              have b5 : Below w.heap.size w w5 := hb.trans (below_gb g5 hb.size (fun g hg => by injection hg with hg; omega))
              have hc5 : w5.cell? ⟨b, off + j, none⟩ = some (.int .i64 y) := (World.cell?_of_block (g5.block b (by have := hs.lt; omega) (by intro h; injection h with h; omega))).trans hc
              clear hs hr hb g5 hc
              go_wp2_with fail
              refine (note_any k _ _ _ y y G _ s5 small0 small0 small0 hyb).mono ?_
              rintro e w6 ⟨rfl, s6, g6⟩
              rw [E2.out] at s6
              have r6 : Rd w6 B2 (some ⟨b, off, none⟩) (xs.map Pl.loud) := r5.keep fun p hp => World.cell?_of_block (g6.block p.block (by have := s5.lt; omega) (by intro h; injection h with h; omega))
              have b6 : Below w.heap.size w w6 := b5.trans (below_gb g6 b5.size (fun g hg => by injection hg with hg; omega))
              clear s5 r5 b5 g6 hc5
              go_wp2_with fail
              go_roundw
              case rel => exact ⟨j + 1, y, by omega, by go_num, s6, r6, b6⟩
              case measure => simp [intOf]; omega
            · have hdj : decide ((j : Int) < (n : Int)) = false := by simp; omega
              go_wp2_with (go_at_call 9; refine (known_any _).mono ?_; rintro e w9 ⟨rfl, hb9⟩)
              go_ret
              exact ⟨rfl, below_next hb hb.size hb9⟩
        · have h4 : k < 0 ∨ 3 < k := by omega
          go_wp2_with (first
            | (go_at_call 8; refine (new_no _ _ h4).mono ?_; rintro e w' ⟨rfl, rfl⟩)
            | (go_at_call 9; refine (known_any _).mono ?_; rintro e w9 ⟨rfl, hb9⟩))
          go_ret
          exact ⟨rfl, below_next b3 b3.size hb9⟩
      · have hdm : ((m : Int) == (n : Int)) = false := by rw [beq_eq_false_iff_ne]; omega
        go_wp2_with fail
        refine (targets_len 0 _ _ _ _ _ _ _ (by decide) (by decide) hne).mono ?_
        rintro e w3 ⟨rfl, b3'⟩
        have b3 := below_next hb hb.size b3'
        obtain ⟨B2, hr3, hB2⟩ : ∃ B2, Rd w3 B2 A1 (xs.map Pl.loud) ∧ B2 ≤ w3.heap.size := ⟨_, r1.later b3' (Nat.le_refl _), b3'.size⟩
        clear r1 b3' hb
        by_cases hk : 0 ≤ k ∧ k ≤ 3
        · go_wp2_with fail
          refine (new_any _ _ hk.1 hk.2).mono ?_
          rintro e w4 ⟨rfl, hw⟩
          have s4 : Shp w4 w3.heap.size k 0 0 0 0 := hw ▸ Blk.new _ _ _
          have b4 : Below w.heap.size w w4 := hw ▸ b3.alloc b3.size _
          have r4 : Rd w4 B2 A1 (xs.map Pl.loud) := hr3.keep fun p hp => by rw [← hw]; exact World.cell?_alloc_lt w3 _ p (by omega)
          have hG : B2 ≤ w3.heap.size := hB2
          have hGw : w.heap.size ≤ w3.heap.size := b3.size
          generalize w3.heap.size = G at *
          clear hw hr3 b3 hB2
          go_wp2_with fail
          go_loopw [13] (fun i wr => ∃ (j : Nat) (l : Int), j ≤ n ∧ i = .int .i64 j ∧ Shp wr G k 0 0 0 l ∧ Rd wr B2 A1 (xs.map Pl.loud) ∧ Below w.heap.size w wr) (fun i _ => n - (intOf i).toNat)
          case atStart => exact ⟨0, 0, by omega, rfl, s4, r4, b4⟩
          case round =>
            obtain ⟨j, l, hj, rfl, hs, hr, hb⟩ := hrel
            clear s4 r4 b4
            by_cases hlt : j < n
            · obtain ⟨b, off, y, rfl, hbb, hyy, hc⟩ := hr.at (k := j) (by rw [List.length_map, HN.out]; exact hlt)
              have hji : (j : Int) < (n : Int) := by omega
              obtain ⟨z, hz⟩ : ∃ z, Pl.loud z = y := by
                rw [List.getElem?_map] at hyy
                rcases hzz : xs[j]? with _ | z
                · rw [hzz] at hyy; cases hyy
                · rw [hzz] at hyy; exact ⟨z, by simpa using hyy⟩
              have E1 : Hid (Pl.tgt k 0 0 0 y = y) := by show _ = _; rw [← hz]; exact Pl.tgt_quiet k z
              have E2 : Hid (Pl.miss y y = 0) := by show _ = _; rw [← hz]; exact Pl.miss_quiet z
              have hyb : -4529848320 ≤ y ∧ y ≤ 4529848321 := by have := Pl.loud_le z; rw [hz] at this; omega
              clear hyy hz
              go_wp2_with fail
              refine (target_any k _ _ _ _ y G _ hs small0 small0 small0).mono ?_
              rintro e w5 ⟨rfl, s5, g5⟩
              rw [E1.out] at s5 ⊢
              have r5 : Rd w5 B2 (some ⟨b, off, none⟩) (xs.map Pl.loud) := hr.keep fun p hp => World.cell?_of_block (g5.block p.block (by have := hs.lt; omega) (by intro h; injection h with h; omega))
              have b5 : Below w.heap.size w w5 := hb.trans (below_gb g5 hb.size (fun g hg => by injection hg with hg; omega))
              have hc5 : w5.cell? ⟨b, off + j, none⟩ = some (.int .i64 y) := (World.cell?_of_block (g5.block b (by have := hs.lt; omega) (by intro h; injection h with h; omega))).trans hc
              clear hs hr hb g5 hc
              go_wp2_with fail
              refine (note_any k _ _ _ y y G _ s5 small0 small0 small0 hyb).mono ?_
              rintro e w6 ⟨rfl, s6, g6⟩
              rw [E2.out] at s6
              have r6 : Rd w6 B2 (some ⟨b, off, none⟩) (xs.map Pl.loud) := r5.keep fun p hp => World.cell?_of_block (g6.block p.block (by have := s5.lt; omega) (by intro h; injection h with h; omega))
              have b6 : Below w.heap.size w w6 := b5.trans (below_gb g6 b5.size (fun g hg => by injection hg with hg; omega))
              clear s5 r5 b5 g6 hc5
              go_wp2_with fail
              go_roundw
              case rel => exact ⟨j + 1, y, by omega, by go_num, s6, r6, b6⟩
              case measure => simp [intOf]; omega
            · have hdj : decide ((j : Int) < (n : Int)) = false := by simp; omega
              go_wp2_with (go_at_call 9; refine (known_any _).mono ?_; rintro e w9 ⟨rfl, hb9⟩)
              go_ret
              exact ⟨rfl, below_next hb hb.size hb9⟩
        · have h4 : k < 0 ∨ 3 < k := by omega
          go_wp2_with (first
            | (go_at_call 8; refine (new_no _ _ h4).mono ?_; rintro e w' ⟨rfl, rfl⟩)
            | (go_at_call 9; refine (known_any _).mono ?_; rintro e w9 ⟨rfl, hb9⟩))
          go_ret
          exact ⟨rfl, below_next b3 b3.size hb9⟩
end Go.Proofs.Ytjehichejggfbaa
