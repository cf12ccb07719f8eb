/- The walk of joint's Back: it makes the plain lists, or the plain error. -/
import Derived.Test.YtjeiglckkjkkdaaJointD
import Derived.Test.YtjeiglckkjkkdaaJointQ
namespace Go.Proofs.Ytjeiglckkjkkdaa
open Go.RowKit
set_option linter.unusedVariables false
set_option maxHeartbeats 1600000 in
theorem back_any (m b : Int) (A A' : Option Addr) (n q c c' B : Nat) (xs ys : List Int) (w : World) (hn : xs.length = n) (hm : ys.length = q) (hn2 : n ≤ 1000000) (hq2 : q ≤ 1000000) (hx : Rd w B A xs) (hy : Rd w B A' ys) (hB : B ≤ w.heap.size) :
    Calls Try.prog 15 #[.int .i64 m, .slice A n c, .slice A' q c', .int .i64 b] w fun e w' => (∃ (A1 A2 : Option Addr) (k1 c1 k2 c2 : Nat), e = .returned (.tuple #[.slice A1 k1 c1, .slice A2 k2 c2, .int .i64 (Pl.backE m b xs ys)]) ∧ (Pl.backC m b xs ys).length = k1 ∧ (Pl.backD m b xs ys).length = k2 ∧ Rd w' w'.heap.size A1 (Pl.backC m b xs ys) ∧ Rd w' w'.heap.size A2 (Pl.backD m b xs ys)) ∧ Below w.heap.size w w' := by
  have b1 : Below w.heap.size w (w.alloc (.cells #[.int .i64 m] 3)) := (Below.refl _ _).alloc (Nat.le_refl _) _
  have r1 := hx.later b1 hB
  have r2 := hy.later b1 hB
  have cc : (w.alloc (.cells #[.int .i64 m] 3)).cell? ⟨w.heap.size, 0, none⟩ = some (.int .i64 m) := (Blk.new w _ _).cell 0
  have hlt : w.heap.size < (w.alloc (.cells #[.int .i64 m] 3)).heap.size := by simp
  rcases hmay : Pl.may m b
  · have E := Lib.hid (Pl.backE_may (xs := xs) (ys := ys) hmay)
    obtain ⟨n1, n2⟩ := Pl.backC_no E.out (by decide)
    rw [n1, n2, E.out]
    clear n1 n2
    clear hn hm
    go_enter Try.func15, Try.ntmps15
    go_wp2_with (first | (go_at_call 19; refine (refused_p _ _ _ _ _ _ _ _ _).mono ?_; rintro e w' ⟨rfl, rfl⟩))
    generalize w.alloc (.cells #[.int .i64 m] 3) = w1 at *
    go_ret3
    exact ⟨⟨none, none, 0, 0, 0, 0, rfl, rfl, rfl, Rd.nil _ _ _, Rd.nil _ _ _⟩, b1⟩
  · obtain ⟨m1, m2, m3, m4⟩ := Pl.may_yes hmay
    by_cases hnq : n = q
    · subst hnq
      have hll : xs.length = ys.length := by rw [hn, hm]
      have HN := Lib.hid hn; have HM := Lib.hid hm
      have HM' : Hid (xs.length = n) := hn
      clear hn hm
      rcases hl1 : Pl.loudB xs (Pl.wa m b)
      · rcases hl2 : Pl.loudB ys (Pl.wb m b)
        · have L1 := Lib.hid (Pl.map2_len (Pl.ba m) xs ys hll); have L2 := Lib.hid (Pl.map2_len (Pl.bb m) xs ys hll)
          have HF1 := Lib.hid (Pl.wide_far (Pl.wa_le m4) hl1); have HF2 := Lib.hid (Pl.wide_far (Pl.wb_le m4) hl2)
          rcases hl3 : Pl.loudB (Pl.map2 (Pl.ba m) xs ys) b
          · rcases hl4 : Pl.loudB (Pl.map2 (Pl.bb m) xs ys) b
            · have E := Lib.hid (Pl.backE_ok hmay hll hl1 hl2 hl3 hl4)
              obtain ⟨n1, n2⟩ := Pl.backC_ok E.out
              rw [n1, n2, E.out]
              clear n1 n2 hll
              go_enter Try.func15, Try.ntmps15
              go_wp2_with (first | (go_at_call 19; refine (refused_p _ _ _ _ _ _ _ _ _).mono ?_; rintro e w' ⟨rfl, rfl⟩) | (go_at_call 26; refine (widths_p _ _ m3 m4 _).mono ?_; rintro e w' ⟨rfl, rfl⟩))
              generalize w.alloc (.cells #[.int .i64 m] 3) = w1 at *
              refine (loud_p _ _ _ _ _ _ _ HN.out (by omega) r1 (Nat.le_trans hB b1.size)).mono ?_
              rintro e w2 ⟨rfl, b2⟩
              have r1' := r1.later b2 (Nat.le_trans hB b1.size)
              have r2' := r2.later b2 (Nat.le_trans hB b1.size)
              have bb2 := below_next b1 b1.size b2
              have c2 : w2.cell? ⟨w.heap.size, 0, none⟩ = some (.int .i64 m) := (b2.cell (p := ⟨w.heap.size, 0, none⟩) hlt).trans cc
              have hlt2 : w.heap.size < w2.heap.size := Nat.lt_of_lt_of_le hlt b2.size
              clear cc b2 b1 r1 r2 hlt
              go_wp2_with fail
              refine (loud_p _ _ _ _ _ _ _ HM.out (by omega) r2' (Nat.le_trans hB bb2.size)).mono ?_
              rintro e w3 ⟨rfl, b3⟩
              have r1'' := r1'.later b3 (Nat.le_trans hB bb2.size)
              have r2'' := r2'.later b3 (Nat.le_trans hB bb2.size)
              have bb3 := below_next bb2 bb2.size b3
              have c3 : w3.cell? ⟨w.heap.size, 0, none⟩ = some (.int .i64 m) := (b3.cell (p := ⟨w.heap.size, 0, none⟩) hlt2).trans c2
              have hlt3 : w.heap.size < w3.heap.size := Nat.lt_of_lt_of_le hlt2 b3.size
              clear c2 b3 bb2 r1' r2' hlt2
              go_wp2_with fail
              refine (both_back m _ _ _ _ _ _ _ _ _ _ HN.out HM.out hn2 r1'' r2'' (Nat.le_trans hB bb3.size) hlt3 c3 HF1.out HF2.out).mono ?_
              rintro e w4 ⟨⟨g1, g2, rfl, q1, q2⟩, b4⟩
              have bb4 := below_next bb3 bb3.size b4
              clear b4 bb3 c3 r1'' r2''
              go_wp2_with fail
              refine (loud_p _ _ _ _ _ _ _ (L1.out.trans HN.out) (by omega) q1 (Nat.le_refl _)).mono ?_
              rintro e w5 ⟨rfl, b5⟩
              have q2' := q2.later b5 (Nat.le_refl _)
              have q1' := q1.later b5 (Nat.le_refl _)
              have bb5 := below_next bb4 bb4.size b5
              have hs5 := b5.size
              clear b5 bb4 q1 q2
              go_wp2_with fail
              refine (loud_p _ _ _ _ _ _ _ (L2.out.trans HM'.out) (by omega) q2' hs5).mono ?_
              rintro e w6 ⟨rfl, b6⟩
              have q1'' := (q1'.later b6 hs5).more (Nat.le_trans hs5 b6.size)
              have q2'' := (q2'.later b6 hs5).more (Nat.le_trans hs5 b6.size)
              have bb6 := below_next bb5 bb5.size b6
              clear b6 bb5 q1' q2'
              go_wp2_with fail
              go_ret3
              exact ⟨⟨_, _, n, n, n, n, rfl, by rw [L1.out]; exact HN.out, by rw [L2.out]; exact HN.out, q1'', q2''⟩, bb6⟩
            · have E := Lib.hid (Pl.backE_loud2 hmay hll (.inr hl4))
              obtain ⟨n1, n2⟩ := Pl.backC_no E.out (by decide)
              rw [n1, n2, E.out]
              clear n1 n2
              clear hll
              go_enter Try.func15, Try.ntmps15
              go_wp2_with (first | (go_at_call 19; refine (refused_p _ _ _ _ _ _ _ _ _).mono ?_; rintro e w' ⟨rfl, rfl⟩) | (go_at_call 26; refine (widths_p _ _ m3 m4 _).mono ?_; rintro e w' ⟨rfl, rfl⟩))
              generalize w.alloc (.cells #[.int .i64 m] 3) = w1 at *
              refine (loud_p _ _ _ _ _ _ _ HN.out (by omega) r1 (Nat.le_trans hB b1.size)).mono ?_
              rintro e w2 ⟨rfl, b2⟩
              have r1' := r1.later b2 (Nat.le_trans hB b1.size)
              have r2' := r2.later b2 (Nat.le_trans hB b1.size)
              have bb2 := below_next b1 b1.size b2
              have c2 : w2.cell? ⟨w.heap.size, 0, none⟩ = some (.int .i64 m) := (b2.cell (p := ⟨w.heap.size, 0, none⟩) hlt).trans cc
              have hlt2 : w.heap.size < w2.heap.size := Nat.lt_of_lt_of_le hlt b2.size
              clear cc b2 b1 r1 r2 hlt
              go_wp2_with fail
              refine (loud_p _ _ _ _ _ _ _ HM.out (by omega) r2' (Nat.le_trans hB bb2.size)).mono ?_
              rintro e w3 ⟨rfl, b3⟩
              have r1'' := r1'.later b3 (Nat.le_trans hB bb2.size)
              have r2'' := r2'.later b3 (Nat.le_trans hB bb2.size)
              have bb3 := below_next bb2 bb2.size b3
              have c3 : w3.cell? ⟨w.heap.size, 0, none⟩ = some (.int .i64 m) := (b3.cell (p := ⟨w.heap.size, 0, none⟩) hlt2).trans c2
              have hlt3 : w.heap.size < w3.heap.size := Nat.lt_of_lt_of_le hlt2 b3.size
              clear c2 b3 bb2 r1' r2' hlt2
              go_wp2_with fail
              refine (both_back m _ _ _ _ _ _ _ _ _ _ HN.out HM.out hn2 r1'' r2'' (Nat.le_trans hB bb3.size) hlt3 c3 HF1.out HF2.out).mono ?_
              rintro e w4 ⟨⟨g1, g2, rfl, q1, q2⟩, b4⟩
              have bb4 := below_next bb3 bb3.size b4
              clear b4 bb3 c3 r1'' r2''
              go_wp2_with fail
              refine (loud_p _ _ _ _ _ _ _ (L1.out.trans HN.out) (by omega) q1 (Nat.le_refl _)).mono ?_
              rintro e w5 ⟨rfl, b5⟩
              have q2' := q2.later b5 (Nat.le_refl _)
              have q1' := q1.later b5 (Nat.le_refl _)
              have bb5 := below_next bb4 bb4.size b5
              have hs5 := b5.size
              clear b5 bb4 q1 q2
              go_wp2_with fail
              refine (loud_p _ _ _ _ _ _ _ (L2.out.trans HM'.out) (by omega) q2' hs5).mono ?_
              rintro e w6 ⟨rfl, b6⟩
              have q1'' := (q1'.later b6 hs5).more (Nat.le_trans hs5 b6.size)
              have q2'' := (q2'.later b6 hs5).more (Nat.le_trans hs5 b6.size)
              have bb6 := below_next bb5 bb5.size b6
              clear b6 bb5 q1' q2'
              go_wp2_with fail
              go_ret3
              exact ⟨⟨none, none, 0, 0, 0, 0, rfl, rfl, rfl, Rd.nil _ _ _, Rd.nil _ _ _⟩, bb6⟩
          · have E := Lib.hid (Pl.backE_loud2 hmay hll (.inl hl3))
            obtain ⟨n1, n2⟩ := Pl.backC_no E.out (by decide)
            rw [n1, n2, E.out]
            clear n1 n2
            clear hll
            go_enter Try.func15, Try.ntmps15
            go_wp2_with (first | (go_at_call 19; refine (refused_p _ _ _ _ _ _ _ _ _).mono ?_; rintro e w' ⟨rfl, rfl⟩) | (go_at_call 26; refine (widths_p _ _ m3 m4 _).mono ?_; rintro e w' ⟨rfl, rfl⟩))
            generalize w.alloc (.cells #[.int .i64 m] 3) = w1 at *
            refine (loud_p _ _ _ _ _ _ _ HN.out (by omega) r1 (Nat.le_trans hB b1.size)).mono ?_
            rintro e w2 ⟨rfl, b2⟩
            have r1' := r1.later b2 (Nat.le_trans hB b1.size)
            have r2' := r2.later b2 (Nat.le_trans hB b1.size)
            have bb2 := below_next b1 b1.size b2
            have c2 : w2.cell? ⟨w.heap.size, 0, none⟩ = some (.int .i64 m) := (b2.cell (p := ⟨w.heap.size, 0, none⟩) hlt).trans cc
            have hlt2 : w.heap.size < w2.heap.size := Nat.lt_of_lt_of_le hlt b2.size
            clear cc b2 b1 r1 r2 hlt
            go_wp2_with fail
            refine (loud_p _ _ _ _ _ _ _ HM.out (by omega) r2' (Nat.le_trans hB bb2.size)).mono ?_
            rintro e w3 ⟨rfl, b3⟩
            have r1'' := r1'.later b3 (Nat.le_trans hB bb2.size)
            have r2'' := r2'.later b3 (Nat.le_trans hB bb2.size)
            have bb3 := below_next bb2 bb2.size b3
            have c3 : w3.cell? ⟨w.heap.size, 0, none⟩ = some (.int .i64 m) := (b3.cell (p := ⟨w.heap.size, 0, none⟩) hlt2).trans c2
            have hlt3 : w.heap.size < w3.heap.size := Nat.lt_of_lt_of_le hlt2 b3.size
            clear c2 b3 bb2 r1' r2' hlt2
            go_wp2_with fail
            refine (both_back m _ _ _ _ _ _ _ _ _ _ HN.out HM.out hn2 r1'' r2'' (Nat.le_trans hB bb3.size) hlt3 c3 HF1.out HF2.out).mono ?_
            rintro e w4 ⟨⟨g1, g2, rfl, q1, q2⟩, b4⟩
            have bb4 := below_next bb3 bb3.size b4
            clear b4 bb3 c3 r1'' r2''
            go_wp2_with fail
            refine (loud_p _ _ _ _ _ _ _ (L1.out.trans HN.out) (by omega) q1 (Nat.le_refl _)).mono ?_
            rintro e w5 ⟨rfl, b5⟩
            have q2' := q2.later b5 (Nat.le_refl _)
            have q1' := q1.later b5 (Nat.le_refl _)
            have bb5 := below_next bb4 bb4.size b5
            have hs5 := b5.size
            clear b5 bb4 q1 q2
            go_wp2_with fail
            go_ret3
            exact ⟨⟨none, none, 0, 0, 0, 0, rfl, rfl, rfl, Rd.nil _ _ _, Rd.nil _ _ _⟩, bb5⟩
        · have E := Lib.hid (Pl.backE_loud hmay hll (.inr hl2))
          obtain ⟨n1, n2⟩ := Pl.backC_no E.out (by decide)
          rw [n1, n2, E.out]
          clear n1 n2
          clear hll
          go_enter Try.func15, Try.ntmps15
          go_wp2_with (first | (go_at_call 19; refine (refused_p _ _ _ _ _ _ _ _ _).mono ?_; rintro e w' ⟨rfl, rfl⟩) | (go_at_call 26; refine (widths_p _ _ m3 m4 _).mono ?_; rintro e w' ⟨rfl, rfl⟩))
          generalize w.alloc (.cells #[.int .i64 m] 3) = w1 at *
          refine (loud_p _ _ _ _ _ _ _ HN.out (by omega) r1 (Nat.le_trans hB b1.size)).mono ?_
          rintro e w2 ⟨rfl, b2⟩
          have r1' := r1.later b2 (Nat.le_trans hB b1.size)
          have r2' := r2.later b2 (Nat.le_trans hB b1.size)
          have bb2 := below_next b1 b1.size b2
          have c2 : w2.cell? ⟨w.heap.size, 0, none⟩ = some (.int .i64 m) := (b2.cell (p := ⟨w.heap.size, 0, none⟩) hlt).trans cc
          have hlt2 : w.heap.size < w2.heap.size := Nat.lt_of_lt_of_le hlt b2.size
          clear cc b2 b1 r1 r2 hlt
          go_wp2_with fail
          refine (loud_p _ _ _ _ _ _ _ HM.out (by omega) r2' (Nat.le_trans hB bb2.size)).mono ?_
          rintro e w3 ⟨rfl, b3⟩
          have r1'' := r1'.later b3 (Nat.le_trans hB bb2.size)
          have r2'' := r2'.later b3 (Nat.le_trans hB bb2.size)
          have bb3 := below_next bb2 bb2.size b3
          have c3 : w3.cell? ⟨w.heap.size, 0, none⟩ = some (.int .i64 m) := (b3.cell (p := ⟨w.heap.size, 0, none⟩) hlt2).trans c2
          have hlt3 : w.heap.size < w3.heap.size := Nat.lt_of_lt_of_le hlt2 b3.size
          clear c2 b3 bb2 r1' r2' hlt2
          go_wp2_with fail
          go_ret3
          exact ⟨⟨none, none, 0, 0, 0, 0, rfl, rfl, rfl, Rd.nil _ _ _, Rd.nil _ _ _⟩, bb3⟩
      · have E := Lib.hid (Pl.backE_loud hmay hll (.inl hl1))
        obtain ⟨n1, n2⟩ := Pl.backC_no E.out (by decide)
        rw [n1, n2, E.out]
        clear n1 n2
        clear hll
        go_enter Try.func15, Try.ntmps15
        go_wp2_with (first | (go_at_call 19; refine (refused_p _ _ _ _ _ _ _ _ _).mono ?_; rintro e w' ⟨rfl, rfl⟩) | (go_at_call 26; refine (widths_p _ _ m3 m4 _).mono ?_; rintro e w' ⟨rfl, rfl⟩))
        generalize w.alloc (.cells #[.int .i64 m] 3) = w1 at *
        refine (loud_p _ _ _ _ _ _ _ HN.out (by omega) r1 (Nat.le_trans hB b1.size)).mono ?_
        rintro e w2 ⟨rfl, b2⟩
        have r1' := r1.later b2 (Nat.le_trans hB b1.size)
        have r2' := r2.later b2 (Nat.le_trans hB b1.size)
        have bb2 := below_next b1 b1.size b2
        have c2 : w2.cell? ⟨w.heap.size, 0, none⟩ = some (.int .i64 m) := (b2.cell (p := ⟨w.heap.size, 0, none⟩) hlt).trans cc
        have hlt2 : w.heap.size < w2.heap.size := Nat.lt_of_lt_of_le hlt b2.size
        clear cc b2 b1 r1 r2 hlt
        go_wp2_with fail
        go_ret3
        exact ⟨⟨none, none, 0, 0, 0, 0, rfl, rfl, rfl, Rd.nil _ _ _, Rd.nil _ _ _⟩, bb2⟩
    · have E := Lib.hid (Pl.backE_len (xs := xs) (ys := ys) hmay (by rw [hn, hm]; exact hnq))
      obtain ⟨n1, n2⟩ := Pl.backC_no E.out (by decide)
      rw [n1, n2, E.out]
      clear n1 n2
      clear hn hm
      go_enter Try.func15, Try.ntmps15
      go_wp2_with (first | (go_at_call 19; refine (refused_p _ _ _ _ _ _ _ _ _).mono ?_; rintro e w' ⟨rfl, rfl⟩))
      generalize w.alloc (.cells #[.int .i64 m] 3) = w1 at *
      go_ret3
      exact ⟨⟨none, none, 0, 0, 0, 0, rfl, rfl, rfl, Rd.nil _ _ _, Rd.nil _ _ _⟩, b1⟩
end Go.Proofs.Ytjeiglckkjkkdaa
