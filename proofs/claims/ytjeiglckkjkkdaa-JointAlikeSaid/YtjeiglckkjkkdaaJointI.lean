/- The walk of the reference's Back: the same lists, the same errors. -/
import Derived.Test.YtjeiglckkjkkdaaJointH
import Derived.Deep.RegionHeld3
namespace Go.Proofs.Ytjeiglckkjkkdaa
open Go.RowKit
set_option linter.unusedVariables false
set_option maxHeartbeats 1600000 in
theorem back_ref (m b : Int) (A A' : Option Addr) (n q c c' B : Nat) (xs ys : List Int) (w : World) (hn : xs.length = n) (hm : ys.length = q) (hn2 : n ≤ 1000000) (hq2 : q ≤ 1000000) (hx : Rd w B A xs) (hy : Rd w B A' ys) (hB : B ≤ w.heap.size) :
    Calls Try.prog 16 #[.int .i64 m, .slice A n c, .slice A' q c', .int .i64 b] w fun e w' => (∃ (A1 A2 : Option Addr) (k1 c1 k2 c2 : Nat), e = .returned (.tuple #[.slice A1 k1 c1, .slice A2 k2 c2, .int .i64 (Pl.backE m b xs ys)]) ∧ (Pl.backC m b xs ys).length = k1 ∧ (Pl.backD m b xs ys).length = k2 ∧ Rd w' w'.heap.size A1 (Pl.backC m b xs ys) ∧ Rd w' w'.heap.size A2 (Pl.backD m b xs ys)) ∧ Below w.heap.size w w' := by
  rcases hmay : Pl.may m b
  · have E := Lib.hid (Pl.backE_may (xs := xs) (ys := ys) hmay)
    obtain ⟨n1, n2⟩ := Pl.backC_no E.out (by decide)
    rw [n1, n2, E.out]
    clear n1 n2
    clear hn hm
    go_enter Try.func16, Try.ntmps16
    go_wp2_with (go_at_call 12; refine (may_r _ _ _).mono ?_; rintro e w' ⟨rfl, rfl⟩)
    go_ret3
    exact ⟨⟨none, none, 0, 0, 0, 0, rfl, rfl, rfl, Rd.nil _ _ _, Rd.nil _ _ _⟩, Below.refl _ _⟩
  · obtain ⟨m1, m2, m3, m4⟩ := Pl.may_yes hmay
    by_cases hnq : n = q
    · subst hnq
      have hll : xs.length = ys.length := by rw [hn, hm]
      have HN := Lib.hid hn; have HM := Lib.hid hm
      clear hn hm
      rcases hl1 : Pl.loudB xs (Pl.wa m b)
      · rcases hl2 : Pl.loudB ys (Pl.wb m b)
        · have hmay0 := Lib.hid hmay; have hll0 := Lib.hid hll
          have L1 := Lib.hid (Pl.map2_len (Pl.ba m) xs ys hll); have L2 := Lib.hid (Pl.map2_len (Pl.bb m) xs ys hll)
          have HF1 := Lib.hid (Pl.wide_far (Pl.wa_le m4) hl1); have HF2 := Lib.hid (Pl.wide_far (Pl.wb_le m4) hl2)
          have HL1 := Lib.hid hl1; have HL2 := Lib.hid hl2
          clear hll
          go_enter Try.func16, Try.ntmps16
          go_wp2_with (first | (go_at_call 12; refine (may_r _ _ _).mono ?_; rintro e w' ⟨rfl, rfl⟩) | (go_at_call 13; refine (widths_r _ _ m1 m2 m3 m4 _).mono ?_; rintro e w1 ⟨rfl, b1⟩))
          have x1 := hx.later b1 hB
          have y1 := hy.later b1 hB
          refine (loud_r _ _ _ _ _ _ _ HN.out (by omega) x1).mono ?_
          rintro e w' ⟨rfl, rfl⟩
          go_wp2_with fail
          refine (loud_r _ _ _ _ _ _ _ HM.out (by omega) y1).mono ?_
          rintro e w' ⟨rfl, rfl⟩
          go_wp2_with fail
          clear x1 y1 hl1 hl2 hmay
          go_loopw [13, 14, 15] (fun o mm i wr => ∃ (j : Nat) (Ao Am : Option Addr) (co cm : Nat), j ≤ n ∧ i = .int .i64 j ∧ o = .slice Ao j co ∧ mm = .slice Am j cm ∧ Own wr w.heap.size Ao j co ((Pl.map2 (Pl.ba m) xs ys).take j) ∧ Own wr w.heap.size Am j cm ((Pl.map2 (Pl.bb m) xs ys).take j) ∧ (blk Ao = none ∨ blk Ao ≠ blk Am) ∧ Hid (∀ z ∈ (Pl.map2 (Pl.ba m) xs ys).take j, Pl.fits z b = true) ∧ Hid (∀ z ∈ (Pl.map2 (Pl.bb m) xs ys).take j, Pl.fits z b = true) ∧ Below w.heap.size w wr) (fun _ _ i _ => n - (intOf i).toNat)
          case atStart => exact ⟨0, none, none, 0, 0, by omega, rfl, rfl, rfl, by simpa using Own.nil w1 w.heap.size, by simpa using Own.nil w1 w.heap.size, .inl rfl, fun z hz => by simp at hz, fun z hz => by simp at hz, b1⟩
          case round =>
            obtain ⟨j, Ao, Am, co, cm, hj, rfl, rfl, rfl, ho, hmm, hd1, hz1, hz2, hb⟩ := hrel
            clear b1
            by_cases hlt : j < n
            · obtain ⟨b', off, x, rfl, hbb, hxx, hcx⟩ := (hx.later hb hB).at (k := j) (by rw [HN.out]; exact hlt)
              obtain ⟨b2, off2, y, rfl, hbb2, hyy, hcy⟩ := (hy.later hb hB).at (k := j) (by rw [HM.out]; exact hlt)
              have hji : (j : Int) < (n : Int) := by omega
              have hji0 : (0 : Int) ≤ (j : Int) := by omega
              have hs1 : b' < wr.heap.size := by have := hb.size; omega
              have hs2 : b2 < wr.heap.size := by have := hb.size; omega
              have fx := HF1.out x (List.mem_of_getElem? hxx)
              have fy := HF2.out y (List.mem_of_getElem? hyy)
              have HXX := Lib.hid hxx; have HYY := Lib.hid hyy
              have T1 := Lib.hid (Pl.map2_take (Pl.ba m) xs ys j x y hxx hyy)
              have T2 := Lib.hid (Pl.map2_take (Pl.bb m) xs ys j x y hxx hyy)
              have D1 := Lib.hid hd1
              clear hxx hyy hd1
              go_wp2_with fail
              go_region_held3 (fun w' => w'.cell? ⟨b', off + j, none⟩ = some (.int .i64 x) ∧ w'.cell? ⟨b2, off2 + j, none⟩ = some (.int .i64 y)) (first | exact ⟨hcx, hcy⟩ | exact ⟨(hbf.cell (p := ⟨b', off + j, none⟩) hs1).trans hcx, (hbf.cell (p := ⟨b2, off2 + j, none⟩) hs2).trans hcy⟩) ((go_at_call 30; refine (find_r _ _ _ m1 m2 fx fy _).mono ?_; rintro e w2 ⟨rfl, hbf⟩))
              have o2 := Own.later (w := wr.drew) ho hbf
              have m2' := Own.later (w := wr.drew) hmm hbf
              have bb2 : Below w.heap.size w w2 := below_next (hb.drew) (hb.drew).size hbf
              have hw2 := bb2.size
              clear ho hmm hbf hcx hcy hb
              rcases hf1 : Pl.fits (Pl.ba m x y) b
              · have E := Lib.hid (Pl.backE_loud2 hmay0.out hll0.out (.inl (Pl.loudB_true (Pl.map2_get (Pl.ba m) xs ys j x y HXX.out HYY.out) hf1)))
                have N := Lib.hid (Pl.backC_no E.out (by decide))
                go_wp2_with (go_at_call 27; refine (fits_r _ _ _).mono ?_; rintro e w' ⟨rfl, rfl⟩)
                go_ret3
                exact ⟨⟨none, none, 0, 0, 0, 0, ret_three rfl rfl E.out.symm, by rw [N.out.1]; rfl, by rw [N.out.2]; rfl, by rw [N.out.1]; exact Rd.nil _ _ _, by rw [N.out.2]; exact Rd.nil _ _ _⟩, bb2⟩
              · rcases hf2 : Pl.fits (Pl.bb m x y) b
                · have E := Lib.hid (Pl.backE_loud2 hmay0.out hll0.out (.inr (Pl.loudB_true (Pl.map2_get (Pl.bb m) xs ys j x y HXX.out HYY.out) hf2)))
                  have N := Lib.hid (Pl.backC_no E.out (by decide))
                  go_wp2_with (go_at_call 27; refine (fits_r _ _ _).mono ?_; rintro e w' ⟨rfl, rfl⟩)
                  go_ret3
                  exact ⟨⟨none, none, 0, 0, 0, 0, ret_three rfl rfl E.out.symm, by rw [N.out.1]; rfl, by rw [N.out.2]; rfl, by rw [N.out.1]; exact Rd.nil _ _ _, by rw [N.out.2]; exact Rd.nil _ _ _⟩, bb2⟩
                · have z1 : Hid (∀ z ∈ (Pl.map2 (Pl.ba m) xs ys).take (j + 1), Pl.fits z b = true) := Pl.take_fits (Pl.map2_get (Pl.ba m) xs ys j x y HXX.out HYY.out) hz1.out hf1
                  have z2 : Hid (∀ z ∈ (Pl.map2 (Pl.bb m) xs ys).take (j + 1), Pl.fits z b = true) := Pl.take_fits (Pl.map2_get (Pl.bb m) xs ys j x y HXX.out HYY.out) hz2.out hf2
                  go_wp2_with (first
                    | (go_at_call 27; refine (fits_r _ _ _).mono ?_; rintro e w' ⟨rfl, rfl⟩)
                    | (at_builtin; refine app1 rfl (.tmp 76) (.tmp 78) rfl w.heap.size Ao j co _ (Pl.ba m x y) rfl rfl o2 (by omega) hw2 ?_; intro A4 c4 w4 o4 g4 e4; have hw4 := bb2.grown g4 hw2 (fun g h => (o2.lt h).1))
                    | (at_builtin; refine app1 rfl (.tmp 80) (.tmp 82) rfl w.heap.size Am j cm _ (Pl.bb m x y) rfl rfl (m2'.kept g4 (blk_sym D1.out)) (by omega) hw4.size ?_; intro A5 c5 w5 m5 g5 e5))
                  have m4' := m2'.kept g4 (blk_sym D1.out)
                  have d4 : blk A4 = none ∨ blk A4 ≠ blk Am := by
                    rcases e4 with e4 | e4
                    · rw [e4]; exact D1.out
                    · rw [e4]; exact .inr (fun h => m2'.apart_new (Nat.le_succ _) h.symm)
                  have o5 := o4.kept g5 d4
                  have bb5 := hw4.grown g5 hw4.size (fun g h => (m4'.lt h).1)
                  have d5 : blk A4 = none ∨ blk A4 ≠ blk A5 := by
                    rcases e5 with e5 | e5
                    · rw [e5]; exact d4
                    · rw [e5]; exact .inr (o4.apart_new (Nat.le_succ _))
                  rw [← T1.out] at o5
                  rw [← T2.out] at m5
                  clear m4' o4 o2 m2' g4 g5 e4 e5 d4 bb2 hw4
                  go_roundw
                  case rel => exact ⟨j + 1, A4, A5, c4, c5, by omega, by go_num, rfl, rfl, o5, m5, d5, z1, z2, bb5⟩
                  case measure => simp [intOf]; omega
            · have hd : decide ((j : Int) < (n : Int)) = false := by simp; omega
              have ejn : n = j := by omega
              subst ejn
              have R1 := ho.rd; have R2 := hmm.rd
              have z1 := hz1.out; have z2 := hz2.out
              rw [List.take_of_length_le (by rw [L1.out, HN.out]; exact Nat.le_refl _)] at R1 z1
              rw [List.take_of_length_le (by rw [L2.out, HN.out]; exact Nat.le_refl _)] at R2 z2
              have E := Lib.hid (Pl.backE_ok hmay0.out hll0.out HL1.out HL2.out (Pl.loudB_of z1) (Pl.loudB_of z2))
              have N := Lib.hid (Pl.backC_ok E.out)
              clear ho hmm hd1 z1 z2
              go_wp2_with fail
              go_ret3
              exact ⟨⟨Ao, Am, n, co, n, cm, ret_three rfl rfl E.out.symm, by rw [N.out.1, L1.out]; exact HN.out, by rw [N.out.2, L2.out]; exact HN.out, by rw [N.out.1]; exact R1, by rw [N.out.2]; exact R2⟩, hb⟩
        · have E := Lib.hid (Pl.backE_loud hmay hll (.inr hl2))
          obtain ⟨n1, n2⟩ := Pl.backC_no E.out (by decide)
          rw [n1, n2, E.out]
          clear n1 n2
          clear hll
          go_enter Try.func16, Try.ntmps16
          go_wp2_with (first | (go_at_call 12; refine (may_r _ _ _).mono ?_; rintro e w' ⟨rfl, rfl⟩) | (go_at_call 13; refine (widths_r _ _ m1 m2 m3 m4 _).mono ?_; rintro e w1 ⟨rfl, b1⟩))
          have x1 := hx.later b1 hB
          have y1 := hy.later b1 hB
          refine (loud_r _ _ _ _ _ _ _ HN.out (by omega) x1).mono ?_
          rintro e w' ⟨rfl, rfl⟩
          go_wp2_with fail
          refine (loud_r _ _ _ _ _ _ _ HM.out (by omega) y1).mono ?_
          rintro e w' ⟨rfl, rfl⟩
          go_wp2_with fail
          go_ret3
          exact ⟨⟨none, none, 0, 0, 0, 0, rfl, rfl, rfl, Rd.nil _ _ _, Rd.nil _ _ _⟩, b1⟩
      · have E := Lib.hid (Pl.backE_loud hmay hll (.inl hl1))
        obtain ⟨n1, n2⟩ := Pl.backC_no E.out (by decide)
        rw [n1, n2, E.out]
        clear n1 n2
        clear hll
        go_enter Try.func16, Try.ntmps16
        go_wp2_with (first | (go_at_call 12; refine (may_r _ _ _).mono ?_; rintro e w' ⟨rfl, rfl⟩) | (go_at_call 13; refine (widths_r _ _ m1 m2 m3 m4 _).mono ?_; rintro e w1 ⟨rfl, b1⟩))
        have x1 := hx.later b1 hB
        have y1 := hy.later b1 hB
        refine (loud_r _ _ _ _ _ _ _ HN.out (by omega) x1).mono ?_
        rintro e w' ⟨rfl, rfl⟩
        go_wp2_with fail
        go_ret3
        exact ⟨⟨none, none, 0, 0, 0, 0, rfl, rfl, rfl, Rd.nil _ _ _, Rd.nil _ _ _⟩, b1⟩
    · have hd : ((n : Int) != (q : Int)) = true := by rw [bne_iff_ne]; omega
      have E := Lib.hid (Pl.backE_len (xs := xs) (ys := ys) hmay (by rw [hn, hm]; exact hnq))
      obtain ⟨n1, n2⟩ := Pl.backC_no E.out (by decide)
      rw [n1, n2, E.out]
      clear n1 n2
      clear hn hm hnq
      go_enter Try.func16, Try.ntmps16
      go_wp2_with (go_at_call 12; refine (may_r _ _ _).mono ?_; rintro e w' ⟨rfl, rfl⟩)
      go_ret3
      exact ⟨⟨none, none, 0, 0, 0, 0, rfl, rfl, rfl, Rd.nil _ _ _, Rd.nil _ _ _⟩, Below.refl _ _⟩
end Go.Proofs.Ytjeiglckkjkkdaa
