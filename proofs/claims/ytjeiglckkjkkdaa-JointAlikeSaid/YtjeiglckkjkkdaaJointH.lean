/- The walk of the reference's Turn: the same lists, the same errors. -/
import Derived.Test.YtjeiglckkjkkdaaJointF
import Derived.Test.YtjeiglckkjkkdaaJointG
namespace Go.Proofs.Ytjeiglckkjkkdaa
open Go.RowKit
set_option linter.unusedVariables false
theorem far_far {x : Int} (h : Pl.Far x) : -8796093022208 ≤ x ∧ x ≤ 8796093022208 := by unfold Pl.Far at h; omega
theorem blk_sym {A B : Option Addr} (h : blk A = none ∨ blk A ≠ blk B) : blk B = none ∨ blk B ≠ blk A := by
  rcases h with h | h
  · rcases hB : blk B with _ | g
    · exact .inl rfl
    · exact .inr (by rw [h]; simp)
  · exact .inr (Ne.symm h)
set_option maxHeartbeats 1600000 in
theorem turn_ref (m b : Int) (A A' : Option Addr) (n q c c' B : Nat) (xs ys : List Int) (w : World) (hn : xs.length = n) (hm : ys.length = q) (hn2 : n ≤ 1000000) (hq2 : q ≤ 1000000) (hx : Rd w B A xs) (hy : Rd w B A' ys) (hB : B ≤ w.heap.size) :
    Calls Try.prog 9 #[.int .i64 m, .slice A n c, .slice A' q c', .int .i64 b] w fun e w' => (∃ (A1 A2 : Option Addr) (k1 c1 k2 c2 : Nat), e = .returned (.tuple #[.slice A1 k1 c1, .slice A2 k2 c2, .int .i64 (Pl.turnE m b xs ys)]) ∧ (Pl.turnC m b xs ys).length = k1 ∧ (Pl.turnD m b xs ys).length = k2 ∧ Rd w' w'.heap.size A1 (Pl.turnC m b xs ys) ∧ Rd w' w'.heap.size A2 (Pl.turnD m b xs ys)) ∧ Below w.heap.size w w' := by
  rcases hmay : Pl.may m b
  · have E := Lib.hid (Pl.turnE_may (xs := xs) (ys := ys) hmay)
    obtain ⟨n1, n2⟩ := Pl.turnC_no E.out (by decide)
    rw [n1, n2, E.out]
    clear n1 n2
    clear hn hm
    go_enter Try.func9, Try.ntmps9
    go_wp2_with (go_at_call 12; refine (may_r _ _ _).mono ?_; rintro e w' ⟨rfl, rfl⟩)
    go_ret3
    exact ⟨⟨none, none, 0, 0, 0, 0, rfl, rfl, rfl, Rd.nil _ _ _, Rd.nil _ _ _⟩, Below.refl _ _⟩
  · obtain ⟨m1, m2, m3, m4⟩ := Pl.may_yes hmay
    by_cases hnq : n = q
    · subst hnq
      have hll : xs.length = ys.length := by rw [hn, hm]
      have HN := Lib.hid hn; have HM := Lib.hid hm
      clear hn hm
      rcases hl1 : Pl.loudB xs b
      · rcases hl2 : Pl.loudB ys b
        · have E := Lib.hid (Pl.turnE_ok hmay hll hl1 hl2)
          obtain ⟨n1, n2⟩ := Pl.turnC_ok E.out
          rw [n1, n2, E.out]
          have L1 := Lib.hid (Pl.map2_len (Pl.ta m) xs ys hll); have L2 := Lib.hid (Pl.map2_len (Pl.tb m) xs ys hll)
          have HF1 := Lib.hid (Pl.wide_far (by omega) hl1); have HF2 := Lib.hid (Pl.wide_far (by omega) hl2)
          clear n1 n2 hll
          go_enter Try.func9, Try.ntmps9
          go_wp2_with (go_at_call 12; refine (may_r _ _ _).mono ?_; rintro e w' ⟨rfl, rfl⟩)
          refine (loud_r _ _ _ _ _ _ _ HN.out (by omega) hx).mono ?_
          rintro e w' ⟨rfl, rfl⟩
          go_wp2_with fail
          refine (loud_r _ _ _ _ _ _ _ HM.out (by omega) hy).mono ?_
          rintro e w' ⟨rfl, rfl⟩
          go_wp2_with fail
          go_loopw [11, 12, 13] (fun o mm i wr => ∃ (j : Nat) (Ao Am : Option Addr) (co cm : Nat), j ≤ n ∧ i = .int .i64 j ∧ o = .slice Ao j co ∧ mm = .slice Am j cm ∧ Own wr w.heap.size Ao j co ((Pl.map2 (Pl.ta m) xs ys).take j) ∧ Own wr w.heap.size Am j cm ((Pl.map2 (Pl.tb m) xs ys).take j) ∧ (blk Ao = none ∨ blk Ao ≠ blk Am) ∧ Below w.heap.size w wr) (fun _ _ i _ => n - (intOf i).toNat)
          case atStart => exact ⟨0, none, none, 0, 0, by omega, rfl, rfl, rfl, by simpa using Own.nil w w.heap.size, by simpa using Own.nil w w.heap.size, .inl rfl, Below.refl _ _⟩
          case round =>
            obtain ⟨j, Ao, Am, co, cm, hj, rfl, rfl, rfl, ho, hmm, hd1, hb⟩ := hrel
            by_cases hlt : j < n
            · obtain ⟨b', off, x, rfl, hbb, hxx, hcx⟩ := (hx.later hb hB).at (k := j) (by rw [HN.out]; exact hlt)
              obtain ⟨b2, off2, y, rfl, hbb2, hyy, hcy⟩ := (hy.later hb hB).at (k := j) (by rw [HM.out]; exact hlt)
              have hji : (j : Int) < (n : Int) := by omega
              have hji0 : (0 : Int) ≤ (j : Int) := by omega
              have fx := HF1.out x (List.mem_of_getElem? hxx)
              have fy := HF2.out y (List.mem_of_getElem? hyy)
              have T1 := Lib.hid (Pl.map2_take (Pl.ta m) xs ys j x y hxx hyy)
              have T2 := Lib.hid (Pl.map2_take (Pl.tb m) xs ys j x y hxx hyy)
              have HQ : Hid (∀ W : World, Calls Try.prog 24 #[.int .i64 m, .int .i64 x, .int .i64 y] W fun e w' => e = .returned (.tuple #[.int .i64 (Pl.ta m x y), .int .i64 (Pl.tb m x y)]) ∧ w' = W) := fun W => (one_r m x y (far_far fx) (far_far fy) W).mono fun _ _ ⟨he, hw⟩ => ⟨he, hw.symm⟩
              have D1 := Lib.hid hd1
              clear hxx hyy hd1
              go_wp2_with fail
              go_quiet ((go_at_call 24; exact Calls.quiet_of_same (HQ.out _)))
              go_wp2_with (first
                | (at_builtin; refine app1 rfl (.tmp 52) (.tmp 54) rfl w.heap.size Ao j co _ (Pl.ta m x y) rfl rfl (ho.drawn _) (by omega) (below_drawn hb _).size ?_; intro A4 c4 w4 o4 g4 e4; have hw4 := (below_drawn hb _).grown g4 (below_drawn hb _).size (fun g h => (ho.lt h).1))
                | (at_builtin; refine app1 rfl (.tmp 56) (.tmp 58) rfl w.heap.size Am j cm _ (Pl.tb m x y) rfl rfl ((hmm.drawn _).kept g4 (blk_sym D1.out)) (by omega) hw4.size ?_; intro A5 c5 w5 m5 g5 e5))
              have m4' := (hmm.drawn _).kept g4 (blk_sym D1.out)
              have d4 : blk A4 = none ∨ blk A4 ≠ blk Am := by
                rcases e4 with e4 | e4
                · rw [e4]; exact D1.out
                · rw [e4]; exact .inr (fun h => (hmm.drawn _).apart_new (Nat.le_succ _) h.symm)
              have o5 := o4.kept g5 d4
              have bb5 := hw4.grown g5 hw4.size (fun g h => (m4'.lt h).1)
              have d5 : blk A4 = none ∨ blk A4 ≠ blk A5 := by
                rcases e5 with e5 | e5
                · rw [e5]; exact d4
                · rw [e5]; exact .inr (o4.apart_new (Nat.le_succ _))
              rw [← T1.out] at o5
              rw [← T2.out] at m5
              clear m4' o4 ho hmm g4 g5 e4 e5 d4 hcx hcy hb hw4
              go_roundw
              case rel => exact ⟨j + 1, A4, A5, c4, c5, by omega, by go_num, rfl, rfl, o5, m5, d5, bb5⟩
              case measure => simp [intOf]; omega
            · have hd : decide ((j : Int) < (n : Int)) = false := by simp; omega
              have ejn : n = j := by omega
              subst ejn
              have R1 := ho.rd; have R2 := hmm.rd
              rw [List.take_of_length_le (by rw [L1.out, HN.out]; exact Nat.le_refl _)] at R1
              rw [List.take_of_length_le (by rw [L2.out, HN.out]; exact Nat.le_refl _)] at R2
              clear ho hmm hd1
              go_wp2_with fail
              go_ret3
              exact ⟨⟨Ao, Am, n, co, n, cm, rfl, by rw [L1.out]; exact HN.out, by rw [L2.out]; exact HN.out, R1, R2⟩, hb⟩
        · have E := Lib.hid (Pl.turnE_loud hmay hll (.inr hl2))
          obtain ⟨n1, n2⟩ := Pl.turnC_no E.out (by decide)
          rw [n1, n2, E.out]
          clear n1 n2
          clear hll
          go_enter Try.func9, Try.ntmps9
          go_wp2_with (go_at_call 12; refine (may_r _ _ _).mono ?_; rintro e w' ⟨rfl, rfl⟩)
          refine (loud_r _ _ _ _ _ _ _ HN.out (by omega) hx).mono ?_
          rintro e w' ⟨rfl, rfl⟩
          go_wp2_with fail
          refine (loud_r _ _ _ _ _ _ _ HM.out (by omega) hy).mono ?_
          rintro e w' ⟨rfl, rfl⟩
          go_wp2_with fail
          go_ret3
          exact ⟨⟨none, none, 0, 0, 0, 0, rfl, rfl, rfl, Rd.nil _ _ _, Rd.nil _ _ _⟩, Below.refl _ _⟩
      · have E := Lib.hid (Pl.turnE_loud hmay hll (.inl hl1))
        obtain ⟨n1, n2⟩ := Pl.turnC_no E.out (by decide)
        rw [n1, n2, E.out]
        clear n1 n2
        clear hll
        go_enter Try.func9, Try.ntmps9
        go_wp2_with (go_at_call 12; refine (may_r _ _ _).mono ?_; rintro e w' ⟨rfl, rfl⟩)
        refine (loud_r _ _ _ _ _ _ _ HN.out (by omega) hx).mono ?_
        rintro e w' ⟨rfl, rfl⟩
        go_wp2_with fail
        go_ret3
        exact ⟨⟨none, none, 0, 0, 0, 0, rfl, rfl, rfl, Rd.nil _ _ _, Rd.nil _ _ _⟩, Below.refl _ _⟩
    · have hd : ((n : Int) != (q : Int)) = true := by rw [bne_iff_ne]; omega
      have E := Lib.hid (Pl.turnE_len (xs := xs) (ys := ys) hmay (by rw [hn, hm]; exact hnq))
      obtain ⟨n1, n2⟩ := Pl.turnC_no E.out (by decide)
      rw [n1, n2, E.out]
      clear n1 n2
      clear hn hm hnq
      go_enter Try.func9, Try.ntmps9
      go_wp2_with (go_at_call 12; refine (may_r _ _ _).mono ?_; rintro e w' ⟨rfl, rfl⟩)
      go_ret3
      exact ⟨⟨none, none, 0, 0, 0, 0, rfl, rfl, rfl, Rd.nil _ _ _, Rd.nil _ _ _⟩, Below.refl _ _⟩
end Go.Proofs.Ytjeiglckkjkkdaa
