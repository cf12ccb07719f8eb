/- The walk of the document's steps. -/
import Derived.Test.YtkdaalceekbahaaLevinG
import Derived.Test.YtkdaalceekbahaaLevinC
namespace Go.Proofs.Ytkdaalceekbahaa
open Go.RowKit
set_option linter.unusedVariables false
theorem below_next' {B : Nat} {a b c : World} (h : Below B a b) (hB : B ≤ b.heap.size) (k : Below b.heap.size b c) : Below B a c := h.trans (k.mono hB)
theorem tot_none {r c : List Int} {err : Int} {f : Nat} {ss tot : List St} (h : Pl.step r c err = none) (ht : ss ++ Pl.solveF r f c err = tot) : ss = tot := by rw [Pl.solveF_none h, List.append_nil] at ht; exact ht
theorem tot_zero {r c : List Int} {err : Int} {f : Nat} {ss tot : List St} (h : f = 0) (ht : ss ++ Pl.solveF r f c err = tot) : ss = tot := by subst h; rw [Pl.solveF, List.append_nil] at ht; exact ht
theorem tot_some {r c : List Int} {err : Int} {f g : Nat} {ss tot : List St} {s : St} (h : Pl.step r c err = some s) (hf : f = g + 1) (ht : ss ++ Pl.solveF r f c err = tot) : (ss ++ [s]) ++ Pl.solveF r g s.2.2 s.2.1 = tot := by
  subst hf; rw [Pl.solveF_some h] at ht; rw [List.append_assoc]; exact ht
theorem own_form {w : World} {base : Nat} {A : Option Addr} {n c : Nat} {xs : List Int} (h : Own w base A n c xs) (hn : 0 < n) : ∃ g, A = some ⟨g, 0, none⟩ ∧ base ≤ g ∧ g < w.heap.size ∧ ∀ (i : Nat) (x : Int), xs[i]? = some x → w.cell? ⟨g, i, none⟩ = some (.int .i64 x) := by
  have hrd := h.rd
  rcases h.2.2 with ⟨_, h0⟩ | ⟨g, cap, cur, e, hg, hh, _⟩
  · omega
  · injection e with e1
    subst e1
    refine ⟨g, rfl, hg, Blk.lt hh, fun i x hx => ?_⟩
    obtain ⟨b, off, e2, _, hc⟩ := hrd i x hx
    injection e2 with e2; injection e2 with e3 e4
    subst e3; subst e4
    simpa using hc
theorem rd_form {w : World} {g : Nat} {xs : List Int} (hg : g < w.heap.size) (h : ∀ (i : Nat) (x : Int), xs[i]? = some x → w.cell? ⟨g, i, none⟩ = some (.int .i64 x)) : Rd w w.heap.size (some ⟨g, 0, none⟩) xs :=
  fun i x hx => ⟨g, 0, rfl, hg, by rw [Nat.zero_add]; exact h i x hx⟩
theorem fin_out {T : TypeId} {w : World} {base : Nat} {A : Option Addr} {n c : Nat} {ss tot : List St} (h : Outs T w base A n c ss) (ht : ss = tot) : ∃ A' c', Ending.returned (Value.slice A n c) = .returned (.slice A' tot.length c') ∧ ∃ base', Outs T w base' A' tot.length c' tot := by
  subst ht
  have e := h.1
  subst e
  exact ⟨A, c, rfl, base, h⟩
set_option maxHeartbeats 3200000 in
theorem solve_r (A : Option Addr) (n ca B : Nat) (xs : List Int) (order : Int) (w : World) (hn : xs.length = n) (hn2 : n ≤ 1000) (hx : Rd w B A xs) (hB : B ≤ w.heap.size) :
    Calls Try.prog 13 #[.slice A n ca, .int .i64 order] w fun e w' => (∃ A' c', e = .returned (.slice A' (Pl.solve xs order).length c') ∧ ∃ base, Outs 33 w' base A' (Pl.solve xs order).length c' (Pl.solve xs order)) ∧ Below w.heap.size w w' := by
  go_enter Try.func13, Try.ntmps13
  go_wp2_with fail
  refine (norm_r _ _ _ _ _ _ hn hn2 hx hB).mono ?_
  rintro e w1 ⟨⟨An, n', cn, rfl, hl, hr⟩, b1⟩
  have hnl : n' ≤ n := by rw [← hl, ← hn]; unfold Pl.norm; split <;> simp
  have far := Pl.norm_far xs
  have hfst := @Pl.norm_first xs
  have ES0 : Hid (Pl.solve xs order = if Pl.norm xs = [] then [] else Pl.solveF (Pl.norm xs) (Pl.most order) [] ((Pl.norm xs).getD 0 0)) := rfl
  clear hn hx
  generalize Pl.norm xs = r at *
  rcases Nat.eq_zero_or_pos n' with h0 | hpos
  · subst h0
    have hr0 : r = [] := List.eq_nil_of_length_eq_zero hl
    have ES : Hid (Pl.solve xs order = []) := by show _ = _; rw [ES0.out, if_pos hr0]
    clear far hfst ES0 hl hr0
    go_wp2_with fail
    go_ret
    exact ⟨fin_out (Outs.nil 33 w1 0) ES.out.symm, b1⟩
  · have hr0 : r ≠ [] := by rintro rfl; simp at hl; omega
    have ES : Hid (Pl.solve xs order = Pl.solveF r (Pl.most order) [] (r.getD 0 0)) := by show _ = _; rw [ES0.out, if_neg hr0]
    have hf := hfst hr0
    obtain ⟨bA, oA, r0, rfl, hbA, hr00, hc0⟩ := hr.at (k := 0) (by omega)
    have er0 := getD_get hr00
    rw [er0] at hf
    have hf1 : 1073741824 ≤ r0 ∧ r0 < 2147483648 := ⟨hf.1, hf.2.1⟩
    have hc0' : w1.cell? ⟨bA, oA, none⟩ = some (.int .i64 r0) := hc0
    have hz : ((n' : Int) == 0) = false := by simp; omega
    have ER := Lib.hid er0
    have HL := Lib.hid hl
    have hw1 := b1.size
    clear hc0 hfst ES0 hf er0 hl hr00
    go_wp2_with fail
    go_loopw [6, 7, 8, 9] (fun o cs er i wr => ∃ (j : Nat) (Ao : Option Addr) (co : Nat) (C : Option Addr) (cc : Nat) (ss : List St) (c : List Int) (err : Int),
        j ≤ 32 ∧ j ≤ Pl.most order ∧ i = .int .i64 ((j : Int) + 1) ∧ o = .slice Ao j co ∧ cs = .slice C j cc ∧ er = .int .i64 err ∧
        Outs 33 wr w1.heap.size Ao j co ss ∧ c.length = j ∧ Rd wr wr.heap.size C c ∧ Pl.Far31 c ∧ (0 ≤ err ∧ err ≤ 2147483648) ∧
        ss ++ Pl.solveF r (Pl.most order - j) c err = Pl.solve xs order ∧ Below w1.heap.size w1 wr) (fun _ _ _ i _ => 40 - (intOf i).toNat)
    case atStart => exact ⟨0, none, 0, none, 0, [], [], r0, by omega, by omega, rfl, rfl, rfl, rfl, Outs.nil _ _ _, rfl, Rd.nil _ _ _, by intro j; simp, by omega, by rw [ES.out, ER.out]; rfl, Below.refl _ _⟩
    case round =>
      obtain ⟨j, Ao, co, C, cc, ss, c, err, hj, hjM, rfl, rfl, rfl, rfl, ho, hcl, hcr, fc, he, htot, hb⟩ := hrel
      have hmo : (Pl.most order : Int) = min (max order 0) 32 := by unfold Pl.most; omega
      by_cases hA : j + 1 < n'
      · have hAi : (j : Int) + 1 < (n' : Int) := by omega
        by_cases hM : j < Pl.most order
        · have hMi : (j : Int) + 1 ≤ order ∧ (j : Int) + 1 ≤ 32 := by omega
          have hM1 := hMi.1
          have hM2 := hMi.2
          by_cases hE : 0 < err
          · have hms : Calls Try.prog 26 #[.slice (some ⟨bA, oA, none⟩) n' cn, .slice C j cc, .int .i64 ((j : Int) + 1)] wr fun e w' => e = .returned (.int .i64 (Pl.missN r c (j + 1) j)) ∧ ∃ d, w' = wr.drewN d := by
              have h := miss_r (some ⟨bA, oA, none⟩) C n' cn j cc wr.heap.size (j + 1) r c wr HL.out hcl rfl hA (by omega) ((hr.later hb (Nat.le_refl _)).more hb.size) hcr far fc
              rwa [show ((j + 1 : Nat) : Int) = (j : Int) + 1 by omega] at h
            have es0 : Pl.step r c err = if err ≤ Pl.missN r c (j + 1) j ∨ Pl.missN r c (j + 1) j ≤ -err then none else some (Pl.refl (Pl.missN r c (j + 1) j) err, Pl.less (Pl.refl (Pl.missN r c (j + 1) j) err) err, Pl.turn c (Pl.refl (Pl.missN r c (j + 1) j) err)) := by
              unfold Pl.step; rw [hcl, if_pos ⟨by rw [HL.out]; exact hA, hE⟩]
            have HMS := Lib.hid hms
            have HC := Lib.hid hcl
            have HTOT := Lib.hid htot
            clear hms hcl htot hMi
            generalize Pl.missN r c (j + 1) j = a at *
            by_cases ha : err ≤ a
            · have HT := Lib.hid (tot_none (by rw [es0, if_pos (.inl ha)]) HTOT.out)
              clear es0
              go_wp2_with (go_at_call 26; refine (HMS.out).mono ?_; rintro e w2 ⟨rfl, d, hw2⟩; have ho2 : Outs 33 w2 w1.heap.size Ao j co ss := hw2 ▸ ho; have hc2 : Rd w2 w2.heap.size C c := hw2 ▸ hcr; have hb2 : Below w1.heap.size w1 w2 := hw2 ▸ below_dn hb d; clear hw2)
              go_ret
              exact ⟨fin_out ho2 HT.out, b1.trans (hb2.mono hw1)⟩
            · have hda : decide (err ≤ a) = false := by simpa using ha
              by_cases hbb : a ≤ -err
              · have HT := Lib.hid (tot_none (by rw [es0, if_pos (.inr hbb)]) HTOT.out)
                clear es0
                go_wp2_with (go_at_call 26; refine (HMS.out).mono ?_; rintro e w2 ⟨rfl, d, hw2⟩; have ho2 : Outs 33 w2 w1.heap.size Ao j co ss := hw2 ▸ ho; have hc2 : Rd w2 w2.heap.size C c := hw2 ▸ hcr; have hb2 : Below w1.heap.size w1 w2 := hw2 ▸ below_dn hb d; clear hw2)
                go_ret
                exact ⟨fin_out ho2 HT.out, b1.trans (hb2.mono hw1)⟩
              · have hdb : decide (a ≤ -err) = false := by simpa using hbb
                rw [if_neg (by omega)] at es0
                have HT := Lib.hid (tot_some es0 (show Pl.most order - j = (Pl.most order - (j + 1)) + 1 by omega) HTOT.out)
                have hk := Pl.refl_le hE (a := a) (by omega) (by omega)
                have hl := Pl.less_le (k := Pl.refl a err) (err := err) he.1 ⟨hk.1, by omega⟩
                have HFL : Hid (∀ W : World, Calls Try.prog 21 #[.int .i64 (a * 16777216), .int .i64 err] W fun e w' => e = .returned (.int .i64 (Pl.refl a err)) ∧ W = w') := by
                  intro W
                  have h := floor_r (a * 16777216) err (by omega) (by omega) W
                  unfold Pl.floor at h
                  rwa [if_neg (by omega)] at h
                clear es0 HTOT
                generalize Pl.refl a err = k at *
                have pk : -16777216 ≤ k ∧ k ≤ 16777216 := by omega
                have p1 := Pl.prod_le (M := 16777216) (by omega) pk pk
                have p2 : 0 ≤ k * k := by
                  rcases Int.le_total 0 k with h | h
                  · exact Int.mul_nonneg h h
                  · exact Int.mul_nonneg_of_nonpos_of_nonpos h h
                have p3 := Pl.prod_le (a := k * k / 16777216) (b := err) (M := 2147483648) (by omega) (by omega) (by omega)
                have q1 : 0 ≤ k * k / 16777216 ∧ k * k / 16777216 ≤ 16777216 := by omega
                have w1' : IntKind.i64.wrap (k * k) = k * k := IntWalk.i64_in _ (by omega)
                have HF2 : Hid (∀ W : World, Calls Try.prog 21 #[.int .i64 (k * k), .int .i64 16777216] W fun e w' => e = .returned (.int .i64 (k * k / 16777216)) ∧ W = w') := fun W => floor_r (k * k) 16777216 (by omega) (by omega) W
                have HF3 : Hid (∀ W : World, Calls Try.prog 21 #[.int .i64 (k * k / 16777216 * err), .int .i64 16777216] W fun e w' => e = .returned (.int .i64 (k * k / 16777216 * err / 16777216)) ∧ W = w') := fun W => floor_r (k * k / 16777216 * err) 16777216 (by omega) (by omega) W
                have p4 : -4611686018427387904 ≤ k * k / 16777216 * err ∧ k * k / 16777216 * err ≤ 4611686018427387904 := by omega
                have p5 : 0 ≤ err - k * k / 16777216 * err / 16777216 ∧ err - k * k / 16777216 * err / 16777216 ≤ 2147483648 := by
                  have : err - k * k / 16777216 * err / 16777216 = Pl.less k err := rfl
                  omega
                have p6 : 0 ≤ k * k ∧ k * k ≤ 281474976710656 := by omega
                clear p1 p2 p3 q1
                go_wp2_with fail
                refine (HMS.out).mono ?_
                rintro e w2 ⟨rfl, d, hw2⟩
                have ho2 : Outs 33 w2 w1.heap.size Ao j co ss := hw2 ▸ ho
                have hc2 : Rd w2 w2.heap.size C c := hw2 ▸ hcr
                have hb2 : Below w1.heap.size w1 w2 := hw2 ▸ below_dn hb d
                clear hw2 HMS ho hcr hb hr hc0'
                go_wp2_with fail
                refine (HFL.out _).mono ?_
                rintro e w' ⟨rfl, rfl⟩
                clear HFL
                go_wp2_with fail
                refine (turn_r C j cc w2.heap.size c k w2 HC.out (by omega) hc2 (Nat.le_refl _) fc pk).mono ?_
                rintro e w3 ⟨⟨C', cc', rfl, o3⟩, b3⟩
                obtain ⟨g3, rfl, hg3, hg3', hcells⟩ := own_form o3 (by omega)
                have ho3 := ho2.later b3
                have hb3 := below_next' hb2 hb2.size b3
                have hapart : blk Ao ≠ some g3 := (fun h => by have := (ho2.lt h).2; omega)
                clear o3 ho2 hb2 hc2 b3
                go_wp2_with fail
                refine (HF2.out _).mono ?_
                rintro e w' ⟨rfl, rfl⟩
                clear HF2
                go_wp2_with fail
                refine (HF3.out _).mono ?_
                rintro e w' ⟨rfl, rfl⟩
                clear HF3
                have el : k * k / 16777216 * err / 16777216 = err - Pl.less k err := by show _ = err - (err - k * k / 16777216 * err / 16777216); omega
                rw [el]
                clear el p4 p5 p6 w1'
                have ew : err - (err - Pl.less k err) = Pl.less k err := by omega
                go_wp2_with (at_builtin; refine app3 33 29 Try.underlying29 info_ref rfl (.tmp 69) (.tmp 74) rfl w1.heap.size Ao j co ss (k, Pl.less k err, Pl.turn c k) g3 (j + 1) cc' rfl rfl ho3 (by rw [Pl.turn_len, HC.out]) hg3' hapart hcells (by omega) hb3.size ?_; intro A4 c4 w4 o4 g4 e4)
                have bb4 := hb3.grown g4 hb3.size (fun g h => (ho3.lt h).1)
                have hg4 : g3 < w4.heap.size := by have := g4.size; omega
                have hr4 : Rd w4 w4.heap.size (some ⟨g3, 0, none⟩) (Pl.turn c k) := rd_form hg4 (fun i x hx => (World.cell?_of_block (a := ⟨g3, i, none⟩) (g4.block g3 hg3' (fun e => hapart e.symm))).trans (hcells i x hx))
                have htl : (Pl.turn c k).length = j + 1 := by rw [Pl.turn_len, HC.out]
                clear g4 e4 ho3 hcells hb3
                go_roundw
                case rel => exact ⟨j + 1, A4, c4, some ⟨g3, 0, none⟩, cc', ss ++ [(k, Pl.less k err, Pl.turn c k)], Pl.turn c k, Pl.less k err, by omega, by omega, by go_num, rfl, rfl, rfl, o4, htl, hr4, Pl.turn_far _ _ pk, by omega, HT.out, bb4⟩
                case measure => simp [intOf]; omega
          · have hdE : decide (0 < err) = false := by simpa using hE
            have HT := Lib.hid (tot_none (f := Pl.most order - j) (ss := ss) (tot := Pl.solve xs order) (by unfold Pl.step; rw [if_neg (fun h => hE h.2)] : Pl.step r c err = none) htot)
            clear htot
            go_wp2_with fail
            go_ret
            exact ⟨fin_out ho HT.out, b1.trans (hb.mono hw1)⟩
        · have HT := Lib.hid (tot_zero (by omega : Pl.most order - j = 0) htot)
          clear htot
          by_cases h1 : (j : Int) + 1 ≤ order
          · have h2 : decide ((j : Int) + 1 ≤ 32) = false := by simp; omega
            go_wp2_with fail
            go_ret
            exact ⟨fin_out ho HT.out, b1.trans (hb.mono hw1)⟩
          · have h2 : decide ((j : Int) + 1 ≤ order) = false := by simpa using h1
            go_wp2_with fail
            go_ret
            exact ⟨fin_out ho HT.out, b1.trans (hb.mono hw1)⟩
      · have hAi : decide ((j : Int) + 1 < (n' : Int)) = false := by simp; omega
        have hst : Pl.step r c err = none := by unfold Pl.step; rw [if_neg (fun h => hA (by rw [← hcl, ← HL.out]; exact h.1))]
        have HT := Lib.hid (tot_none hst htot)
        have hoj := ho.1
        clear htot hst hmo
        go_wp2_with fail
        go_ret
        exact ⟨fin_out ho HT.out, b1.trans (hb.mono hw1)⟩
end Go.Proofs.Ytkdaalceekbahaa
