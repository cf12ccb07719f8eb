/- The walk of levin's steps. -/
import Derived.Test.YtkdaalceekbahaaLevinH
import Derived.Test.YtkdaalceekbahaaLevinB
import Derived.Deep.AppendLies
namespace Go.Proofs.Ytkdaalceekbahaa
open Go.RowKit
theorem OutsV.later {T : TypeId} {w w' : World} {base : Nat} {A : Option Addr} {n c : Nat} {ss : List St} {vs : List Value} (h : OutsV T w base A n c ss vs) (hb : Below w.heap.size w w') : OutsV T w' base A n c ss vs := by
  obtain ⟨hl, ho, hss⟩ := h
  have hg : w.grownBy w' none := gb_below hb (Nat.le_refl _) none
  refine ⟨hl, ho.kept hg (by rw [ownBlock_blk]; cases A <;> simp [blk]), fun i s hi => ?_⟩
  obtain ⟨b, q, h1, h2, h3, hb2, hA, hc⟩ := hss i s hi
  exact ⟨b, q, h1, h2, h3, by have := hg.size; omega, hA, fun j x hx => (World.cell?_of_block (a := ⟨b, j, none⟩) (hg.block b hb2 (by simp))).trans (hc j x hx)⟩
theorem OutsV.row {T : TypeId} {w : World} {base : Nat} {A : Option Addr} {n c : Nat} {ss : List St} {vs : List Value} (h : OutsV T w base A n c ss vs) : w.ownsRow base T 3 (.slice A n c) n vs := h.2.1
set_option linter.unusedVariables false
theorem Rd.grown {w w' : World} {B bC oC : Nat} {xs : List Int} {row : Option Nat} (h : Rd w B (some ⟨bC, oC, none⟩) xs) (hg : w.grownBy w' row) (hB : bC < w.heap.size) (hne : row ≠ some bC) : Rd w' w'.heap.size (some ⟨bC, oC, none⟩) xs := by
  intro i x hx
  obtain ⟨b, off, e, _, hc⟩ := h i x hx
  injection e with e; injection e with e1 e2
  subst e1; subst e2
  exact ⟨bC, oC, rfl, by have := hg.size; omega, (World.cell?_of_block (a := ⟨bC, oC + i, none⟩) (hg.block bC hB (fun e => hne e.symm))).trans hc⟩
set_option maxHeartbeats 3200000 in
theorem solve_p (A : Option Addr) (n ca B : Nat) (xs : List Int) (order : Int) (w : World) (hn : xs.length = n) (hn2 : n ≤ 1000) (hx : Rd w B A xs) (hB : B ≤ w.heap.size) :
    Calls Try.prog 12 #[.slice A n ca, .int .i64 order] w fun e w' => (∃ A' c', e = .returned (.slice A' (Pl.solve xs order).length c') ∧ ∃ base, Outs 36 w' base A' (Pl.solve xs order).length c' (Pl.solve xs order)) ∧ Below w.heap.size w w' := by
  go_enter Try.func12, Try.ntmps12
  go_wp2
  go_step3
  go_wp2_with fail
  refine (norm_p _ _ _ _ _ _ hn (by omega) hx hB).mono ?_
  rintro e w1 ⟨⟨An, n', cn, rfl, hl, hr⟩, b1⟩
  have hnl : n' ≤ n := by rw [← hl, ← hn]; unfold Pl.norm; split <;> simp
  have far := Pl.norm_far xs
  have hfst := @Pl.norm_first xs
  have ES0 : Hid (Pl.solve xs order = if Pl.norm xs = [] then [] else Pl.solveF (Pl.norm xs) (Pl.most order) [] ((Pl.norm xs).getD 0 0)) := rfl
  clear hn hx
  generalize Pl.norm xs = r at *
  rcases Nat.eq_zero_or_pos n' with h0 | hpos
  · subst h0
    have hr0 : r = [] := List.eq_nil_of_length_eq_zero hl
    have ES : Hid (Pl.solve xs order = []) := by show _ = _; rw [ES0.out, if_pos hr0]
    clear far hfst ES0 hl hr0
    go_wp2_with fail
    rw [Exit.noGoto_ret]
    go_ret
    exact ⟨fin_out (Outs.nil 36 _ 0) ES.out.symm, b1.alloc b1.size _⟩
  · have hr0 : r ≠ [] := by rintro rfl; simp at hl; omega
    have ES : Hid (Pl.solve xs order = Pl.solveF r (Pl.most order) [] (r.getD 0 0)) := by show _ = _; rw [ES0.out, if_neg hr0]
    have hf := hfst hr0
    obtain ⟨bA, oA, r0, rfl, hbA, hr00, hc0⟩ := hr.at (k := 0) (by omega)
    have er0 := getD_get hr00
    rw [er0] at hf
    have hf1 : 1073741824 ≤ r0 ∧ r0 < 2147483648 := ⟨hf.1, hf.2.1⟩
    have hc0' : w1.cell? ⟨bA, oA, none⟩ = some (.int .i64 r0) := hc0
    clear hc0
    have hz : ((n' : Int) == 0) = false := by simp; omega
    have ER := Lib.hid er0
    have HL := Lib.hid hl
    have hw1 := b1.size
    have hmo : min (max order 0) 32 = (Pl.most order : Int) := by unfold Pl.most; omega
    clear hfst ES0 hf er0 hl hr00
    go_wp2_with fail
    go_step3
    have hs0 : Slv (w1.alloc (.cells #[.slice (some ⟨bA, oA, none⟩) n' cn, .slice none 0 0, .int .i64 r0] 45)) w1.heap.size (some ⟨bA, oA, none⟩) n' cn none 0 0 r0 := Blk.new _ _ _
    have b0 : Below w1.heap.size w1 (w1.alloc (.cells #[.slice (some ⟨bA, oA, none⟩) n' cn, .slice none 0 0, .int .i64 r0] 45)) := (Below.refl _ _).alloc (Nat.le_refl _) _
    obtain ⟨p, hp⟩ : ∃ p, p = w1.heap.size := ⟨_, rfl⟩
    rw [← hp] at hs0 hr hw1 b0 hbA ⊢
    clear hc0' hp
    generalize (w1.alloc (.cells #[.slice (some ⟨bA, oA, none⟩) n' cn, .slice none 0 0, .int .i64 r0] 45)) = W0 at *
    go_wp2_with fail
    go_loopw [6, 29] (fun o i wr => ∃ (j : Nat) (Ao : Option Addr) (co : Nat) (C : Option Addr) (cc : Nat) (ss : List St) (c : List Int) (err : Int),
        j ≤ Pl.most order ∧ i = .int .i64 j ∧ o = .slice Ao j co ∧ Slv wr p (some ⟨bA, oA, none⟩) n' cn C j cc err ∧
        Outs 36 wr (p + 1) Ao j co ss ∧ c.length = j ∧ Rd wr wr.heap.size C c ∧ Pl.Far31 c ∧ (0 ≤ err ∧ err ≤ 2147483648) ∧ (∀ s ∈ ss, s.2.2 ≠ []) ∧
        ss ++ Pl.solveF r (Pl.most order - j) c err = Pl.solve xs order ∧ Below p w1 wr) (fun _ i _ => Pl.most order - (intOf i).toNat)
    case atStart => exact ⟨0, none, 0, none, 0, [], [], r0, by omega, rfl, rfl, hs0, Outs.nil _ _ _, rfl, Rd.nil _ _ _, by intro j; simp, by omega, by intro s hs; simp at hs, by rw [ES.out, ER.out]; rfl, b0⟩
    case round =>
      obtain ⟨j, Ao, co, C, cc, ss, c, err, hjM, rfl, rfl, hs, ho, hcl, hcr, fc, he, hne, htot, hb⟩ := hrel
      by_cases hM : j < Pl.most order
      · have hMi : (j : Int) < (Pl.most order : Int) := by omega
        have hm32 : Pl.most order ≤ 32 := by omega
        have hsp := step_p p (some ⟨bA, oA, none⟩) C n' cn j cc p r c err wr HL.out hcl (by omega) (by omega) (hr.later hb (Nat.le_refl _)) (Nat.le_refl _) hcr far fc he hs
        have HSP := Lib.hid hsp
        have HTOT := Lib.hid htot
        have HC := Lib.hid hcl
        clear hsp htot hcl
        go_wp2_with fail
        refine (HSP.out).mono ?_
        rintro e w2 ⟨hg, hcase⟩
        have hb2 : Below p w1 w2 := hb.grown hg (by have := Blk.lt hs; omega) (fun k hk => by injection hk with hk; omega)
        have ho2 : Outs 36 w2 (p + 1) Ao j co ss := ho.kept hg (.inr (fun h => by have := (ho.lt h).1; omega)) (fun g hg2 s hs3 b hbc => by
          injection hg2 with hg2; subst hg2
          intro hbp; subst hbp
          rcases hcs : s.2.2 with _ | ⟨x, l⟩
          · exact hne s hs3 hcs
          · have h1 := hbc 0 x (by rw [hcs]; rfl)
            have h2 := hs.c0
            rw [h1] at h2; cases h2)
        rcases hcase with ⟨hst, rfl⟩ | ⟨s, C', cc', hst, rfl, hs2, hr2, hCb⟩
        · have HT := Lib.hid (tot_none hst HTOT.out)
          clear HSP HTOT hst
          go_wp2_with fail
          rw [Exit.noGoto_ret]
          go_ret
          exact ⟨fin_out ho2 HT.out, b1.trans (hb2.mono hw1)⟩
        · have hok := Pl.step_ok he.1 hst
          have hln := Pl.step_len hst
          rw [HC.out] at hln hok
          have HT := Lib.hid (tot_some hst (show Pl.most order - j = (Pl.most order - (j + 1)) + 1 by omega) HTOT.out)
          obtain ⟨bC, oC, x, rfl, hbC, hx2, hcx⟩ := hr2.at (k := j) (by omega)
          have hxs : x = s.1 := by have h1 := getD_get hx2; rw [hok.2.2.2] at h1; exact h1.symm
          subst hxs
          have k1 := hs2.c1
          have k2 := hs2.c2
          have hp2 : p < w2.heap.size := Blk.lt hs2
          have hjj : IntKind.i64.wrap ((j : Int) + 1 - 1) = (j : Int) := by rw [show (j : Int) + 1 - 1 = j by omega]; exact IntWalk.i64_in _ (by omega)
          have hjj2 : IntKind.i64.wrap (j : Int) = (j : Int) := IntWalk.i64_in _ (by omega)
          have hjlt : j < j + 1 := by omega
          have hCa : blk Ao ≠ some bC := fun h => by have h1 := (ho.lt h).2; have h2 := hCb bC rfl; omega
          have hAp : blk Ao ≠ some p := fun h => by have := (ho2.lt h).1; omega
          have hj0 : (0 : Int) ≤ (j : Int) := by omega
          have hj1 : (j : Int) < (j : Int) + 1 := by omega
          have hj2 : (j : Int) < ((j + 1 : Nat) : Int) := by omega
          clear HSP HTOT hst hx2 ho hs hcr hb hg hCb
          go_wp2_with fail
          obtain ⟨i0, hi0, hz0, hz1, hz2⟩ := info_parts info_lev
          have hjb : j + 1 ≤ 1000 := by omega
          have hrW : Rd w2.drew w2.drew.heap.size (some ⟨bC, oC, none⟩) s.2.2 := hr2
          have HCL := Lib.hid (clone_any (some ⟨bC, oC, none⟩) (j + 1) cc' _ s.2.2 _ hln (by omega) hrW)
          obtain ⟨vs, hv2⟩ := ho2.v
          have hvW : OutsV 36 w2.drew (p + 1) Ao j co ss vs := hv2
          have K1 : w2.drew.cell? ⟨p, 1, none⟩ = some (.slice (some ⟨bC, oC, none⟩) (j + 1) cc') := k1
          have K2 : w2.drew.cell? ⟨p, 2, none⟩ = some (.int .i64 s.2.1) := k2
          have K3 : w2.drew.cell? ⟨bC, oC + j, none⟩ = some (.int .i64 s.1) := hcx
          have hp2W : p < w2.drew.heap.size := hp2
          have hbCW : bC < w2.drew.heap.size := hbC
          have hj3 : 0 < j + 1 := by omega
          go_region_held3 (fun w' => w'.cell? ⟨p, 1, none⟩ = some (.slice (some ⟨bC, oC, none⟩) (j + 1) cc') ∧ w'.cell? ⟨p, 2, none⟩ = some (.int .i64 s.2.1) ∧ w'.cell? ⟨bC, oC + j, none⟩ = some (.int .i64 s.1))
            (first | exact ⟨k1, k2, hcx⟩ | exact ⟨T1, T2, T3⟩ | exact ⟨S1, S2, S3⟩ | go_keep)
            ((first
              | (go_at_call 25; refine (HCL.out).mono ?_; rintro e w3 ⟨⟨A3, c3, rfl, o3⟩, b3⟩; obtain ⟨g3, rfl, hg3, hg3', hcells⟩ := own_form o3 hj3; have S1 := (b3.cell (p := ⟨p, 1, none⟩) hp2W).trans K1; have S2 := (b3.cell (p := ⟨p, 2, none⟩) hp2W).trans K2; have S3 := (b3.cell (p := ⟨bC, oC + j, none⟩) hbCW).trans K3; have hv3 := hvW.later b3; have hz3 : w2.heap.size ≤ w3.heap.size := b3.size)
              | (refine step_append_lies _ (by rfl) _ _ _ (by rfl) (p + 1) 36 i0 _ 3 40 Try.underlying27 hi0 hz0 hz1 hz2 rfl (by omega) (.slice Ao j co) j vs (by rfl) (hv3.row.alloc _) ⟨w3.heap.size, 0, none⟩ 1 1 [.int .i64 s.1, .int .i64 s.2.1, .slice (some ⟨g3, 0, none⟩) (j + 1) c3] (by rfl) (by rfl) (cells3 w3 _ _ _ _) (by simp [Value.oneCell']) (by omega) (by unfold maxLen; omega) (by omega) (by simp; omega) (w3.heap.size + 1) (by simp) ?_; intro gg cap w4 hown4 hgrow hat hlt; have hgr : w3.grownBy w4 (blk Ao) := by rw [ownBlock_blk] at hgrow; exact gb_trans (World.grownBy_alloc _ _ _) hgrow
                 have T1 := (hgr.cell_far ⟨p, 1, none⟩ (by show p < w3.heap.size; omega) (fun e => hAp e.symm)).trans S1; have T2 := (hgr.cell_far ⟨p, 2, none⟩ (by show p < w3.heap.size; omega) (fun e => hAp e.symm)).trans S2; have T3 := (hgr.cell_far ⟨bC, oC + j, none⟩ (by show bC < w3.heap.size; omega) (fun e => hCa e.symm)).trans S3)))
          have hAg3 : blk Ao ≠ some g3 := fun h => by have h1 := (ho2.lt h).2; have h2 : w2.heap.size ≤ g3 := hg3; omega
          have hat2 : blk Ao = some gg ∨ w3.heap.size ≤ gg := by
            rcases hat with h | h
            · exact .inl ((ownBlock_blk _ _ _).symm.trans h)
            · exact .inr (by omega)
          have O4 : Outs 36 w4 (p + 1) (some ⟨gg, 0, none⟩) (j + 1) cap (ss ++ [s]) := OutsV.snoc hv3 s g3 c3 gg cap hg3' hAg3 hcells (by rw [hln]; exact hown4) hgr hat2
          have hs3 : Slv w3 p (some ⟨bA, oA, none⟩) n' cn (some ⟨bC, oC, none⟩) (j + 1) cc' s.2.1 := Blk.below (w := w2.drew) hs2 b3 hp2W
          have hs4 : Slv w4 p (some ⟨bA, oA, none⟩) n' cn (some ⟨bC, oC, none⟩) (j + 1) cc' s.2.1 := Blk.grown hs3 hgr (fun e => hAp e.symm)
          have hr3 : Rd w3 w3.heap.size (some ⟨bC, oC, none⟩) s.2.2 := (Rd.later hrW b3 (Nat.le_refl _)).more b3.size
          have hr4 : Rd w4 w4.heap.size (some ⟨bC, oC, none⟩) s.2.2 := hr3.grown hgr (by omega) hCa
          have hb3 : Below p w1 w3 := (hb2.drew).trans (b3.mono (Nat.le_of_lt hp2W))
          have hb4 : Below p w1 w4 := hb3.grown hgr (by omega) (fun g h => by have := (ho2.lt h).1; omega)
          have hne4 : ∀ s' ∈ ss ++ [s], s'.2.2 ≠ [] := by
            intro s' hs'
            rcases List.mem_append.1 hs' with h | h
            · exact hne s' h
            · rw [List.mem_singleton.1 h]; intro e; rw [e] at hln; simp at hln
          have he4 : 0 ≤ s.2.1 ∧ s.2.1 ≤ 2147483648 := ⟨hok.2.1.1, by have := hok.2.1.2; omega⟩
          clear T1 T2 T3 S1 S2 S3 K1 K2 K3 hv3 hvW hv2 hown4 hgrow hat o3 hcells HCL b3 hrW hr2 hs2 ho2 hb2
          go_wp2_with fail
          go_roundw
          case rel => exact ⟨j + 1, some ⟨gg, 0, none⟩, cap, some ⟨bC, oC, none⟩, cc', ss ++ [s], s.2.2, s.2.1, by omega, by go_num, rfl, hs4, O4, hln, hr4, hok.2.2.1, he4, hne4, HT.out, hb4⟩
          case measure => simp [intOf]; omega
      · have hMi : decide ((j : Int) < (Pl.most order : Int)) = false := by simp; omega
        have HT := Lib.hid (tot_zero (by omega : Pl.most order - j = 0) htot)
        clear htot
        go_wp2_with fail
        rw [Exit.noGoto_ret]
        go_ret
        exact ⟨fin_out ho HT.out, b1.trans (hb.mono hw1)⟩
end Go.Proofs.Ytkdaalceekbahaa
