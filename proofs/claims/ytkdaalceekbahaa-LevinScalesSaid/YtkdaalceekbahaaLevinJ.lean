/- A row of steps, read; what comes of the last step; what must come of fixed calls. -/
import Derived.Test.YtkdaalceekbahaaLevinI
import Derived.Test.YtkdaalceekbahaaInts
namespace Go.Proofs.Ytkdaalceekbahaa
open Go.RowKit
set_option linter.unusedVariables false
theorem Outs.at {T : TypeId} {w : World} {base : Nat} {A : Option Addr} {n c : Nat} {ss : List St} (h : Outs T w base A n c ss) {i : Nat} {s : St} (hi : ss[i]? = some s) :
    ∃ g b q, A = some ⟨g, 0, none⟩ ∧ w.cell? ⟨g, i * 3, none⟩ = some (.int .i64 s.1) ∧ w.cell? ⟨g, i * 3 + 1, none⟩ = some (.int .i64 s.2.1) ∧
      w.cell? ⟨g, i * 3 + 2, none⟩ = some (.slice (some ⟨b, 0, none⟩) s.2.2.length q) ∧ Rd w w.heap.size (some ⟨b, 0, none⟩) s.2.2 := by
  obtain ⟨hl, vs, ho, hss⟩ := h
  obtain ⟨b, q, h1, h2, h3, hb, hA, hc⟩ := hss i s hi
  have hin : i < n := by rw [← hl]; exact (List.getElem?_eq_some_iff.1 hi).1
  obtain ⟨g, cap, e, _, hlt⟩ := ho.form (by omega)
  injection e with e1 e2 e3
  subst e1
  have hcell : ∀ j u, vs[j]? = some u → w.cell? ⟨g, j, none⟩ = some u := by
    intro j u hu
    have h := ho.cells (g := g) rfl j u hu
    have ha : (⟨g, 0, none⟩ : Addr).add j = ⟨g, j, none⟩ := by unfold Addr.add; split <;> simp_all
    rwa [ha] at h
  exact ⟨g, b, q, rfl, hcell _ _ h1, hcell _ _ h2, hcell _ _ h3, rd_form hb hc⟩
/-- the coefficients behind the last step -/
def Pl.lastC (ss : List St) : List Int := ((ss[ss.length - 1]?).map (·.2.2)).getD []
theorem Pl.lastC_nil {ss : List St} (h : ss.length = 0) : Pl.lastC ss = [] := by
  rw [List.eq_nil_of_length_eq_zero h]; rfl
theorem Pl.lastC_some {ss : List St} {k : Nat} {s : St} (h : ss.length = k + 1) (hs : ss[k]? = some s) : Pl.lastC ss = s.2.2 := by
  unfold Pl.lastC; rw [h, Nat.add_sub_cancel, hs]; rfl
set_option maxHeartbeats 800000 in
theorem coefs_p (A : Option Addr) (n ca B : Nat) (xs : List Int) (order : Int) (w : World) (hn : xs.length = n) (hn2 : n ≤ 1000) (hx : Rd w B A xs) (hB : B ≤ w.heap.size) :
    Calls Try.prog 15 #[.slice A n ca, .int .i64 order] w fun e w' => (∃ A' n' c', e = .returned (.slice A' n' c') ∧ (Pl.lastC (Pl.solve xs order)).length = n' ∧ Rd w' w'.heap.size A' (Pl.lastC (Pl.solve xs order))) ∧ Below w.heap.size w w' := by
  go_enter Try.func15, Try.ntmps15
  go_wp2_with fail
  refine (solve_p _ _ _ _ _ _ _ hn hn2 hx hB).mono ?_
  rintro e w1 ⟨⟨A1, c1, rfl, base, ho⟩, b1⟩
  have hsl := Pl.solve_len xs order
  have hml : Pl.most order ≤ 32 := by unfold Pl.most; omega
  clear hn hx
  generalize hE : Pl.solve xs order = ss at *
  have HE := Lib.hid hE
  clear hE
  rcases Nat.eq_zero_or_pos ss.length with h0 | hpos
  · have HL := Lib.hid (Pl.lastC_nil h0)
    rw [h0]
    clear h0 ho hsl
    go_wp2_with fail
    go_ret
    exact ⟨⟨none, 0, 0, rfl, by rw [HE.out, HL.out]; rfl, by rw [HE.out, HL.out]; exact Rd.nil _ _ _⟩, b1⟩
  · obtain ⟨k, hk⟩ : ∃ k, ss.length = k + 1 := ⟨ss.length - 1, by omega⟩
    obtain ⟨s, hs⟩ : ∃ s, ss[k]? = some s := ⟨ss[k], List.getElem?_eq_getElem (by omega)⟩
    have HL := Lib.hid (Pl.lastC_some hk hs)
    obtain ⟨g, b, q, rfl, k0, k1, k2, hr⟩ := ho.at hs
    have hk32 : k ≤ 32 := by omega
    have hz : ((k : Int) + 1 == 0) = false := by simp; omega
    rw [hk]
    clear ho hs hk hsl hpos
    go_wp2_with fail
    go_ret
    exact ⟨⟨some ⟨b, 0, none⟩, s.2.2.length, q, rfl, by rw [HE.out, HL.out], by rw [HE.out, HL.out]; exact hr⟩, b1⟩
theorem rd_lit {w : World} {g : Nat} {xs : List Int} (h : Blk w g 3 (xs.map (Value.int .i64)).toArray) : Rd w w.heap.size (some ⟨g, 0, none⟩) xs := by
  intro i x hx
  refine ⟨g, 0, rfl, h.lt, ?_⟩
  rw [Blk.cell h]
  simp [hx]
theorem known_val : Pl.lastC (Pl.solve [4, 2] 1) = [8388608] := by decide +kernel
set_option maxHeartbeats 800000 in
theorem known_any (w : World) : Calls Try.prog 8 #[] w fun e w' => e = .returned (.bool true) ∧ Below w.heap.size w w' := by
  go_enter Try.func8, Try.ntmps8
  go_wp2_with fail
  have b0 : Below w.heap.size w (w.alloc (.cells #[.int .i64 4, .int .i64 2] 3)) := (Below.refl _ _).alloc (Nat.le_refl _) _
  have x0 : Rd (w.alloc (.cells #[.int .i64 4, .int .i64 2] 3)) (w.heap.size + 1) (some ⟨w.heap.size, 0, none⟩) [4, 2] := by
    have := rd_lit (xs := [4, 2]) (Blk.new w 3 #[.int .i64 4, .int .i64 2]); simpa using this
  refine (coefs_p (some ⟨w.heap.size, 0, none⟩) 2 2 (w.heap.size + 1) [4, 2] 1 _ rfl (by decide) x0 (by simp)).mono ?_
  rintro e w1 ⟨⟨A1, n1, c1, rfl, l1, r1⟩, b1⟩
  rw [known_val] at l1 r1
  have bb1 := b0.trans (b1.mono b0.size)
  have hn1 : n1 = 1 := by rw [← l1]; rfl
  subst hn1
  obtain ⟨b, off, x, rfl, hb, hx, hc⟩ := r1.at (k := 0) (by decide)
  have ex : x = 8388608 := by simpa using hx.symm
  subst ex
  have hc' : w1.cell? ⟨b, off, none⟩ = some (.int .i64 8388608) := hc
  clear b1 b0 x0 l1 r1 hx hc
  go_wp2_with fail
  go_ret
  exact ⟨rfl, bb1⟩
end Go.Proofs.Ytkdaalceekbahaa
