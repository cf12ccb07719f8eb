/- Rows of steps: what a list of steps is in memory; append of one. -/
import Derived.Test.YtkdaalceekbahaaLevinF
import Derived.Test.YtkdaalceekbahaaShelf
namespace Go.Proofs.Ytkdaalceekbahaa
open Go.RowKit
set_option linter.unusedVariables false
/-- the library's Clone, at a slice of ints that reads as a list -/
theorem clone_any (A : Option Addr) (n c B : Nat) (xs : List Int) (w : World) (hn : xs.length = n) (hn2 : n ≤ 1000000) (hx : Rd w B A xs) :
    Calls Try.prog 25 #[.slice A n c] w fun e w' => (∃ A' c', e = .returned (.slice A' n c') ∧ Own w' w.heap.size A' n c' xs) ∧ Below w.heap.size w w' := by
  rcases A with _ | ad
  · have h0 : n = 0 := by
      rcases Nat.eq_zero_or_pos n with h | h
      · exact h
      · obtain ⟨b, off, x, e, _⟩ := hx.at (k := 0) (by omega)
        cases e
    subst h0
    have hxs : xs = [] := List.eq_nil_of_length_eq_zero hn
    subst hxs
    refine (Try.slices_Clone_int_nil 0 c w).mono ?_
    rintro e w' ⟨rfl, hw⟩
    subst hw
    exact ⟨⟨none, 0, rfl, Own.nil _ _⟩, Below.refl _ _⟩
  · rcases Nat.eq_zero_or_pos n with h | h
    · subst h
      have hxs : xs = [] := List.eq_nil_of_length_eq_zero hn
      subst hxs
      refine (Try.slices_Clone_int_zero ad c w).mono ?_
      rintro e w' ⟨v', rfl, ho, hne, hb⟩
      rcases ho.2 with ⟨e1, _⟩ | ⟨g, cap, cur, rfl, _⟩
      · exact absurd e1 hne
      · exact ⟨⟨some ⟨g, 0, none⟩, cap, rfl, rfl, ho⟩, hb⟩
    · obtain ⟨b, off, x, e, _⟩ := hx.at (k := 0) (by omega)
      injection e with e
      subst e
      have hc : ∀ j, j < xs.length → w.cell? ⟨b, off + j, none⟩ = some (.int .i64 (xs.getD j 0)) := by
        intro j hj
        obtain ⟨b2, o2, y, e2, _, hy, hcy⟩ := hx.at hj
        injection e2 with e2; injection e2 with e3 e4
        subst e3; subst e4
        rw [List.getD_eq_getElem?_getD, hy]; exact hcy
      refine (Try.slices_Clone_int b off n c xs w (by omega) (by omega) hc).mono ?_
      rintro e w' ⟨v', rfl, ho, hne, hb⟩
      rw [List.take_of_length_le (by omega)] at ho
      rcases ho.2 with ⟨e1, _⟩ | ⟨g, cap, cur, rfl, _⟩
      · exact absurd e1 hne
      · exact ⟨⟨some ⟨g, 0, none⟩, cap, rfl, hn, ho⟩, hb⟩

abbrev St := Int × Int × List Int
/-- the row '.slice A n c' of steps is the call's own and holds the list ss -/
def Outs (T : TypeId) (w : World) (base : Nat) (A : Option Addr) (n c : Nat) (ss : List St) : Prop :=
  ss.length = n ∧ ∃ vs : List Value, w.ownsRow base T 3 (.slice A n c) n vs ∧
    ∀ (i : Nat) (s : St), ss[i]? = some s → ∃ b q, vs[i * 3]? = some (.int .i64 s.1) ∧ vs[i * 3 + 1]? = some (.int .i64 s.2.1) ∧ vs[i * 3 + 2]? = some (.slice (some ⟨b, 0, none⟩) s.2.2.length q) ∧
      b < w.heap.size ∧ blk A ≠ some b ∧ ∀ (j : Nat) (x : Int), s.2.2[j]? = some x → w.cell? ⟨b, j, none⟩ = some (.int .i64 x)
/-- the same, with the row's cells named -/
def OutsV (T : TypeId) (w : World) (base : Nat) (A : Option Addr) (n c : Nat) (ss : List St) (vs : List Value) : Prop :=
  ss.length = n ∧ w.ownsRow base T 3 (.slice A n c) n vs ∧
    ∀ (i : Nat) (s : St), ss[i]? = some s → ∃ b q, vs[i * 3]? = some (.int .i64 s.1) ∧ vs[i * 3 + 1]? = some (.int .i64 s.2.1) ∧ vs[i * 3 + 2]? = some (.slice (some ⟨b, 0, none⟩) s.2.2.length q) ∧
      b < w.heap.size ∧ blk A ≠ some b ∧ ∀ (j : Nat) (x : Int), s.2.2[j]? = some x → w.cell? ⟨b, j, none⟩ = some (.int .i64 x)
theorem Outs.v {T : TypeId} {w : World} {base : Nat} {A : Option Addr} {n c : Nat} {ss : List St} (h : Outs T w base A n c ss) : ∃ vs, OutsV T w base A n c ss vs := by
  obtain ⟨hl, vs, ho, hss⟩ := h; exact ⟨vs, hl, ho, hss⟩
theorem Outs.nil (T : TypeId) (w : World) (base : Nat) : Outs T w base none 0 0 [] := ⟨rfl, [], World.ownsRow_nil _ _ _ _, fun i s h => by simp at h⟩
theorem Outs.lt {T : TypeId} {w : World} {base : Nat} {A : Option Addr} {n c : Nat} {ss : List St} (h : Outs T w base A n c ss) {g : Nat} (hg : blk A = some g) : base ≤ g ∧ g < w.heap.size := by
  obtain ⟨_, vs, ho, _⟩ := h
  exact ho.lt g ((ownBlock_blk A n c).trans hg)
theorem Outs.kept {T : TypeId} {w w' : World} {base : Nat} {A : Option Addr} {n c : Nat} {ss : List St} {row : Option Nat} (h : Outs T w base A n c ss) (hg : w.grownBy w' row) (hne : blk A = none ∨ blk A ≠ row)
    (hr : ∀ g, row = some g → ∀ s ∈ ss, ∀ b : Nat, (∀ (j : Nat) (x : Int), s.2.2[j]? = some x → w.cell? ⟨b, j, none⟩ = some (.int .i64 x)) → b ≠ g) : Outs T w' base A n c ss := by
  obtain ⟨hl, vs, ho, hss⟩ := h
  refine ⟨hl, vs, ho.kept hg (by rw [ownBlock_blk]; exact hne), fun i s hi => ?_⟩
  obtain ⟨b, q, h1, h2, h3, hb, hA, hc⟩ := hss i s hi
  have hbr : some b ≠ row := fun e => (hr b e.symm s (List.mem_of_getElem? hi) b hc) rfl
  exact ⟨b, q, h1, h2, h3, by have := hg.size; omega, hA, fun j x hx => (World.cell?_of_block (a := ⟨b, j, none⟩) (hg.block b hb hbr)).trans (hc j x hx)⟩
theorem Outs.later {T : TypeId} {w w' : World} {base : Nat} {A : Option Addr} {n c : Nat} {ss : List St} (h : Outs T w base A n c ss) (hb : Below w.heap.size w w') : Outs T w' base A n c ss :=
  h.kept (row := none) (gb_below hb (Nat.le_refl _) none) (by cases A <;> simp [blk]) (fun g e => by cases e)
theorem Outs.drawn {T : TypeId} {w : World} {base : Nat} {A : Option Addr} {n c : Nat} {ss : List St} (h : Outs T w base A n c ss) (k : Nat) : Outs T (w.drewN k) base A n c ss := h
theorem cells3 (w : World) (T : TypeId) (u1 u2 u3 : Value) : ∀ j u, [u1, u2, u3][j]? = some u → (w.alloc (.cells #[u1, u2, u3] T)).cell? ((⟨w.heap.size, 0, none⟩ : Addr).add j) = some u := by
  intro j u hj
  have h := Blk.cell (Blk.new w T #[u1, u2, u3]) j
  have e : ((⟨w.heap.size, 0, none⟩ : Addr).add j) = ⟨w.heap.size, j, none⟩ := by simp [Addr.add]; intro h; exact h.symm
  rw [e, h]
  simpa using hj
theorem info_lev : (Try.prog.info? 36).map (fun i => (i.zero, i.size, i.bytes)) = some (some (.agg #[.int .i64 0, .int .i64 0, .slice none 0 0]), 3, 40) := by kernel_rfl
theorem info_ref : (Try.prog.info? 33).map (fun i => (i.zero, i.size, i.bytes)) = some (some (.agg #[.int .i64 0, .int .i64 0, .slice none 0 0]), 3, 40) := by kernel_rfl
/-- a row with one step more -/
theorem OutsV.snoc {T : TypeId} {w w' : World} {base : Nat} {A : Option Addr} {n c : Nat} {ss : List St} {vs : List Value} (h : OutsV T w base A n c ss vs) (y : St) (b q g cap : Nat)
    (hb : b < w.heap.size) (hbA : blk A ≠ some b) (hbc : ∀ (j : Nat) (x : Int), y.2.2[j]? = some x → w.cell? ⟨b, j, none⟩ = some (.int .i64 x))
    (hown' : w'.ownsRow base T 3 (.slice (some ⟨g, 0, none⟩) (n + 1) cap) (n + 1) (vs ++ [.int .i64 y.1, .int .i64 y.2.1, .slice (some ⟨b, 0, none⟩) y.2.2.length q]))
    (h1 : w.grownBy w' (blk A)) (hat : blk A = some g ∨ w.heap.size ≤ g) : Outs T w' base (some ⟨g, 0, none⟩) (n + 1) cap (ss ++ [y]) := by
  obtain ⟨hl, hrow, hss⟩ := h
  have hgb : ∀ b' : Nat, b' < w.heap.size → blk A ≠ some b' → blk (some ⟨g, 0, none⟩) ≠ some b' := by
    intro b' hb' hA' e
    have e2 : g = b' := by injection e
    rcases hat with h2 | h2
    · exact hA' (e2 ▸ h2)
    · omega
  have hkeep : ∀ (b' : Nat) (hb' : b' < w.heap.size) (hA' : blk A ≠ some b') (j : Nat) (v : Value), w.cell? ⟨b', j, none⟩ = some v → w'.cell? ⟨b', j, none⟩ = some v := fun b' hb' hA' j v hv =>
    (World.cell?_of_block (a := ⟨b', j, none⟩) (h1.block b' hb' (fun e => hA' e.symm))).trans hv
  have hsize := h1.size
  refine ⟨by simp [hl], _, hown', ?_⟩
  intro i s' hi'
  have hvl : vs.length = n * 3 := hrow.1
  rcases Nat.lt_or_ge i ss.length with hlt | hge
  · rw [List.getElem?_append_left hlt] at hi'
    obtain ⟨b', q', e1, e2, e3, hb', hA', hc'⟩ := hss i s' hi'
    refine ⟨b', q', ?_, ?_, ?_, by omega, hgb b' hb' hA', fun j x hx => hkeep b' hb' hA' j _ (hc' j x hx)⟩
    · rw [List.getElem?_append_left (by omega)]; exact e1
    · rw [List.getElem?_append_left (by omega)]; exact e2
    · rw [List.getElem?_append_left (by omega)]; exact e3
  · have hin : i = n := by
      rcases Nat.lt_or_ge i (ss.length + 1) with h2 | h2
      · omega
      · rw [List.getElem?_eq_none (by simp; omega)] at hi'; cases hi'
    subst hin
    rw [List.getElem?_append_right hge, hl, Nat.sub_self] at hi'
    simp at hi'
    subst hi'
    refine ⟨b, q, ?_, ?_, ?_, by omega, hgb b hb hbA, fun j x hx => hkeep b hb hbA j _ (hbc j x hx)⟩
    · rw [List.getElem?_append_right (by omega), hvl, Nat.sub_self]; rfl
    · rw [List.getElem?_append_right (by omega), hvl, show i * 3 + 1 - i * 3 = 1 by omega]; rfl
    · rw [List.getElem?_append_right (by omega), hvl, show i * 3 + 2 - i * 3 = 2 by omega]; rfl
/-- 'append(s, Step{..})' -/
theorem app3 {ops : Array Oper} {rest : List Oper} {o : Oper} {a : Act} {Q : Exit → Act → World → Prop} {w : World} (T TS : TypeId) (hT : Try.prog.underlying TS = some (.slice T))
    (hI : (Try.prog.info? T).map (fun i => (i.zero, i.size, i.bytes)) = some (some (.agg #[.int .i64 0, .int .i64 0, .slice none 0 0]), 3, 40)) (hgd : o.guard = none) (s x : Operand)
    (ho : o.op = .call { callee := .builtin .append, args := #[s, x], argTypes := #[TS, TS] })
    (base : Nat) (A : Option Addr) (n c : Nat) (ss : List St) (y : St) (b k q : Nat) (hs : a.eval s = .slice A n c) (hx : a.eval x = .slice (some ⟨w.heap.size, 0, none⟩) 1 1) (hown : Outs T w base A n c ss)
    (hk : y.2.2.length = k) (hb : b < w.heap.size) (hbA : blk A ≠ some b) (hbc : ∀ (j : Nat) (x : Int), y.2.2[j]? = some x → w.cell? ⟨b, j, none⟩ = some (.int .i64 x))
    (hn : n ≤ 1000) (hbase : base ≤ w.heap.size)
    (h : ∀ A' c' w', Outs T w' base A' (n + 1) c' (ss ++ [y]) → w.grownBy w' (blk A) → (blk A' = blk A ∨ blk A' = some (w.heap.size + 1)) → wpList Try.prog ops Q rest (a.put o.dst (.slice A' (n + 1) c')) w') :
    wpList Try.prog ops Q (o :: rest) a (w.alloc (.cells #[.int .i64 y.1, .int .i64 y.2.1, .slice (some ⟨b, 0, none⟩) k q] T)) := by
  subst hk
  obtain ⟨i0, hi, hz0, hz1, hz2⟩ := info_parts hI
  obtain ⟨hl, vs, hrow, hss⟩ := hown
  refine Go.wpList_append_own_at (P := Try.prog) (w.alloc (.cells #[.int .i64 y.1, .int .i64 y.2.1, .slice (some ⟨b, 0, none⟩) y.2.2.length q] T)) hgd s x TS ho base T i0 _ 3 40 hT hi hz0 hz1 hz2 rfl (by decide) (.slice A n c) n vs hs (hrow.alloc _) ⟨w.heap.size, 0, none⟩ 1 1 [.int .i64 y.1, .int .i64 y.2.1, .slice (some ⟨b, 0, none⟩) y.2.2.length q] hx rfl (cells3 w T _ _ _) (by intro u hu; simp at hu; rcases hu with rfl | rfl | rfl <;> rfl) (by unfold maxLen; omega) (by omega) (by simp; omega) ?_
  intro v' w' hown' hg _ hbl
  have hnil : ¬ (n + 1 = 0) := by omega
  rcases hown'.2 with ⟨_, h0⟩ | ⟨g, cap, cur, rfl, hbg, hh, hnc, hmax, hsz, htk⟩
  · exact absurd h0 hnil
  · have h1 : w.grownBy w' (blk A) := by
      have h1 : w.grownBy (w.alloc (.cells #[.int .i64 y.1, .int .i64 y.2.1, .slice (some ⟨b, 0, none⟩) y.2.2.length q] T)) (blk A) := World.grownBy_alloc _ _ _
      rw [ownBlock_blk] at hg
      exact gb_trans h1 hg
    have hbl2 : blk (some ⟨g, 0, none⟩) = blk A ∨ blk (some ⟨g, 0, none⟩) = some (w.heap.size + 1) := by
      simp only [ownBlock_blk] at hbl
      rcases hbl with hbl | hbl
      · exact .inl hbl
      · exact .inr (by simpa using hbl)
    have hat : blk A = some g ∨ w.heap.size ≤ g := by
      rcases hbl2 with h2 | h2
      · exact .inl h2.symm
      · have : g = w.heap.size + 1 := by injection h2
        exact .inr (by omega)
    exact h (some ⟨g, 0, none⟩) cap w' (OutsV.snoc ⟨hl, hrow, hss⟩ y b q g cap hb hbA hbc hown' h1 hat) h1 hbl2
end Go.Proofs.Ytkdaalceekbahaa
