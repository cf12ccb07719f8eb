/- Words for lists of ints that the call itself makes: grown by append, or made whole and filled place by place. -/
import Derived.Test.YtkdaalceekbahaaMem
import Derived.Test.YtkdaalceekbahaaRows
import Derived.Maps.AppendAt
import Derived.OwnWalk
import Derived.Laws.MakeOwn
namespace Go.Proofs.Ytkdaalceekbahaa
open Go.RowKit
set_option linter.unusedVariables false

theorem info_int : (Try.prog.info? 3).map (fun i => (i.zero, i.size, i.bytes)) = some (some (.int .i64 0), 1, 8) := by kernel_rfl

/-- the slice value '.slice A n c' is the call's own and holds the list xs -/
def Own (w : World) (base : Nat) (A : Option Addr) (n c : Nat) (xs : List Int) : Prop := xs.length = n ∧ w.ownsRow base 3 1 (.slice A n c) n (xs.map (Value.int .i64))
def blk (A : Option Addr) : Option Nat := A.map (·.block)
theorem ownBlock_blk (A : Option Addr) (n c : Nat) : (Value.slice A n c).ownBlock = blk A := by cases A <;> rfl
theorem Own.nil (w : World) (base : Nat) : Own w base none 0 0 [] := ⟨rfl, World.ownsRow_nil _ _ _ _⟩
theorem Own.rd {w : World} {base : Nat} {A : Option Addr} {n c : Nat} {xs : List Int} (h : Own w base A n c xs) : Rd w w.heap.size A xs := Rd.of_own h.2
theorem Own.drawn {w : World} {base : Nat} {A : Option Addr} {n c : Nat} {xs : List Int} (h : Own w base A n c xs) (k : Nat) : Own (w.drewN k) base A n c xs := h
theorem Own.alloc {w : World} {base : Nat} {A : Option Addr} {n c : Nat} {xs : List Int} (h : Own w base A n c xs) (o : Obj) : Own (w.alloc o) base A n c xs := ⟨h.1, h.2.alloc o⟩
theorem Own.lt {w : World} {base : Nat} {A : Option Addr} {n c : Nat} {xs : List Int} (h : Own w base A n c xs) {g : Nat} (hg : blk A = some g) : base ≤ g ∧ g < w.heap.size := h.2.lt g ((ownBlock_blk A n c).trans hg)
theorem Own.kept {w w' : World} {base : Nat} {A : Option Addr} {n c : Nat} {xs : List Int} {row : Option Nat} (h : Own w base A n c xs) (hg : w.grownBy w' row) (hne : blk A = none ∨ blk A ≠ row) : Own w' base A n c xs :=
  ⟨h.1, h.2.kept hg (by rw [ownBlock_blk]; exact hne)⟩
theorem Own.later {w w' : World} {base : Nat} {A : Option Addr} {n c : Nat} {xs : List Int} (h : Own w base A n c xs) (hb : Below w.heap.size w w') : Own w' base A n c xs :=
  h.kept (row := none) (gb_below hb (Nat.le_refl _) none) (by cases A <;> simp [blk])
theorem Own.apart_new {w : World} {base : Nat} {A : Option Addr} {n c : Nat} {xs : List Int} (h : Own w base A n c xs) {g : Nat} (hg : w.heap.size ≤ g) : blk A ≠ some g := by
  intro e; have := (h.lt e).2; omega

/-- 'append(s, y)', s the call's own list of ints -/
theorem app1 {ops : Array Oper} {rest : List Oper} {o : Oper} {a : Act} {Q : Exit → Act → World → Prop} {w : World} (hgd : o.guard = none) (s x : Operand)
    (ho : o.op = .call { callee := .builtin .append, args := #[s, x], argTypes := #[22, 22] })
    (base : Nat) (A : Option Addr) (n c : Nat) (xs : List Int) (y : Int) (hs : a.eval s = .slice A n c) (hx : a.eval x = .slice (some ⟨w.heap.size, 0, none⟩) 1 1) (hown : Own w base A n c xs)
    (hn : n ≤ 1000000) (hbase : base ≤ w.heap.size)
    (h : ∀ A' c' w', Own w' base A' (n + 1) c' (xs ++ [y]) → w.grownBy w' (blk A) → (blk A' = blk A ∨ blk A' = some (w.heap.size + 1)) → wpList Try.prog ops Q rest (a.put o.dst (.slice A' (n + 1) c')) w') :
    wpList Try.prog ops Q (o :: rest) a (w.alloc (.cells #[.int .i64 y] 3)) := by
  obtain ⟨i0, hi, hz0, hz1, hz2⟩ := info_parts info_int
  refine Go.wpList_append_own_at (P := Try.prog) (w.alloc (.cells #[.int .i64 y] 3)) hgd s x 22 ho base 3 i0 (.int .i64 0) 1 8 Try.underlying22 hi hz0 hz1 hz2 rfl (by decide) (.slice A n c) n _ hs (hown.2.alloc _) ⟨w.heap.size, 0, none⟩ 1 1 [.int .i64 y] hx rfl (cell_one_new w _ _) (by intro u hu; simp at hu; subst hu; rfl) (by unfold maxLen; omega) (by omega) (by simp; omega) ?_
  intro v' w' hown' hg _ hb
  have hnil : ¬ (n + 1 = 0) := by omega
  rcases hown'.2 with ⟨_, h0⟩ | ⟨g, cap, cur, rfl, hbg, hh, hnc, hmax, hsz, htk⟩
  · exact absurd h0 hnil
  · refine h (some ⟨g, 0, none⟩) cap w' ⟨by simp [hown.1], ?_⟩ ?_ ?_
    · have := hown'; simpa using this
    · have h1 : w.grownBy (w.alloc (.cells #[.int .i64 y] 3)) (blk A) := World.grownBy_alloc _ _ _
      rw [ownBlock_blk] at hg
      exact gb_trans h1 hg
    · simp only [ownBlock_blk] at hb
      rcases hb with hb | hb
      · exact .inl hb
      · exact .inr (by simpa using hb)

/-! ### a list made whole, and filled from its head on -/
def filled (ts : List Int) (n : Nat) : Array Value := ((ts ++ List.replicate (n - ts.length) 0).map (Value.int .i64)).toArray
theorem run_mk (n : Nat) (hn : n ≤ 1000000) (w : World) : (Instr.makeSlice 22 (.int .i64 (n : Int)) (.int .i64 (n : Int))).run Try.prog w = .ok (.slice (some ⟨w.heap.size, 0, none⟩) n n) (w.alloc (.cells (filled [] n) 3)) := by
  obtain ⟨i0, hi, hz0, hz1, hz2⟩ := info_parts info_int
  have h := run_make (P := Try.prog) w 22 3 i0 (.int .i64 0) Try.underlying22 hi hz0 .i64 .i64 n n (by omega) (Int.le_refl _) (by rw [hz2]; omega) (by omega)
  simp only [Int.toNat_natCast, hz1, Nat.mul_one] at h
  rw [h]
  have e : madeCells (Value.int .i64 0).cells n = filled [] n := by
    apply Array.ext'
    have := toList_madeCells_one (.int .i64 0) n
    unfold filled
    simp only [List.nil_append, List.length_nil, Nat.sub_zero, List.map_replicate]
    exact this
  rw [e]
theorem filled_get {ts : List Int} {n i : Nat} (hi : i < n) : ∃ u : Int, (filled ts n)[i]? = some (.int .i64 u) := by
  unfold filled
  have hl : i < (ts ++ List.replicate (n - ts.length) (0 : Int)).length := by simp; omega
  exact ⟨(ts ++ List.replicate (n - ts.length) (0 : Int))[i], by rw [List.getElem?_toArray, List.getElem?_map, List.getElem?_eq_getElem hl]; rfl⟩
theorem filled_put {ts : List Int} {n : Nat} (y : Int) (h : ts.length < n) : (filled ts n).setIfInBounds ts.length (.int .i64 y) = filled (ts ++ [y]) n := by
  unfold filled
  apply Array.ext'
  have e : n - ts.length = (n - (ts ++ [y]).length) + 1 := by simp; omega
  rw [e, List.replicate_succ]
  simp [List.map_append]
theorem filled_rd {w : World} {g n : Nat} {ts : List Int} (h : Blk w g 3 (filled ts n)) (hn : ts.length = n) : Rd w w.heap.size (some ⟨g, 0, none⟩) ts := by
  intro i x hx
  refine ⟨g, 0, rfl, h.lt, ?_⟩
  rw [Blk.cell h]
  unfold filled
  rw [hn]
  simp [List.getElem?_map, hx]
/-- what the frame of a law hands over of a slice of ints -/
theorem row_rd {w : World} {a : Option Addr} {len cap : Nat} {zs : List Int} (h : (a = none ∧ len = 0 ∧ cap = 0 ∧ zs = []) ∨ ∃ x, a = some x ∧ len ≤ cap ∧ cap ≤ maxLen ∧ zs.length = cap ∧ (∀ i, i < zs.length → w.cell? (x.add i) = some (.int .i64 (zs.getD i 0))) ∧ ∀ n ∈ zs, (Lit.int .i64 n).wf = true) :
    ∃ xs : List Int, xs.length = len ∧ Rd w w.heap.size a xs ∧ I64s xs ∧ len ≤ maxLen := by
  rcases h with ⟨rfl, rfl, rfl, rfl⟩ | ⟨x, rfl, hl, hm, hz, hc, hw⟩
  · exact ⟨[], rfl, Rd.nil _ _ _, fun x hx => by simp at hx, by simp⟩
  · refine ⟨zs.take len, by simp; omega, ?_, ?_, by omega⟩
    · intro i y hy
      have hi : i < len := by
        have := (List.getElem?_eq_some_iff.1 hy).1; simp at this; omega
      have hcell := hc i (by omega)
      obtain ⟨b, off, spot⟩ := x
      have e1 : zs.getD i 0 = y := by
        rw [List.getElem?_take, if_pos hi] at hy
        rw [List.getD_eq_getElem?_getD, hy]; rfl
      rw [e1] at hcell
      have hc0 := hc 0 (by omega)
      have hspot : spot = none := by simpa [Addr.add] using World.cell?_spot hc0
      subst hspot
      have e2 : (⟨b, off, none⟩ : Addr).add i = ⟨b, off + i, none⟩ := by unfold Addr.add; split <;> simp_all
      rw [e2] at hcell
      exact ⟨b, off, rfl, World.block_lt_of_cell? w _ hcell, hcell⟩
    · intro y hy
      have := hw y (List.mem_of_mem_take hy)
      simpa [Lit.wf, IntKind.min, IntKind.max, IntKind.signed, IntKind.bits] using this
end Go.Proofs.Ytkdaalceekbahaa
