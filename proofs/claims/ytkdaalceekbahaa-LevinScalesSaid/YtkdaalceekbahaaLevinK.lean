/- The walk of the law's own look at two lists of steps: of a list and a longer one that begins like it, it says that they are the same. -/
import Derived.Test.YtkdaalceekbahaaLevinJ
namespace Go.Proofs.Ytkdaalceekbahaa
open Go.RowKit
set_option linter.unusedVariables false
theorem ints_q (A A' : Option Addr) (xs : List Int) (n ca cb B B' : Nat) (w : World) (hn : xs.length = n) (h : Rd w B A xs) (h' : Rd w B' A' xs) (hmax : n ≤ 1000000) (d : Nat) :
    Calls Try.prog 10 #[.slice A n ca, .slice A' n cb] (w.drewN d) fun e w' => e = .returned (.bool true) ∧ ∃ m, w' = (w.drewN d).drewN m := by
  refine (ints_any A A' xs xs n n ca cb B B' (w.drewN d) hn hn h h' (by omega) (by omega)).mono ?_
  rintro e w' ⟨rfl, m, rfl⟩
  exact ⟨by simp, m, rfl⟩
set_option maxHeartbeats 1600000 in
theorem same_any (T1 T2 : TypeId) (A B : Option Addr) (n m ca cb b1 b2 : Nat) (ss tt : List St) (w : World) (h1 : Outs T1 w b1 A n ca ss) (h2 : Outs T2 w b2 B m cb tt) (hnm : n ≤ m) (hm : m ≤ 1000)
    (hpre : ss = tt.take n) (hlen : ∀ s ∈ ss, s.2.2.length ≤ 1000) :
    Calls Try.prog 14 #[.slice A n ca, .slice B m cb] w fun e w' => e = .returned (.bool true) ∧ ∃ d, w' = w.drewN d := by
  have hl1 := h1.1
  have HP := Lib.hid hpre
  have HL := Lib.hid hlen
  have H1 := Lib.hid hl1
  clear hpre hlen hl1
  have hd0 : decide ((m : Int) < (n : Int)) = false := by simp; omega
  go_enter Try.func14, Try.ntmps14
  go_wp2_with fail
  go_loopw [5] (fun i wr => ∃ k d : Nat, k ≤ n ∧ i = .int .i64 k ∧ wr = w.drewN d) (fun i _ => n - (intOf i).toNat)
  case atStart => exact ⟨0, 0, by omega, rfl, rfl⟩
  case round =>
    obtain ⟨k, d, hk, rfl, hwr⟩ := hrel
    have h1W : Outs T1 wr b1 A n ca ss := hwr ▸ h1
    have h2W : Outs T2 wr b2 B m cb tt := hwr ▸ h2
    have HW := Lib.hid hwr
    clear hwr
    by_cases hlt : k < n
    · obtain ⟨s, hs⟩ : ∃ s, ss[k]? = some s := ⟨ss[k]'(by rw [H1.out]; exact hlt), List.getElem?_eq_getElem (by rw [H1.out]; exact hlt)⟩
      have ht : tt[k]? = some s := by
        have h := hs
        rw [HP.out, List.getElem?_take, if_pos hlt] at h
        exact h
      obtain ⟨g, b, q, rfl, k0, k1, k2, hr⟩ := h1W.at hs
      obtain ⟨g', b', q', rfl, k0', k1', k2', hr'⟩ := h2W.at ht
      have hsl := HL.out s (List.mem_of_getElem? hs)
      have HQ : Hid (∀ d, Calls Try.prog 10 #[.slice (some ⟨b, 0, none⟩) s.2.2.length q, .slice (some ⟨b', 0, none⟩) s.2.2.length q'] (wr.drewN d) fun e w' => e = .returned (.bool true) ∧ ∃ m, w' = (wr.drewN d).drewN m) :=
        fun d => ints_q _ _ _ _ _ _ _ _ _ rfl hr hr' (by omega) d
      have hki : (k : Int) < (n : Int) := by omega
      have hkm : (k : Int) < (m : Int) := by omega
      have hkm2 : k < m := by omega
      have hj0 : (0 : Int) ≤ (k : Int) := by omega
      generalize s.2.2.length = L at *
      obtain ⟨s1, s2, s3⟩ := s
      simp only at k0 k1 k2 k0' k1' k2'
      clear hs ht hr hr' h1W h2W
      go_wp2_with fail
      go_quiet ((go_at_call 10; exact Calls.quiet_of (HQ.out _)))
      go_wp2_with fail
      go_roundw
      case rel => exact ⟨k + 1, _, by omega, by go_num, by rw [HW.out, World.drewN_drewN]⟩
      case measure => simp [intOf]; omega
    · have ek : n = k := by omega
      subst ek
      have hd : decide ((n : Int) < (n : Int)) = false := by simp
      go_wp2_with fail
      go_ret
      exact ⟨rfl, _, HW.out⟩
end Go.Proofs.Ytkdaalceekbahaa
