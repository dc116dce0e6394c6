/-
  filled; Torn: sectors written byte by byte.
-/
import Derived.Test.YtfffmmnpohgniaaCp
namespace Go.Proofs.Ytfffmmnpohgniaa
open Go.RowKit
set_option linter.unusedVariables false

theorem range_setCell {w : World} {b o : Nat} {cs : List Value} (h : w.rangeAt b o cs) (j : Nat) (v : Value) (hj : j < cs.length) : (w.setCell ⟨b, o + j, none⟩ v).rangeAt b o (cs.set j v) := by
  intro i u hu
  rcases Nat.eq_or_lt_of_le (Nat.le_refl i) with _ | _
  · by_cases e : i = j
    · subst e
      rw [List.getElem?_set_self hj] at hu
      injection hu with hu
      subst hu
      exact World.cell?_setCell_same w _ _ (h i _ (List.getElem?_eq_getElem hj))
    · rw [List.getElem?_set_ne (fun q => e q.symm)] at hu
      rw [World.cell?_setCell_other _ _ _ _ (by intro q; injection q with q1 q2; omega)]
      exact h i u hu
  · omega
def fill (b : UInt8) : Sec := ⟨List.replicate 128 b, by simp⟩
/-- The first k bytes are b, the others 0. -/
def part0 (b : UInt8) (k : Nat) : List Value := List.replicate k (.int .u8 b.toNat) ++ List.replicate (128 - k) (.int .u8 0)
theorem part0_zero (b : UInt8) : part0 b 0 = secC zeroSec := by simp [part0, secC, zeroSec, Lib.byteCells]
theorem part0_all (b : UInt8) : part0 b 128 = secC (fill b) := by simp [part0, secC, fill, Lib.byteCells]
theorem part0_set (b : UInt8) (k : Nat) (hk : k < 128) : (part0 b k).set k (.int .u8 b.toNat) = part0 b (k + 1) := by
  unfold part0
  rw [List.set_append_right _ _ (by simp)]
  rw [List.length_replicate, Nat.sub_self, List.replicate_succ', List.append_assoc]
  congr 1
  rw [show 128 - k = (128 - (k + 1)) + 1 by omega, List.replicate_succ]
  simp
theorem part0_length (b : UInt8) (k : Nat) (hk : k ≤ 128) : (part0 b k).length = 128 := by simp [part0]; omega

attribute [local irreducible] part0 fill

set_option maxRecDepth 4000 in
theorem filled_f (w : World) (b : UInt8) : Calls Try.prog 26 #[.int .u8 b.toNat] w fun e w' => SecOut (fill b) w e w' := by
  obtain ⟨w1, hw1⟩ : ∃ w1, w1 = (w.alloc (secO zeroSec)).alloc (secO zeroSec) := ⟨_, rfl⟩
  have HT2 := Lib.hid (show w1.there w.heap.size 0 128 by
    rw [hw1]; have := there_new w (secC zeroSec) 27; rw [secC_length] at this
    exact there_below this ((Below.refl _ _).alloc (Nat.le_refl _) _) (by simp))
  have HT3 := Lib.hid (show w1.there (w.heap.size + 1) 0 128 by
    rw [hw1]; have := there_new (w.alloc (secO zeroSec)) (secC zeroSec) 27; rw [size_alloc, secC_length] at this; exact this)
  have HR3 := Lib.hid (show w1.rangeAt (w.heap.size + 1) 0 (part0 b 0) by
    rw [hw1, part0_zero]; have := range_new (w.alloc (secO zeroSec)) (secC zeroSec) 27; rw [size_alloc] at this; exact this)
  have HB := Lib.hid (show Below w.heap.size w w1 by rw [hw1]; exact below_two _ _ _)
  have HS := Lib.hid (show w1.heap.size = w.heap.size + 2 by rw [hw1]; simp)
  have HW := Lib.hid hw1
  clear hw1
  generalize hbb : b.toNat = bb
  have HBB := Lib.hid hbb
  clear hbb
  go_enter Try.func26, Try.ntmps26
  go_wp2
  rw [← HW.out]
  go_loopw [4] (fun i wr => ∃ k : Nat, k ≤ 128 ∧ i = .int .i64 k ∧ Below (w.heap.size + 1) w1 wr ∧ wr.rangeAt (w.heap.size + 1) 0 (part0 b k) ∧ wr.there (w.heap.size + 1) 0 128) (fun i _ => 128 - (intOf i).toNat)
  case atStart => exact ⟨0, by omega, rfl, Below.refl _ _, HR3.out, HT3.out⟩
  case round =>
    obtain ⟨k, hk, rfl, hbel, hr, ht⟩ := hrel
    rename World => wr
    have HB1 := Lib.hid hbel
    have HR := Lib.hid hr
    have HT := Lib.hid ht
    clear hbel hr ht
    by_cases hkn : k < 128
    · obtain ⟨c1, c2⟩ := HT.out k hkn
      obtain ⟨v0, c3⟩ := Option.isSome_iff_exists.1 c1
      rw [Nat.zero_add] at c2 c3
      clear c1
      go_wp2
      go_roundw
      case rel =>
        refine ⟨k + 1, by omega, by go_num, HB1.out.setCell (p := ⟨w.heap.size + 1, k, none⟩) (Nat.le_refl _) _, ?_, there_setCell HT.out _ _⟩
        have h := range_setCell HR.out k (.int .u8 b.toNat) (by rw [part0_length b k (by omega)]; exact hkn)
        rw [part0_set b k hkn, Nat.zero_add, HBB.out] at h
        exact h
      case measure => simp [intOf]; omega
    · have hk128 : k = 128 := by omega
      have HRF := Lib.hid (show wr.rangeAt (w.heap.size + 1) 0 (secC (fill b)) by
        have h := HR.out
        rw [hk128, part0_all] at h
        exact h)
      have HK := Lib.hid hk128
      clear hk128
      have hld := load_secVar HRF.out
      have ht2 := there_below HT2.out HB1.out (by omega)
      have hst := store_sec ht2
      have HL := Lib.hid (load_put ht2)
      clear ht2
      go_wp2
      refine bodyPost_ret (ret_cell rfl rfl (secVar_run (HL.out (fill b)))) rfl ?_
      exact ⟨rfl, below_putSec (HB.out.trans (HB1.out.mono (by omega))) (Nat.le_refl _) _ _⟩
end Go.Proofs.Ytfffmmnpohgniaa
