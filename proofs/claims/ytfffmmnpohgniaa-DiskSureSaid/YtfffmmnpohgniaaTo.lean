/-
  Torn.
-/
import Derived.Test.YtfffmmnpohgniaaFl
namespace Go.Proofs.Ytfffmmnpohgniaa
open Go.RowKit
set_option linter.unusedVariables false

/-- The first k cells of a, the others of b. -/
def mix (a b : Sec) (k : Nat) : List Value := (secC a).take k ++ (secC b).drop k
theorem mix_zero (a b : Sec) : mix a b 0 = secC b := by simp [mix]
theorem mix_length (a b : Sec) (k : Nat) (hk : k ≤ 128) : (mix a b k).length = 128 := by
  simp [mix, secC_length]; omega
theorem mix_torn (a b : Sec) (k : Nat) : mix a b k = secC (Dk.torn a b k) := by
  simp [mix, secC, Dk.torn, Lib.byteCells]
theorem mix_set (a b : Sec) (k : Nat) (hk : k < 128) (u : Value) (hu : (secC a)[k]? = some u) : (mix a b k).set k u = mix a b (k + 1) := by
  unfold mix
  have hl := secC_length b
  have ha := secC_length a
  rw [List.set_append_right _ _ (by simp [ha]; omega), List.length_take, ha, Nat.min_eq_left (Nat.le_of_lt hk), Nat.sub_self, List.take_add_one, hu, List.append_assoc]
  congr 1
  have h : List.drop k (secC b) = (secC b)[k]'(by omega) :: List.drop (k + 1) (secC b) := List.drop_eq_getElem_cons (by omega)
  rw [h]
  rfl

set_option maxRecDepth 4000 in
theorem torn_f (w : World) (a b : Sec) (n : Nat) (hn : n ≤ 128) : Calls Try.prog 37 #[secV a, secV b, .int .i64 n] w fun e w' => SecOut (Dk.torn a b n) w e w' := by
  obtain ⟨w1, hw1⟩ : ∃ w1, w1 = ((w.alloc (secO a)).alloc (secO b)).alloc (secO zeroSec) := ⟨_, rfl⟩
  have ha1 : Below (w.alloc (secO a)).heap.size (w.alloc (secO a)) w1 := by rw [hw1]; exact below_two _ _ _
  have ha2 : Below ((w.alloc (secO a)).alloc (secO b)).heap.size ((w.alloc (secO a)).alloc (secO b)) w1 := by rw [hw1]; exact (Below.refl _ _).alloc (Nat.le_refl _) _
  have HRA := Lib.hid (show w1.rangeAt w.heap.size 0 (secC a) from range_below (range_new w (secC a) 27) ha1 (by simp))
  have HRB := Lib.hid (show w1.rangeAt (w.heap.size + 1) 0 (mix a b 0) from by
    rw [mix_zero]
    refine range_below (show ((w.alloc (secO a)).alloc (secO b)).rangeAt (w.heap.size + 1) 0 (secC b) by have := range_new (w.alloc (secO a)) (secC b) 27; rwa [size_alloc] at this) ha2 (by simp))
  have HTB := Lib.hid (show w1.there (w.heap.size + 1) 0 128 from by
    refine there_below (show ((w.alloc (secO a)).alloc (secO b)).there (w.heap.size + 1) 0 128 by have := there_new (w.alloc (secO a)) (secC b) 27; rwa [size_alloc, secC_length] at this) ha2 (by simp))
  have HTC := Lib.hid (show w1.there (w.heap.size + 2) 0 128 from by
    rw [hw1]; have := there_new ((w.alloc (secO a)).alloc (secO b)) (secC zeroSec) 27; rwa [size_alloc, size_alloc, secC_length] at this)
  have HB := Lib.hid (show Below w.heap.size w w1 from ((Below.refl w.heap.size w).alloc (Nat.le_refl _) _).trans (ha1.mono (by simp)))
  have HS := Lib.hid (show w1.heap.size = w.heap.size + 3 by rw [hw1]; simp)
  have HW := Lib.hid hw1
  clear hw1 ha1 ha2
  go_enter Try.func37, Try.ntmps37
  go_wp2
  rw [← HW.out]
  go_loopw [7] (fun i wr => ∃ k : Nat, k ≤ n ∧ i = .int .i64 k ∧ Below (w.heap.size + 1) w1 wr ∧ wr.rangeAt (w.heap.size + 1) 0 (mix a b k) ∧ wr.there (w.heap.size + 1) 0 128 ∧ wr.there (w.heap.size + 2) 0 128 ∧ w.heap.size + 3 ≤ wr.heap.size) (fun i _ => n - (intOf i).toNat)
  case atStart => exact ⟨0, by omega, rfl, Below.refl _ _, HRB.out, HTB.out, HTC.out, by rw [HS.out]; omega⟩
  case round =>
    obtain ⟨k, hk, rfl, hbel, hr, ht, ht2, hsz⟩ := hrel
    rename World => wr
    have HB1 := Lib.hid hbel
    have HR := Lib.hid hr
    have HT := Lib.hid ht
    have HT2 := Lib.hid ht2
    clear hbel hr ht ht2
    by_cases hkn : k < n
    · have hk128 : k < 128 := by omega
      obtain ⟨c1, c2⟩ := HT.out k hk128
      obtain ⟨v0, c3⟩ := Option.isSome_iff_exists.1 c1
      rw [Nat.zero_add] at c2 c3
      obtain ⟨u, hu⟩ : ∃ u, a.1[k]? = some u := ⟨_, List.getElem?_eq_getElem (by rw [a.2]; exact hk128)⟩
      have HU := Lib.hid (show (secC a)[k]? = some (.int .u8 u.toNat) by simp [secC, Lib.byteCells, hu])
      have c4 : wr.cell? ⟨w.heap.size, k, none⟩ = some (.int .u8 u.toNat) := by
        have h := range_below HRA.out HB1.out (by omega) k _ HU.out
        rwa [Nat.zero_add] at h
      clear c1 hu
      have c5 : (0 : Int) ≤ k := by omega
      have c6 : (k : Int) < 128 := by omega
      go_wp2
      go_roundw
      case rel =>
        refine ⟨k + 1, by omega, by go_num, HB1.out.setCell (p := ⟨w.heap.size + 1, k, none⟩) (Nat.le_refl _) _, ?_, there_setCell HT.out _ _, there_setCell HT2.out _ _, by rw [size_set]; exact hsz⟩
        have h := range_setCell HR.out k (.int .u8 u.toNat) (by rw [mix_length a b k (by omega)]; exact hk128)
        rw [mix_set a b k hk128 _ HU.out, Nat.zero_add] at h
        exact h
      case measure => simp [intOf]; omega
    · have hkk : k = n := by omega
      have HRF := Lib.hid (show wr.rangeAt (w.heap.size + 1) 0 (secC (Dk.torn a b n)) by
        have h := HR.out
        rw [hkk, mix_torn] at h
        exact h)
      have HK := Lib.hid hkk
      clear hkk
      have hld := load_secVar HRF.out
      have hst := store_sec HT2.out
      have HL := Lib.hid (load_put HT2.out)
      go_wp2
      refine bodyPost_ret (ret_cell rfl rfl (secVar_run (HL.out (Dk.torn a b n)))) rfl ?_
      exact ⟨rfl, below_putSec (HB.out.trans (HB1.out.mono (by omega))) (by omega) _ _⟩
end Go.Proofs.Ytfffmmnpohgniaa
