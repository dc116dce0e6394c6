/-
  Small functions of both sides: the reference's Right, Arm, spend, step, New.
-/
import Derived.Test.YtfffmmnpohgniaaRt
namespace Go.Proofs.Ytfffmmnpohgniaa
open Go.RowKit
set_option linter.unusedVariables false

theorem var_new (w : World) (A A' : Option Addr) (n c n' c' : Nat) (f : Int) (dn : Bool) :
    Var (w.alloc (Obj.cells #[.slice A n c, .slice A' n' c', .int .i64 f, .bool dn] 25)) w.heap.size A A' n c n' c' f dn :=
  ⟨by simp, by simp [cell_of_new], by simp [cell_of_new], by simp [cell_of_new], by simp [cell_of_new]⟩

theorem rright_f (w : World) (v : Value) (d : Dk) (h : DiskAt w v d) : Calls Try.prog 17 #[v] w fun e w' => e = .returned (.bool d.right) ∧ Below w.heap.size w w' := by
  obtain ⟨A, n, c, A', n', c', rfl, hn, hn', h1, h2, _⟩ := h
  have H1 := Lib.hid h1
  have H2 := Lib.hid h2
  have HN := Lib.hid hn
  have HN' := Lib.hid hn'
  clear h1 h2 hn hn'
  generalize hf : d.fuse = f
  generalize hdn : d.down = dn
  have HV := Lib.hid (var_new w A A' n c n' c' f dn)
  have HB := Lib.hid ((Below.refl w.heap.size w).alloc (Nat.le_refl _) (Obj.cells #[.slice A n c, .slice A' n' c', .int .i64 f, .bool dn] 25))
  go_enter Try.func17, Try.ntmps17
  by_cases a1 : n < 1
  · go_wp2
    go_ret
    refine ⟨?_, HB.out⟩
    simp only [Dk.right, ← HN.out, ← HN'.out]
    simp; omega
  by_cases a2 : 2048 < n
  · go_wp2
    go_ret
    refine ⟨?_, HB.out⟩
    simp only [Dk.right, ← HN.out, ← HN'.out]
    simp; omega
  by_cases a3 : 4096 < n'
  · go_wp2
    go_ret
    refine ⟨?_, HB.out⟩
    simp only [Dk.right, ← HN.out, ← HN'.out]
    simp; omega
  go_wp2
  obtain ⟨w1, hw1⟩ : ∃ w1, w1 = w.alloc (Obj.cells #[.slice A n c, .slice A' n' c', .int .i64 f, .bool dn] 25) := ⟨_, rfl⟩
  rw [← hw1] at HV HB ⊢
  have HS := Lib.hid (show w1.heap.size = w.heap.size + 1 by rw [hw1]; simp)
  clear hw1
  go_loopw [3] (fun i wr => ∃ k : Nat, k ≤ n' ∧ i = .int .i64 k ∧ (∀ j x, j < k → d.loose[j]? = some x → Dk.inside n x.at_ = true) ∧ Below w1.heap.size w1 wr) (fun i _ => n' - (intOf i).toNat)
  case atStart => exact ⟨0, by omega, rfl, fun j x hj _ => absurd hj (by omega), Below.refl _ _⟩
  case round =>
    obtain ⟨k, hk, rfl, hall, hbel⟩ := hrel
    rename World => wr
    have HA := Lib.hid hall
    have HB1 := Lib.hid hbel
    clear hall hbel
    obtain ⟨z0, z1, z2, z3, z4⟩ := HV.out.below HB1.out HV.out.lt
    by_cases hkn : k < n'
    · obtain ⟨b', o', rfl, hb', hx⟩ := row_at H2.out (by omega)
      obtain ⟨x, hxk⟩ : ∃ x, d.loose[k]? = some x := ⟨_, List.getElem?_eq_getElem (by rw [← HN'.out]; exact hkn)⟩
      have hat : wr.cell? ⟨b', o' + k * 129, none⟩ = some (.int .i64 x.at_) := range_wr_at (range_below (range_below (range_wrs hx hxk) HB.out hb') HB1.out (by have := HS.out; omega))
      have HXK := Lib.hid hxk
      clear hx hxk
      have hki : (k : Int) < n' := by omega
      have hk0 : (0 : Int) ≤ k := by omega
      have HF := Lib.hid (fun (q : ¬ (0 ≤ x.at_ ∧ x.at_ < n)) => show d.right = false by
            rw [Dk.right, Bool.and_eq_false_iff]; right; rw [List.all_eq_false]
            refine ⟨x, List.mem_of_getElem? HXK.out, ?_⟩
            rw [← HN.out]; simpa [Dk.inside] using q)
      by_cases q0 : x.at_ < 0
      · go_wp2_with fail
        go_quiet (fail)
        go_wp2
        go_ret
        refine ⟨by rw [HF.out (by omega)]; simp, below_drewN (below_chain HB.out HB1.out) _⟩
      by_cases q1 : (n : Int) ≤ x.at_
      · go_wp2_with fail
        go_quiet (fail)
        go_wp2
        go_ret
        refine ⟨by rw [HF.out (by omega)]; simp, below_drewN (below_chain HB.out HB1.out) _⟩
      go_wp2_with fail
      go_quiet (fail)
      go_wp2
      go_roundw
      case rel =>
        refine ⟨k + 1, by omega, by go_num, ?_, below_drewN HB1.out _⟩
        intro j y hj hy
        rcases Nat.lt_or_ge j k with h | h
        · exact HA.out j y h hy
        · obtain rfl : j = k := by omega
          rw [HXK.out] at hy
          cases hy
          simp [Dk.inside]; omega
      case measure => simp [intOf]; omega
    · go_wp2
      go_ret
      refine ⟨?_, below_chain HB.out HB1.out⟩
      have : d.right = true := by
        simp only [Dk.right, ← HN.out, ← HN'.out, Bool.and_eq_true, decide_eq_true_eq, List.all_eq_true]
        refine ⟨by omega, fun x hx => ?_⟩
        obtain ⟨j, hj⟩ := List.getElem?_of_mem hx
        have hjl := (List.getElem?_eq_some_iff.1 hj).1
        exact HA.out j x (by have := HN'.out; omega) hj
      simp [this]

end Go.Proofs.Ytfffmmnpohgniaa
