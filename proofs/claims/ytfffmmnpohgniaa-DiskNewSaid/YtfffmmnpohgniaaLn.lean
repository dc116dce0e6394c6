/-
  DiskNew, walked.
-/
import Derived.Test.YtfffmmnpohgniaaTp
namespace Go.Proofs.Ytfffmmnpohgniaa
open Go.RowKit
set_option linter.unusedVariables false

theorem new_len (n : Int) : (Dk.new n).1.secs.length ≤ 2048 ∧ (Dk.new n).1.loose.length = 0 := by
  unfold Dk.new
  split
  · exact ⟨by simp; omega, rfl⟩
  · exact ⟨by simp, rfl⟩
theorem law_new (w : World) (n : Int) (n0 : -9223372036854775808 ≤ n) (n1 : n < 9223372036854775808) : Calls Try.prog 4 #[.int .i64 n] w fun e w' => e = .returned (.bool true) ∧ Below w.heap.size w w' := by
  have HL := Lib.hid (new_len n)
  go_enter Try.func4, Try.ntmps4
  go_wp2_with fail
  refine (alive_f w).mono ?_
  rintro e w1 ⟨rfl, hb1⟩
  have HB1 := Lib.hid hb1
  clear hb1
  go_wp2_with fail
  refine (new_f n w1).mono ?_
  rintro e w2 ⟨⟨u, rfl, hg, _⟩, hb2⟩
  obtain ⟨C2, rfl, hc2⟩ := hg.agg
  have HG2 := Lib.hid hg
  have HB2 := Lib.hid hb2
  clear hg hb2
  generalize hr : (Dk.new n).2 = r
  have HR := Lib.hid hr
  clear hr
  have HBa := Lib.hid ((Below.refl w2.heap.size w2).alloc (Nat.le_refl _) (Obj.cells C2 25))
  have HVa := Lib.hid (dvar_new w2 hc2)
  go_wp2_with fail
  refine (rnew_f n _).mono ?_
  rintro e w3 ⟨⟨u, rfl, hg, _⟩, hb3⟩
  obtain ⟨C3, rfl, hc3⟩ := hg.agg
  have HG3 := Lib.hid hg
  have HB3 := Lib.hid hb3
  clear hg hb3
  rw [HR.out]
  have HBb := Lib.hid ((Below.refl w3.heap.size w3).alloc (Nat.le_refl _) (Obj.cells C3 25))
  have HBab := Lib.hid (below_chain HBa.out (below_chain HB3.out HBb.out))
  have hl2 := ((HVa.out.below HB3.out (by simp)).below HBb.out (by have := HB3.out.size; simp at this; omega)).load
  go_wp2_with fail
  refine (same_f _ (.agg C2) (.agg C3) (Dk.new n).1 (HG2.out.kept HBab.out (Nat.le_refl _)) (HG3.out.kept HBb.out (Nat.le_refl _)) (by have := HL.out; omega) (by have := HL.out; omega)).mono ?_
  rintro e w4 ⟨rfl, hb4⟩
  have HB4 := Lib.hid hb4
  clear hb4
  have hrr : (r == r) = true := by simp
  go_wp2
  go_ret
  exact ⟨rfl, below_chain (below_chain HB1.out HB2.out) (below_chain HBab.out HB4.out)⟩
end Go.Proofs.Ytfffmmnpohgniaa
