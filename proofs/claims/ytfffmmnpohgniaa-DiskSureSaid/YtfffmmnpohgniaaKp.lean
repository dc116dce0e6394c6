/-
  kept; Torn; filled.
-/
import Derived.Test.YtfffmmnpohgniaaCp
namespace Go.Proofs.Ytfffmmnpohgniaa
open Go.RowKit
set_option linter.unusedVariables false

theorem kept_f (w : World) (k c : UInt8) : Calls Try.prog 36 #[.agg #[.int .u8 k.toNat, .int .u8 c.toNat]] w fun e w' => e = .returned (.int .i64 (Dk.kept (k, c))) ∧ Below w.heap.size w w' := by
  have hk := k.toNat_lt
  have hc := c.toNat_lt
  have HK := Lib.hid (show Dk.kept (k, c) = if k.toNat % 3 = 1 then 128 else if k.toNat % 3 = 2 then c.toNat % 128 else 0 from rfl)
  generalize k.toNat = x at *
  generalize c.toNat = y at *
  have hx : (x : Int) % 3 = ((x % 3 : Nat) : Int) := by omega
  have hy : (y : Int) % 128 = ((y % 128 : Nat) : Int) := by omega
  have HX := Lib.hid hx
  have HY := Lib.hid hy
  clear hx hy
  have hx0 : (0 : Int) ≤ x := by omega
  go_enter Try.func36, Try.ntmps36
  by_cases q1 : x % 3 = 1
  · have Q1 := Lib.hid q1
    have q : ((x : Int) % 3 == 1) = true := by simp; omega
    clear q1
    go_wp2
    go_ret
    exact ⟨by rw [HK.out, if_pos Q1.out]; rfl, (Below.refl _ _).alloc (Nat.le_refl _) _⟩
  by_cases q2 : x % 3 = 2
  · have Q1 := Lib.hid q1
    have Q2 := Lib.hid q2
    have q : ((x : Int) % 3 == 1) = false := by simp; omega
    have q' : ((x : Int) % 3 == 2) = true := by simp; omega
    clear q1 q2
    go_wp2
    go_ret
    exact ⟨by rw [HK.out, if_neg Q1.out, if_pos Q2.out, ← HY.out]; rfl, (Below.refl _ _).alloc (Nat.le_refl _) _⟩
  · have Q1 := Lib.hid q1
    have Q2 := Lib.hid q2
    have q : ((x : Int) % 3 == 1) = false := by simp; omega
    have q' : ((x : Int) % 3 == 2) = false := by simp; omega
    clear q1 q2
    go_wp2
    go_ret
    exact ⟨by rw [HK.out, if_neg Q1.out, if_neg Q2.out]; rfl, (Below.refl _ _).alloc (Nat.le_refl _) _⟩
end Go.Proofs.Ytfffmmnpohgniaa
