/-
  The reference's words: of 32 bits in integers of 64. cut, turn, mix.
-/
import Derived.Test.YtbhjigejpdbeiaaDoorZSc
import Derived.Deep.QuietTactic
import Derived.Deep.RegionHeld3
import Derived.BigQuiet
import Derived.IntWalk
set_option linter.unusedSimpArgs false
set_option linter.unusedVariables false
namespace Go.Proofs.YtbhjigejpdbeiaaDoor
open Go.RowKit
set_option linter.unusedVariables false
set_option maxRecDepth 8000

theorem ofInt_w64 (x : W32) : BitVec.ofInt 64 (wi x) = x.zeroExtend 64 := by
  rw [wi_def, BitVec.ofInt_natCast]
  apply BitVec.eq_of_toNat_eq
  simp
theorem wrap_w64 (x : BitVec 64) : IntKind.u64.wrap (x.toNat : Int) = (x.toNat : Int) := by
  have := x.isLt
  rw [IntKind.wrap_u64]; omega
theorem low_w (x : BitVec 64) (y : W32) (h : x = y.zeroExtend 64) : (x.toNat : Int) = wi y := by
  subst h
  rw [wi_def]
  have := y.isLt
  simp
  omega
@[go_sem] theorem bits_xor_q (x y : W32) : bits .xor .u64 (wi x) (wi y) = wi (x ^^^ y) := by
  show IntKind.u64.wrap ((BitVec.ofInt 64 (wi x) ^^^ BitVec.ofInt 64 (wi y)).toNat : Int) = _
  rw [ofInt_w64, ofInt_w64, wrap_w64]
  exact low_w _ _ (by apply BitVec.eq_of_getLsbD_eq; intro i hi; simp [BitVec.getLsbD_setWidth])
@[go_sem] theorem bits_and_q (x y : W32) : bits .and .u64 (wi x) (wi y) = wi (x &&& y) := by
  show IntKind.u64.wrap ((BitVec.ofInt 64 (wi x) &&& BitVec.ofInt 64 (wi y)).toNat : Int) = _
  rw [ofInt_w64, ofInt_w64, wrap_w64]
  exact low_w _ _ (by apply BitVec.eq_of_getLsbD_eq; intro i hi; simp [BitVec.getLsbD_setWidth])
@[go_sem] theorem bits_or_q (x y : W32) : bits .or .u64 (wi x) (wi y) = wi (x ||| y) := by
  show IntKind.u64.wrap ((BitVec.ofInt 64 (wi x) ||| BitVec.ofInt 64 (wi y)).toNat : Int) = _
  rw [ofInt_w64, ofInt_w64, wrap_w64]
  exact low_w _ _ (by apply BitVec.eq_of_getLsbD_eq; intro i hi; simp [BitVec.getLsbD_setWidth])
@[irreducible] def notq (x : W32) : Int := bits .xor .u64 18446744073709551615 (wi x)
@[go_sem] theorem notq_def (x : W32) : bits .xor .u64 18446744073709551615 (wi x) = notq x := by unfold notq; rfl
@[go_sem] theorem notq_def' (x : W32) : bits .xor .u64 IntKind.u64.max (wi x) = notq x := notq_def x
@[go_sem] theorem bits_andn_q (x y : W32) : bits .and .u64 (notq x) (wi y) = wi (~~~x &&& y) := by
  have h1 : notq x = ((~~~(x.zeroExtend 64)).toNat : Int) := by
    unfold notq
    show IntKind.u64.wrap ((BitVec.ofInt 64 18446744073709551615 ^^^ BitVec.ofInt 64 (wi x)).toNat : Int) = _
    rw [ofInt_w64, wrap_w64, show BitVec.ofInt 64 18446744073709551615 = BitVec.allOnes 64 from rfl, BitVec.allOnes_xor]
  have h2 : BitVec.ofInt 64 (notq x) = ~~~(x.zeroExtend 64) := by
    rw [h1, BitVec.ofInt_natCast]; apply BitVec.eq_of_toNat_eq; simp; omega
  show IntKind.u64.wrap ((BitVec.ofInt 64 (notq x) &&& BitVec.ofInt 64 (wi y)).toNat : Int) = _
  rw [ofInt_w64, h2, wrap_w64]
  refine low_w _ _ ?_
  apply BitVec.eq_of_getLsbD_eq
  intro i hi
  simp [BitVec.getLsbD_setWidth]
  by_cases h : i < 32
  · simp [h, hi]
  · have := BitVec.getLsbD_of_ge y i (by omega)
    simp [this]
theorem cut_f (w : World) (n : Int) (h0 : 0 ≤ n) : Calls Tryd.prog 104 #[.int .u64 n, .int .i64 32] w fun e w' => e = .returned (.int .u64 (n % 4294967296)) ∧ w' = w := by
  go_enter Tryd.func104, Tryd.ntmps104
  go_wp2
  go_ret
  exact ⟨rfl, rfl⟩
/-- A word turned, by way of 64 bits. -/
theorem turn_q (x : W32) (n : Nat) (h0 : 0 < n) (h1 : n < 32) : bits .or .u64 (wi (x >>> n)) (IntKind.u64.wrap (wi x * 2 ^ (32 - n))) % 4294967296 = wi (Sha.rotr x n) := by
  have e1 : wi x * 2 ^ (32 - n) = ((x.zeroExtend 64 <<< (32 - n)).toNat : Int) := by
    rw [BitVec.toNat_shiftLeft, Nat.shiftLeft_eq, wi_def]
    have hx := x.isLt
    have hp : x.toNat * 2 ^ (32 - n) < 2 ^ 64 := by
      have h2 : 2 ^ (32 - n) ≤ 2 ^ 32 := Nat.pow_le_pow_right (by decide) (by omega)
      calc x.toNat * 2 ^ (32 - n) ≤ x.toNat * 2 ^ 32 := Nat.mul_le_mul_left _ h2
        _ < 2 ^ 32 * 2 ^ 32 := Nat.mul_lt_mul_of_pos_right hx (by decide)
        _ = 2 ^ 64 := by decide
    simp only [BitVec.truncate_eq_setWidth, BitVec.toNat_setWidth]
    rw [Nat.mod_eq_of_lt (show x.toNat < 2 ^ 64 by omega), Nat.mod_eq_of_lt hp]
    simp
  rw [e1, wrap_w64]
  have e2 : BitVec.ofInt 64 ((x.zeroExtend 64 <<< (32 - n)).toNat : Int) = x.zeroExtend 64 <<< (32 - n) := by
    rw [BitVec.ofInt_natCast]; apply BitVec.eq_of_toNat_eq; simp
  have e3 : bits .or .u64 (wi (x >>> n)) ((x.zeroExtend 64 <<< (32 - n)).toNat : Int) = (((x >>> n).zeroExtend 64 ||| x.zeroExtend 64 <<< (32 - n)).toNat : Int) := by
    show IntKind.u64.wrap ((BitVec.ofInt 64 (wi (x >>> n)) ||| BitVec.ofInt 64 ((x.zeroExtend 64 <<< (32 - n)).toNat : Int)).toNat : Int) = _
    rw [ofInt_w64, e2, wrap_w64]
  rw [e3, wi_def]
  have e4 : (((x >>> n).zeroExtend 64 ||| x.zeroExtend 64 <<< (32 - n)).truncate 32) = Sha.rotr x n := by
    unfold Sha.rotr
    apply BitVec.eq_of_getLsbD_eq
    intro i hi
    simp [BitVec.getLsbD_setWidth, hi]
    have hni : n + i < 64 := by omega
    by_cases h : i < 32 - n
    · simp [h, hni]
    · simp [h, hni]
  rw [← e4, BitVec.toNat_setWidth]
  simp
theorem rturn_f (w : World) (x : W32) (n : Nat) (h0 : 0 < n) (h1 : n < 32) : Calls Tryd.prog 108 #[.int .u64 (wi x), .int .i64 (n : Int), .int .i64 32] w fun e w' => e = .returned (.int .u64 (wi (Sha.rotr x n))) ∧ w' = w := by
  have ht := turn_q x n h0 h1
  have hr := wi_range x
  have h3 : wi x / 2 ^ n = wi (x >>> n) := shr_w x n
  go_enter Tryd.func108, Tryd.ntmps108
  have hp : (0 : Int) ≤ bits .or .u64 (wi (x >>> n)) (IntKind.u64.wrap (wi x * 2 ^ (32 - n))) := by
    show 0 ≤ IntKind.u64.wrap _
    rw [IntKind.wrap_u64]
    exact Int.emod_nonneg _ (by decide)
  have HT := Lib.hid ht
  have HP := Lib.hid hp
  clear ht hp
  go_wp2_with fail
  refine (cut_f _ _ HP.out).mono ?_
  rintro e w' ⟨rfl, rfl⟩
  go_wp2
  go_ret
  rw [HT.out]
  exact ⟨rfl, rfl⟩

/-- Three turns, mixed. -/
theorem rmix_f (w : World) (x : W32) (p q r : Nat) (hp0 : 0 < p) (hp : p < 32) (hq0 : 0 < q) (hq : q < 32) (hr0 : 0 < r) (hr : r < 32) :
    Calls Tryd.prog 105 #[.int .u64 (wi x), .agg #[.int .i64 (p : Int), .int .i64 (q : Int), .int .i64 (r : Int)], .bool false, .int .i64 32] w fun e w' => e = .returned (.int .u64 (wi (Sha.rotr x p ^^^ Sha.rotr x q ^^^ Sha.rotr x r))) ∧ Below w.heap.size w w' := by
  have hb := Lib.hid (show Below w.heap.size w (w.alloc (.cells #[.int .i64 (p : Int), .int .i64 (q : Int), .int .i64 (r : Int)] 167)) from (Below.refl _ _).alloc (Nat.le_refl _) _)
  go_enter Tryd.func105, Tryd.ntmps105
  go_wp2_with fail
  refine (rturn_f _ x r hr0 hr).mono ?_
  rintro e w' ⟨rfl, rfl⟩
  go_wp2_with fail
  go_quiet ((go_at_call 108; (first | with_reducible exact Calls.quiet_of_same (rturn_f _ x p hp0 hp) | with_reducible exact Calls.quiet_of_same (rturn_f _ x q hq0 hq))))
  go_wp2
  go_ret
  exact ⟨rfl, below_drewN hb.out _⟩
theorem rmixs_f (w : World) (x : W32) (p q r : Nat) (hp0 : 0 < p) (hp : p < 32) (hq0 : 0 < q) (hq : q < 32) (hr0 : 0 < r) (hr : r < 32) :
    Calls Tryd.prog 105 #[.int .u64 (wi x), .agg #[.int .i64 (p : Int), .int .i64 (q : Int), .int .i64 (r : Int)], .bool true, .int .i64 32] w fun e w' => e = .returned (.int .u64 (wi (Sha.rotr x p ^^^ Sha.rotr x q ^^^ (x >>> r)))) ∧ Below w.heap.size w w' := by
  have hb := Lib.hid (show Below w.heap.size w (w.alloc (.cells #[.int .i64 (p : Int), .int .i64 (q : Int), .int .i64 (r : Int)] 167)) from (Below.refl _ _).alloc (Nat.le_refl _) _)
  have h3 : wi x / 2 ^ r = wi (x >>> r) := shr_w x r
  have h4 := wi_range x
  go_enter Tryd.func105, Tryd.ntmps105
  go_wp2_with fail
  refine (rturn_f _ x r hr0 hr).mono ?_
  rintro e w' ⟨rfl, rfl⟩
  go_wp2_with fail
  go_quiet ((go_at_call 108; (first | with_reducible exact Calls.quiet_of_same (rturn_f _ x p hp0 hp) | with_reducible exact Calls.quiet_of_same (rturn_f _ x q hq0 hq))))
  go_wp2
  go_ret
  exact ⟨rfl, below_drewN hb.out _⟩
theorem rPadded_f (w : World) : Calls Tryd.prog 103 #[.int .i64 120, .int .i64 32] w fun e w' => e = .returned (.int .i64 192) ∧ w' = w := by
  go_enter Tryd.func103, Tryd.ntmps103
  go_wp2
  go_ret
  exact ⟨rfl, rfl⟩

/-! ### Sums of words, in 64 bits -/
@[go_sem] theorem wrap_q1 (a : W32) : IntKind.u64.wrap (wi a) = wi a := by have := wi_range a; rw [IntKind.wrap_u64]; omega
@[go_sem] theorem wrap_q2 (a b : W32) : IntKind.u64.wrap (wi a + wi b) = wi a + wi b := by have := wi_range a; have := wi_range b; rw [IntKind.wrap_u64]; omega
@[go_sem] theorem wrap_q3 (a b c : W32) : IntKind.u64.wrap (wi a + wi b + wi c) = wi a + wi b + wi c := by have := wi_range a; have := wi_range b; have := wi_range c; rw [IntKind.wrap_u64]; omega
@[go_sem] theorem wrap_q4 (a b c d : W32) : IntKind.u64.wrap (wi a + wi b + wi c + wi d) = wi a + wi b + wi c + wi d := by have := wi_range a; have := wi_range b; have := wi_range c; have := wi_range d; rw [IntKind.wrap_u64]; omega
@[go_sem] theorem wrap_q5 (a b c d e : W32) : IntKind.u64.wrap (wi a + wi b + wi c + wi d + wi e) = wi a + wi b + wi c + wi d + wi e := by have := wi_range a; have := wi_range b; have := wi_range c; have := wi_range d; have := wi_range e; rw [IntKind.wrap_u64]; omega
@[go_sem] theorem mod_q2 (a b : W32) : (wi a + wi b) % 18446744073709551616 = wi a + wi b := by have := wi_range a; have := wi_range b; omega
@[go_sem] theorem mod_q3 (a b c : W32) : (wi a + wi b + wi c) % 18446744073709551616 = wi a + wi b + wi c := by have := wi_range a; have := wi_range b; have := wi_range c; omega
@[go_sem] theorem mod_q4 (a b c d : W32) : (wi a + wi b + wi c + wi d) % 18446744073709551616 = wi a + wi b + wi c + wi d := by have := wi_range a; have := wi_range b; have := wi_range c; have := wi_range d; omega
@[go_sem] theorem mod_q5 (a b c d e : W32) : (wi a + wi b + wi c + wi d + wi e) % 18446744073709551616 = wi a + wi b + wi c + wi d + wi e := by have := wi_range a; have := wi_range b; have := wi_range c; have := wi_range d; have := wi_range e; omega
theorem cut2 (a b : W32) : (wi a + wi b) % 4294967296 = wi (a + b) := add_w a b
theorem cut3 (a b c : W32) : (wi a + wi b + wi c) % 4294967296 = wi (a + b + c) := by rw [← add_w (a + b) c, ← add_w a b]; omega
theorem cut4 (a b c d : W32) : (wi a + wi b + wi c + wi d) % 4294967296 = wi (a + b + c + d) := by rw [← add_w (a + b + c) d, ← cut3 a b c]; omega
theorem cut5 (a b c d e : W32) : (wi a + wi b + wi c + wi d + wi e) % 4294967296 = wi (a + b + c + d + e) := by rw [← add_w (a + b + c + d) e, ← cut4 a b c d]; omega
theorem cut2_f (w : World) (a b : W32) : Calls Tryd.prog 104 #[.int .u64 (wi a + wi b), .int .i64 32] w fun e w' => e = .returned (.int .u64 (wi (a + b))) ∧ w' = w := by
  rw [← cut2]; exact cut_f w _ (by have := wi_range a; have := wi_range b; omega)
theorem cut4_f (w : World) (a b c d : W32) : Calls Tryd.prog 104 #[.int .u64 (wi a + wi b + wi c + wi d), .int .i64 32] w fun e w' => e = .returned (.int .u64 (wi (a + b + c + d))) ∧ w' = w := by
  rw [← cut4]; exact cut_f w _ (by have := wi_range a; have := wi_range b; have := wi_range c; have := wi_range d; omega)
theorem cut5_f (w : World) (a b c d e : W32) : Calls Tryd.prog 104 #[.int .u64 (wi a + wi b + wi c + wi d + wi e), .int .i64 32] w fun x w' => x = .returned (.int .u64 (wi (a + b + c + d + e))) ∧ w' = w := by
  rw [← cut5]; exact cut_f w _ (by have := wi_range a; have := wi_range b; have := wi_range c; have := wi_range d; have := wi_range e; omega)
/-- The four mixings, in one chain of worlds. -/
theorem rbig0_b {W0 W : World} (hb : Below W0.heap.size W0 W) (x : W32) : Calls Tryd.prog 105 #[.int .u64 (wi x), .agg #[.int .i64 2, .int .i64 13, .int .i64 22], .bool false, .int .i64 32] W fun e w' => e = .returned (.int .u64 (wi (Sha.big0 x))) ∧ Below W0.heap.size W0 w' :=
  (rmix_f W x 2 13 22 (by decide) (by decide) (by decide) (by decide) (by decide) (by decide)).mono fun _ _ ⟨h1, h2⟩ => ⟨h1, below_chain hb h2⟩
theorem rbig1_b {W0 W : World} (hb : Below W0.heap.size W0 W) (x : W32) : Calls Tryd.prog 105 #[.int .u64 (wi x), .agg #[.int .i64 6, .int .i64 11, .int .i64 25], .bool false, .int .i64 32] W fun e w' => e = .returned (.int .u64 (wi (Sha.big1 x))) ∧ Below W0.heap.size W0 w' :=
  (rmix_f W x 6 11 25 (by decide) (by decide) (by decide) (by decide) (by decide) (by decide)).mono fun _ _ ⟨h1, h2⟩ => ⟨h1, below_chain hb h2⟩
theorem rsmall0_b {W0 W : World} (hb : Below W0.heap.size W0 W) (x : W32) : Calls Tryd.prog 105 #[.int .u64 (wi x), .agg #[.int .i64 7, .int .i64 18, .int .i64 3], .bool true, .int .i64 32] W fun e w' => e = .returned (.int .u64 (wi (Sha.small0 x))) ∧ Below W0.heap.size W0 w' :=
  (rmixs_f W x 7 18 3 (by decide) (by decide) (by decide) (by decide) (by decide) (by decide)).mono fun _ _ ⟨h1, h2⟩ => ⟨h1, below_chain hb h2⟩
theorem rsmall1_b {W0 W : World} (hb : Below W0.heap.size W0 W) (x : W32) : Calls Tryd.prog 105 #[.int .u64 (wi x), .agg #[.int .i64 17, .int .i64 19, .int .i64 10], .bool true, .int .i64 32] W fun e w' => e = .returned (.int .u64 (wi (Sha.small1 x))) ∧ Below W0.heap.size W0 w' :=
  (rmixs_f W x 17 19 10 (by decide) (by decide) (by decide) (by decide) (by decide) (by decide)).mono fun _ _ ⟨h1, h2⟩ => ⟨h1, below_chain hb h2⟩
end Go.Proofs.YtbhjigejpdbeiaaDoor
