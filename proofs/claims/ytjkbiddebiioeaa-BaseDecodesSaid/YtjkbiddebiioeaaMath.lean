/-
  Base64 in plain Lean: bytes as letters by digits of one great number, and back. No program in sight.
-/
import Derived.Lib.Bytealg
namespace Go.Proofs.Ytjkbiddebiioeaa.M

def lt (a : List UInt8) (k : Nat) : UInt8 := a.getD k 0

/-- The last m letters of a number, the highest first. -/
def digs (a : List UInt8) : Nat → Nat → List UInt8
  | 0, _ => []
  | m + 1, x => digs a m (x / 64) ++ [lt a (x % 64)]

/-- The number of bytes, the highest first. -/
def val (l : List UInt8) : Nat := l.foldl (fun n u => 256 * n + u.toNat) 0

def size (n : Nat) : Nat := (8 * n + 5) / 6

def enc (a l : List UInt8) : List UInt8 := digs a (size l.length) (val l * 2 ^ (6 * size l.length - 8 * l.length))

theorem digs_length (a : List UInt8) (m x : Nat) : (digs a m x).length = m := by
  induction m generalizing x with
  | zero => rfl
  | succ m ih => simp [digs, ih]

theorem enc_length (a l : List UInt8) : (enc a l).length = size l.length := digs_length _ _ _

theorem digs_add (a : List UInt8) (m j x : Nat) : digs a (m + j) x = digs a m (x / 64 ^ j) ++ digs a j x := by
  induction j generalizing x with
  | zero => simp [digs]
  | succ j ih =>
    show digs a (m + j) (x / 64) ++ _ = _
    rw [ih]
    simp only [digs, List.append_assoc]
    rw [Nat.div_div_eq_div_mul, Nat.pow_succ, Nat.mul_comm 64]

theorem digs_mod (a : List UInt8) (j x y : Nat) : digs a j (y * 64 ^ j + x) = digs a j x := by
  induction j generalizing x y with
  | zero => rfl
  | succ j ih =>
    simp only [digs]
    have h1 : (y * 64 ^ (j + 1) + x) / 64 = y * 64 ^ j + x / 64 := by
      rw [Nat.pow_succ, ← Nat.mul_assoc, Nat.mul_comm (y * 64 ^ j) 64, Nat.mul_add_div (by omega)]
    have h2 : (y * 64 ^ (j + 1) + x) % 64 = x % 64 := by
      rw [Nat.pow_succ, ← Nat.mul_assoc, Nat.mul_comm (y * 64 ^ j) 64, Nat.mul_add_mod]
    rw [h1, h2, ih]

theorem foldl_val (r : List UInt8) (n : Nat) : r.foldl (fun n u => 256 * n + u.toNat) n = n * 256 ^ r.length + val r := by
  unfold val
  induction r generalizing n with
  | nil => simp
  | cons u r ih =>
    simp only [List.foldl_cons, List.length_cons]
    rw [ih, ih (256 * 0 + u.toNat), Nat.pow_succ, Nat.add_mul, Nat.add_mul]
    have : 256 * n * 256 ^ r.length = n * (256 ^ r.length * 256) := by
      rw [Nat.mul_comm 256 n, Nat.mul_assoc, Nat.mul_comm 256]
    omega

theorem val_append (l r : List UInt8) : val (l ++ r) = val l * 256 ^ r.length + val r := by
  show (l ++ r).foldl _ 0 = _
  rw [List.foldl_append, foldl_val]; rfl

theorem val_snoc (l : List UInt8) (u : UInt8) : val (l ++ [u]) = 256 * val l + u.toNat := by
  unfold val; rw [List.foldl_append]; rfl

theorem val_lt (l : List UInt8) : val l < 256 ^ l.length := by
  have h : ∀ r : List UInt8, val r.reverse < 256 ^ r.length := by
    intro r
    induction r with
    | nil => simp [val]
    | cons u r ih =>
      have := u.toNat_lt
      rw [List.reverse_cons, val_snoc, List.length_cons, Nat.pow_succ]; omega
  simpa using h l.reverse

/-- Letters of bytes by threes, and of others behind them. -/
theorem enc_append (a l r : List UInt8) (h : l.length % 3 = 0) : enc a (l ++ r) = enc a l ++ enc a r := by
  obtain ⟨k, hk⟩ : ∃ k, l.length = 3 * k := ⟨l.length / 3, by omega⟩
  have s1 : size l.length = 4 * k := by unfold size; omega
  have s2 : size (l ++ r).length = 4 * k + size r.length := by unfold size; rw [List.length_append]; omega
  unfold enc
  rw [s2, s1, val_append, digs_add]
  have e1 : 6 * (4 * k + size r.length) - 8 * (l ++ r).length = 6 * size r.length - 8 * r.length := by
    rw [List.length_append]; omega
  have e2 : 6 * (4 * k) - 8 * l.length = 0 := by omega
  rw [e1, e2, Nat.pow_zero, Nat.mul_one]
  have hs : 8 * r.length ≤ 6 * size r.length := by unfold size; omega
  have e3 : (val l * 256 ^ r.length + val r) * 2 ^ (6 * size r.length - 8 * r.length) = val l * 64 ^ size r.length + val r * 2 ^ (6 * size r.length - 8 * r.length) := by
    rw [Nat.add_mul, Nat.mul_assoc]
    congr 2
    rw [show (256 : Nat) = 2 ^ 8 from rfl, show (64 : Nat) = 2 ^ 6 from rfl, ← Nat.pow_mul, ← Nat.pow_mul, ← Nat.pow_add]
    congr 1; omega
  have e4 : val r * 2 ^ (6 * size r.length - 8 * r.length) < 64 ^ size r.length := by
    have := val_lt r
    have e5 : 256 ^ r.length * 2 ^ (6 * size r.length - 8 * r.length) = 64 ^ size r.length := by
      rw [show (256 : Nat) = 2 ^ 8 from rfl, show (64 : Nat) = 2 ^ 6 from rfl, ← Nat.pow_mul, ← Nat.pow_mul, ← Nat.pow_add]
      congr 1; omega
    rw [← e5]
    exact (Nat.mul_lt_mul_right (Nat.two_pow_pos _)).2 this
  rw [e3, digs_mod]
  congr 2
  rw [Nat.mul_comm, Nat.mul_add_div (Nat.pos_of_ne_zero (by intro h0; rw [h0] at e4; omega)), Nat.div_eq_of_lt e4, Nat.add_zero]

theorem enc_nil (a : List UInt8) : enc a [] = [] := rfl
theorem enc_three (a : List UInt8) (x y z : UInt8) : enc a [x, y, z] =
    [lt a ((x.toNat * 65536 + y.toNat * 256 + z.toNat) / 262144 % 64), lt a ((x.toNat * 65536 + y.toNat * 256 + z.toNat) / 4096 % 64),
     lt a ((x.toNat * 65536 + y.toNat * 256 + z.toNat) / 64 % 64), lt a ((x.toNat * 65536 + y.toNat * 256 + z.toNat) % 64)] := by
  have e : val [x, y, z] = x.toNat * 65536 + y.toNat * 256 + z.toNat := by simp [val]; omega
  simp [enc, size, digs, e, Nat.div_div_eq_div_mul]
theorem enc_two (a : List UInt8) (x y : UInt8) : enc a [x, y] =
    [lt a ((x.toNat * 65536 + y.toNat * 256) / 262144 % 64), lt a ((x.toNat * 65536 + y.toNat * 256) / 4096 % 64),
     lt a ((x.toNat * 65536 + y.toNat * 256) / 64 % 64)] := by
  have e : val [x, y] = x.toNat * 256 + y.toNat := by simp [val]; omega
  simp [enc, size, digs, e, Nat.div_div_eq_div_mul]
  refine ⟨?_, ?_, ?_⟩ <;> (congr 1; omega)
theorem enc_one (a : List UInt8) (x : UInt8) : enc a [x] =
    [lt a ((x.toNat * 65536) / 262144 % 64), lt a ((x.toNat * 65536) / 4096 % 64)] := by
  have e : val [x] = x.toNat := by simp [val]
  simp [enc, size, digs, e]
  refine ⟨?_, ?_⟩ <;> (congr 1; omega)

/-! The reference, bit by bit. -/
def bit (l : List UInt8) (i : Nat) : Nat := (l.getD (i / 8) 0).toNat / 2 ^ (7 - i % 8) % 2
def top (l : List UInt8) : Nat → Nat
  | 0 => 0
  | i + 1 => 2 * top l i + bit l i

theorem top_bytes (l : List UInt8) (j : Nat) (h : j ≤ l.length) : top l (8 * j) = val (l.take j) := by
  induction j with
  | zero => simp [top, val]
  | succ j ih =>
    have hj : j < l.length := by omega
    rw [List.take_succ_eq_append_getElem hj, val_snoc, ← ih (by omega)]
    have hb : ∀ m, m < 8 → bit l (8 * j + m) = l[j].toNat / 2 ^ (7 - m) % 2 := by
      intro m hm
      unfold bit
      have e1 : (8 * j + m) / 8 = j := by omega
      have e2 : (8 * j + m) % 8 = m := by omega
      rw [e1, e2]; simp [hj]
    show top l (8 * j + 8) = _
    simp only [top]
    have h0 := hb 0 (by omega)
    rw [Nat.add_zero] at h0
    rw [h0, hb 1 (by omega), hb 2 (by omega), hb 3 (by omega), hb 4 (by omega), hb 5 (by omega), hb 6 (by omega), hb 7 (by omega)]
    have := l[j].toNat_lt
    simp only [Nat.sub_zero, Nat.reducePow, Nat.reduceSub]
    omega

theorem top_all (l : List UInt8) : top l (8 * l.length) = val l := by rw [top_bytes l _ (Nat.le_refl _), List.take_length]

theorem bit_lt (l : List UInt8) (i : Nat) : bit l i < 2 := Nat.mod_lt _ (by omega)

/-- What the reference's s, n, bits are behind i bits. -/
def refS (a l : List UInt8) (i : Nat) : List UInt8 := digs a (i / 6) (top l i / 2 ^ (i % 6))
def refN (l : List UInt8) (i : Nat) : Nat := top l i % 2 ^ (i % 6)
theorem refN_lt (l : List UInt8) (i : Nat) : refN l i < 2 ^ (i % 6) := Nat.mod_lt _ (Nat.two_pow_pos _)

theorem ref_more (a l : List UInt8) (i : Nat) (h : i % 6 < 5) : refS a l (i + 1) = refS a l i ∧ refN l (i + 1) = 2 * refN l i + bit l i := by
  have e1 : (i + 1) / 6 = i / 6 := by omega
  have e2 : (i + 1) % 6 = i % 6 + 1 := by omega
  have hb := bit_lt l i
  unfold refS refN
  rw [e1, e2, top, Nat.pow_succ]
  refine ⟨?_, ?_⟩
  · congr 1
    rw [Nat.mul_comm (2 ^ (i % 6)) 2, ← Nat.div_div_eq_div_mul]
    congr 1; omega
  · rw [Nat.mul_comm (2 ^ (i % 6)) 2, Nat.mod_mul]
    have h1 : (2 * top l i + bit l i) % 2 = bit l i := by omega
    have h2 : (2 * top l i + bit l i) / 2 = top l i := by omega
    rw [h1, h2]; omega

theorem ref_six (a l : List UInt8) (i : Nat) (h : i % 6 = 5) : refS a l (i + 1) = refS a l i ++ [lt a (2 * refN l i + bit l i)] ∧ refN l (i + 1) = 0 := by
  have e1 : (i + 1) / 6 = i / 6 + 1 := by omega
  have e2 : (i + 1) % 6 = 0 := by omega
  have hb := bit_lt l i
  unfold refS refN
  rw [e1, e2, top, h]
  refine ⟨?_, by simp [Nat.mod_one]⟩
  simp only [Nat.pow_zero, Nat.div_one, digs, Nat.reducePow]
  rw [show (2 * top l i + bit l i) / 64 = top l i / 32 from by omega, show (2 * top l i + bit l i) % 64 = 2 * (top l i % 32) + bit l i from by omega]

theorem ref_end_whole (a l : List UInt8) (h : 8 * l.length % 6 = 0) : refS a l (8 * l.length) = enc a l := by
  unfold refS enc size
  rw [top_all, h]
  have e1 : (8 * l.length + 5) / 6 = 8 * l.length / 6 := by omega
  rw [e1]
  have e2 : 6 * (8 * l.length / 6) - 8 * l.length = 0 := by omega
  rw [e2]; simp

theorem ref_end_part (a l : List UInt8) (h : 0 < 8 * l.length % 6) : refS a l (8 * l.length) ++ [lt a (refN l (8 * l.length) * 2 ^ (6 - 8 * l.length % 6))] = enc a l := by
  unfold refS refN enc size
  rw [top_all]
  have e1 : (8 * l.length + 5) / 6 = 8 * l.length / 6 + 1 := by omega
  have e2 : 6 * (8 * l.length / 6 + 1) - 8 * l.length = 6 - 8 * l.length % 6 := by omega
  rw [e1, e2]
  generalize hr : 8 * l.length % 6 = r at *
  have hr6 : r < 6 := by omega
  simp only [digs]
  have e64 : 2 ^ r * 2 ^ (6 - r) = 64 := by rw [← Nat.pow_add, show r + (6 - r) = 6 from by omega]
  have hp : 0 < 2 ^ (6 - r) := Nat.two_pow_pos _
  have d1 : val l * 2 ^ (6 - r) / 64 = val l / 2 ^ r := by rw [← e64, Nat.mul_div_mul_right _ _ hp]
  have d2 : val l * 2 ^ (6 - r) % 64 = val l % 2 ^ r * 2 ^ (6 - r) := by rw [← e64, Nat.mul_mod_mul_right]
  rw [d1, d2]
end Go.Proofs.Ytjkbiddebiioeaa.M
