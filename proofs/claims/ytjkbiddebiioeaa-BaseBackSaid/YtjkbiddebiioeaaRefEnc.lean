/-
  The reference's encode answers the letters of the bytes.
-/
import Derived.Test.YtjkbiddebiioeaaMem
import Derived.Test.YtjkbiddebiioeaaMath
import Derived.WalkSpells
import Derived.Laws.BitsLemmas
namespace Go.Proofs.Ytjkbiddebiioeaa
open Go.RowKit

theorem u8_and1 (x : Int) (h₀ : 0 ≤ x) (h₁ : x < 256) : bits .and .u8 x 1 = x % 2 := bits_mask .u8 8 (by decide) wraps_u8 1 (by decide) x h₀ h₁

theorem bit_eq (l : List UInt8) (k : Nat) (x : Int) (hx : x = ((l.getD (k / 8) 0).toNat : Int)) (hb : 0 ≤ x ∧ x < 256) : bits BinOp.and IntKind.u8 (x / 2 ^ (7 - k % 8)) 1 = (M.bit l k : Int) := by
  have h0 : 0 ≤ x / 2 ^ (7 - k % 8) := Int.ediv_nonneg hb.1 (Int.pow_nonneg (by decide))
  have h1 : x / 2 ^ (7 - k % 8) ≤ x := Int.ediv_le_self _ hb.1
  rw [u8_and1 _ h0 (by omega)]
  subst hx
  unfold M.bit
  simp [Int.natCast_ediv]

/-- One letter of the alphabet, as a text. -/
theorem letter (a : ByteArray) (ha : a.size = 64) (x : Nat) (hx : x < 64) : a.extract x (x + 1) = ⟨#[M.lt a.data.toList x]⟩ := by
  have hs : x < a.data.size := by have : a.data.size = 64 := ha; omega
  have hsz : a.data.size = 64 := ha
  apply ByteArray.ext
  apply Array.toList_inj.1
  rw [ByteArray.data_extract]
  apply List.ext_getElem?
  intro i
  simp only [Array.toList_extract, List.extract_eq_take_drop]
  cases i with
  | zero =>
    simp [M.lt]
    rw [Array.getElem?_eq_getElem hs]; rfl
  | succ i =>
    have h1 : x + 1 - x = 1 := by omega
    rw [h1]; simp; omega

theorem join (x y : List UInt8) : (⟨x.toArray⟩ : ByteArray) ++ ⟨y.toArray⟩ = ⟨(x ++ y).toArray⟩ := by
  apply ByteArray.ext
  simp [ByteArray.data_append]

set_option maxHeartbeats 400000 in
theorem refEnc_some (l : List UInt8) (n b o c : Nat) (a : ByteArray) (w : World) (hn : Hid (n = l.length)) (ha : a.size = 64) (hl : n ≤ 100000)
    (hc : Hid (∀ j, j < n → w.cell? ⟨b, o + j, none⟩ = some (.int .u8 (l.getD j 0).toNat))) :
    Calls Try.prog 23 #[.slice (some ⟨b, o, none⟩) n c, .string a] w fun e w' => e = .returned (.string ⟨(M.enc a.data.toList l).toArray⟩) ∧ w' = w := by
  have hA := Lib.hid ha
  have ha1 : 64 ≤ a.size := by omega
  have ha2 : a.size ≤ 64 := by omega
  clear ha
  go_enter Try.func23, Try.ntmps23
  go_wp2
  go_loop [5, 6, 7, 8] (fun s x y i => ∃ k : Nat, k ≤ 8 * n ∧ i = .int .i64 k ∧ y = .int .i64 (k % 6 : Nat) ∧ x = .int .i64 (M.refN l k) ∧ s = .string ⟨(M.refS a.data.toList l k).toArray⟩) (fun _ _ _ i => 8 * n - (intOf i).toNat)
  case atStart => exact ⟨0, Nat.zero_le _, rfl, rfl, rfl, rfl⟩
  case round =>
    obtain ⟨k, hk, rfl, rfl, rfl, rfl⟩ := hrel
    by_cases hlt : k < 8 * n
    · have hcell : w.cell? ⟨b, o + k / 8, none⟩ = some (.int .u8 (l.getD (k / 8) 0).toNat) := hc.out (k / 8) (by omega)
      have hu := (l.getD (k / 8) 0).toNat_lt
      have hbit := bit_eq l k _ rfl ⟨by omega, by omega⟩
      have hb1 := M.bit_lt l k
      have hr1 := M.refN_lt l k
      have h64 : (2 : Nat) ^ (k % 6) ≤ 32 := Nat.pow_le_pow_right (by omega) (show k % 6 ≤ 5 by omega)
      have hr2 : M.refN l k < 32 := by omega
      have hl3 : (M.refS a.data.toList l k).length ≤ 200000 := by unfold M.refS; rw [M.digs_length]; omega
      clear hr1 h64
      generalize hx : ((l.getD (k / 8) 0).toNat : Int) = x at *
      have hx0 : 0 ≤ x := by omega
      have hx1 : x < 256 := by omega
      clear hx hu
      by_cases h5 : k % 6 = 5
      · have hs := M.ref_six a.data.toList l k h5
        have HH := Lib.hid hs
        have ht : ((k : Int) % 6 + 1 == 6) = true := by simp; omega
        have e6 : (k + 1) % 6 = 0 := by omega
        have E6 := Lib.hid e6
        clear hs h5 e6
        go_wp2
        go_round
        case rel =>
          refine ⟨k + 1, by omega, by go_num, by rw [E6.out]; rfl, by rw [HH.out.2]; rfl, ?_⟩
          rw [letter a hA.out _ (by omega), HH.out.1, join _ [_]]
        case measure => simp [intOf]; omega
      · have hs := M.ref_more a.data.toList l k (by omega)
        have HH := Lib.hid hs
        have ht : ((k : Int) % 6 + 1 == 6) = false := by simp; omega
        have e6 : (k + 1) % 6 = k % 6 + 1 := by omega
        have E6 := Lib.hid e6
        clear hs e6
        go_wp2
        go_round
        case rel =>
          refine ⟨k + 1, by omega, by go_num, by rw [E6.out]; go_num, by rw [HH.out.2]; go_num, ?_⟩
          rw [HH.out.1]
        case measure => simp [intOf]; omega
    · have hk8 : k = 8 * n := by omega
      have HK := Lib.hid hk8
      have hr1 := M.refN_lt l k
      have h64 : (2 : Nat) ^ (k % 6) ≤ 32 := Nat.pow_le_pow_right (by omega) (show k % 6 ≤ 5 by omega)
      have hr2 : M.refN l k < 32 := by omega
      have hl3 : (M.refS a.data.toList l k).length ≤ 200000 := by unfold M.refS; rw [M.digs_length]; omega
      have HR := Lib.hid hr1
      clear hk8 h64 hr1
      by_cases hz : 0 < k % 6
      · go_wp2
        go_loop [6, 7] (fun x y => ∃ j : Nat, k % 6 + j ≤ 6 ∧ y = .int .i64 (k % 6 + j : Nat) ∧ x = .int .i64 (M.refN l k * 2 ^ j : Nat)) (fun _ y => 6 - (intOf y).toNat)
        case atStart => exact ⟨0, by omega, by simp, by simp⟩
        case round =>
          obtain ⟨j, hj, rfl, rfl⟩ := hrel
          have hb : M.refN l k * 2 ^ j < 2 ^ (k % 6 + j) := by rw [Nat.pow_add]; exact Nat.mul_lt_mul_of_pos_right HR.out (Nat.two_pow_pos _)
          have h64 : (2 : Nat) ^ (k % 6 + j) ≤ 64 := Nat.pow_le_pow_right (by omega) (show k % 6 + j ≤ 6 by omega)
          have hb2 : M.refN l k * 2 ^ j < 64 := by omega
          clear hb h64
          generalize hX : M.refN l k * 2 ^ j = X at *
          have HX := Lib.hid hX
          clear hX
          by_cases hlt6 : k % 6 + j < 6
          · go_wp2
            go_round
            case rel => exact ⟨j + 1, by omega, by go_num, by rw [Nat.pow_succ, ← Nat.mul_assoc, HX.out]; go_num⟩
            case measure => simp [intOf]; omega
          · go_wp2
            go_ret
            refine ⟨?_, rfl⟩
            have hj6 : j = 6 - 8 * l.length % 6 := by have := HK.out; have := hn.out; omega
            have e : k = 8 * l.length := by have := HK.out; have := hn.out; omega
            have hp := M.ref_end_part a.data.toList l (by rw [← e]; exact hz)
            rw [← e] at hp hj6
            rw [← hj6, HX.out] at hp
            rw [letter a hA.out _ (by omega), join _ [_], hp]
            rfl
      · go_wp2
        go_ret
        refine ⟨?_, rfl⟩
        have e : k = 8 * l.length := by have := HK.out; have := hn.out; omega
        have hp := M.ref_end_whole a.data.toList l (by rw [← e]; omega)
        rw [← e] at hp
        rw [hp]
        rfl
theorem refEnc_none (A : Option Addr) (c : Nat) (a : ByteArray) (w : World) :
    Calls Try.prog 23 #[.slice A 0 c, .string a] w fun e w' => e = .returned (.string ⟨#[]⟩) ∧ w' = w := by
  go_enter Try.func23, Try.ntmps23
  go_wp2
  go_loop [5, 6, 7, 8] (fun s x y i => i = .int .i64 0 ∧ y = .int .i64 0 ∧ s = .string ⟨#[]⟩) (fun _ _ _ _ => 0)
  case atStart => exact ⟨rfl, rfl, rfl⟩
  case round =>
    obtain ⟨rfl, rfl, rfl⟩ := hrel
    go_wp2
    go_ret
    exact ⟨rfl, rfl⟩

/-- The reference's encode answers the letters of the bytes; nothing turns. -/
theorem refEnc (l : List UInt8) (v : Value) (B : Nat) (a : ByteArray) (w : World) (hv : Bytes w B v l) (ha : a.size = 64) (hl : l.length ≤ 100000) :
    Calls Try.prog 23 #[v, .string a] w fun e w' => e = .returned (.string ⟨(M.enc a.data.toList l).toArray⟩) ∧ w = w' := by
  obtain ⟨A, c, rfl, h1, h2, h3, h4⟩ := hv
  by_cases h0 : l.length = 0
  · obtain rfl := List.eq_nil_of_length_eq_zero h0
    exact (refEnc_none A c a w).mono fun e w' ⟨h, k⟩ => ⟨h, k.symm⟩
  · cases A with
    | none => exact absurd (h3 rfl) (by omega)
    | some x =>
      obtain ⟨hs, hb, hc⟩ := h4 x rfl (by omega)
      obtain ⟨b, o, sp⟩ := x
      obtain rfl : sp = none := hs
      refine (refEnc_some l l.length b o c a w rfl ha hl ?_).mono fun e w' ⟨h, k⟩ => ⟨h, k.symm⟩
      intro j hj
      rw [hc j (l.getD j 0) (by simp [hj])]
end Go.Proofs.Ytjkbiddebiioeaa
