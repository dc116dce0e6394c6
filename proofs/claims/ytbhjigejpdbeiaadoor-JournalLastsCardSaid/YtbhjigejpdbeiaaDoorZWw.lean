/-
  Words of 32 bits: what Go's operations on them are. RotateLeft32.
-/
import Derived.Test.YtbhjigejpdbeiaaDoorZKRt
import Derived.Test.YtbhjigejpdbeiaaDoorZKDsk
import Derived.Laws.Bits64
set_option linter.unusedSimpArgs false
set_option linter.unusedVariables false
namespace Go.Proofs.YtbhjigejpdbeiaaDoor
open Go.RowKit
set_option linter.unusedVariables false
set_option maxRecDepth 8000

/-- A word as an integer. -/
@[irreducible] def wi (x : W32) : Int := (x.toNat : Int)
theorem wi_def (x : W32) : wi x = (x.toNat : Int) := by unfold wi; rfl
theorem wi_range (x : W32) : 0 ≤ wi x ∧ wi x < 4294967296 := by rw [wi_def]; have := x.isLt; omega
theorem ofInt_w32 (x : W32) : BitVec.ofInt 32 (wi x) = x := by
  rw [wi_def, BitVec.ofInt_natCast]; simp
theorem wrap_w32 (x : W32) : IntKind.u32.wrap (x.toNat : Int) = wi x := by
  have := x.isLt
  rw [wi_def]
  simp only [IntKind.wrap, IntKind.bits, IntKind.signed]
  simp
  omega
@[go_sem] theorem bits_xor_w (x y : W32) : bits .xor .u32 (wi x) (wi y) = wi (x ^^^ y) := by
  show IntKind.u32.wrap ((BitVec.ofInt 32 (wi x) ^^^ BitVec.ofInt 32 (wi y)).toNat : Int) = _
  rw [ofInt_w32, ofInt_w32, wrap_w32]
@[go_sem] theorem bits_and_w (x y : W32) : bits .and .u32 (wi x) (wi y) = wi (x &&& y) := by
  show IntKind.u32.wrap ((BitVec.ofInt 32 (wi x) &&& BitVec.ofInt 32 (wi y)).toNat : Int) = _
  rw [ofInt_w32, ofInt_w32, wrap_w32]
@[go_sem] theorem bits_or_w (x y : W32) : bits .or .u32 (wi x) (wi y) = wi (x ||| y) := by
  show IntKind.u32.wrap ((BitVec.ofInt 32 (wi x) ||| BitVec.ofInt 32 (wi y)).toNat : Int) = _
  rw [ofInt_w32, ofInt_w32, wrap_w32]
@[go_sem] theorem add_w (x y : W32) : (wi x + wi y) % 4294967296 = wi (x + y) := by
  rw [wi_def, wi_def, wi_def, BitVec.toNat_add]
  simp
@[go_sem] theorem wrap_add_w (x y : W32) : IntKind.u32.wrap (wi x + wi y) = wi (x + y) := by
  rw [← add_w]
  simp [IntKind.wrap, IntKind.bits, IntKind.signed]
@[go_sem] theorem bits_not_w (x : W32) : bits .xor .u32 4294967295 (wi x) = wi (~~~x) := by
  have h : (4294967295 : Int) = wi (4294967295#32) := by rw [wi_def]; rfl
  rw [h, bits_xor_w]
  have : (4294967295#32) = BitVec.allOnes 32 := rfl
  rw [this, BitVec.allOnes_xor]
@[go_sem] theorem bits_not_w' (x : W32) : bits .xor .u32 IntKind.u32.max (wi x) = wi (~~~x) := bits_not_w x
theorem shr_w (x : W32) (n : Nat) : wi x / 2 ^ n = wi (x >>> n) := by
  rw [wi_def, wi_def, BitVec.toNat_ushiftRight, Nat.shiftRight_eq_div_pow]
  simp
theorem shl_w (x : W32) (n : Nat) : wi x * 2 ^ n % 4294967296 = wi (x <<< n) := by
  rw [wi_def, wi_def, BitVec.toNat_shiftLeft, Nat.shiftLeft_eq]
  simp

theorem rot_amount (n : Nat) (h0 : 0 < n) (h1 : n < 32) : bits .and .u64 (IntKind.u64.wrap (-(n : Int))) 31 = ((32 - n : Nat) : Int) := by
  have : ∀ k : Fin 32, 0 < k.1 → bits .and .u64 (IntKind.u64.wrap (-(k.1 : Int))) 31 = ((32 - k.1 : Nat) : Int) := by decide
  exact this ⟨n, h1⟩ h0
theorem rotl_f (w : World) (x : W32) (n : Nat) (h0 : 0 < n) (h1 : n < 32) : Calls Tryd.prog 99 #[.int .u32 (wi x), .int .i64 (-(n : Int))] w fun e w' => e = .returned (.int .u32 (wi (Sha.rotr x n))) ∧ w' = w := by
  have ha := rot_amount n h0 h1
  have hx := wi_range x
  have h2 := shl_w x (32 - n)
  have h3 : wi x / 2 ^ (32 - (32 - n)) = wi (x >>> n) := by rw [← shr_w, show 32 - (32 - n) = n by omega]
  go_enter Tryd.func99, Tryd.ntmps99
  go_wp2
  go_ret
  refine ⟨?_, rfl⟩
  show Ending.returned (.int .u32 (wi (x <<< (32 - n) ||| x >>> n))) = _
  unfold Sha.rotr
  congr 3
  exact BitVec.or_comm _ _

def turns (x : W32) (ns : List Nat) : W32 := ns.foldl (fun a n => a ^^^ Sha.rotr x n) 0
theorem turns_take (x : W32) (ns : List Nat) (k : Nat) (h : k < ns.length) : turns x (ns.take (k + 1)) = turns x (ns.take k) ^^^ Sha.rotr x (ns[k]) := by
  rw [List.take_succ_eq_append_getElem h, turns, turns, List.foldl_append]
  rfl
attribute [local irreducible] Sha.rotr turns
theorem turned_f (w : World) (x : W32) (ns : List Nat) (hns : ∀ n ∈ ns, 0 < n ∧ n < 32) (b c : Nat) (hl : ns.length ≤ 1000000) (hr : w.rangeAt b 0 (ns.map fun (n : Nat) => Value.int .i64 (n : Int))) :
    Calls Tryd.prog 87 #[.int .u32 (wi x), .slice (some ⟨b, 0, none⟩) ns.length c] w fun e w' => e = .returned (.int .u32 (wi (turns x ns))) ∧ w' = w := by
  have HR := Lib.hid hr
  have HN := Lib.hid hns
  clear hr hns
  go_enter Tryd.func87, Tryd.ntmps87
  go_wp2
  go_loopw [5, 10] (fun o i wr => ∃ k : Nat, k ≤ ns.length ∧ i = .int .i64 k ∧ o = .int .u32 (wi (turns x (ns.take k))) ∧ wr = w) (fun _ i _ => ns.length - (intOf i).toNat)
  case atStart => exact ⟨0, by omega, rfl, by rw [wi_def]; unfold turns; rfl, rfl⟩
  case round =>
    obtain ⟨k, hk, rfl, rfl, rfl⟩ := hrel
    by_cases hkn : k < ns.length
    · have hcell : wr.cell? ⟨b, k, none⟩ = some (.int .i64 (ns[k] : Int)) := by
        have := HR.out k (.int .i64 (ns[k] : Int)) (by rw [List.getElem?_map, List.getElem?_eq_getElem hkn]; rfl)
        rwa [Nat.zero_add] at this
      have hn := HN.out _ (List.getElem_mem hkn)
      have ht := turns_take x ns k hkn
      generalize ns[k] = n at *
      obtain ⟨hn0, hn1⟩ := hn
      go_wp2_with fail
      refine (rotl_f _ x n hn0 hn1).mono ?_
      rintro e w' ⟨rfl, rfl⟩
      go_wp2
      go_roundw
      case rel => exact ⟨k + 1, by omega, by go_num, by rw [ht], trivial⟩
      case measure => simp [intOf]; omega
    · obtain rfl : k = ns.length := by omega
      go_wp2
      go_ret
      refine ⟨?_, by trivial⟩
      show Ending.returned (.int .u32 (wi (turns x (ns.take ns.length)))) = _
      rw [List.take_length]
end Go.Proofs.YtbhjigejpdbeiaaDoor
