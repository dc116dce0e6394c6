/-
  The closures of Sum256: the constants, and the four mixings.
-/
import Derived.Test.YtbhjigejpdbeiaaDoorZWw
set_option linter.unusedSimpArgs false
set_option linter.unusedVariables false
namespace Go.Proofs.YtbhjigejpdbeiaaDoor
open Go.RowKit
set_option linter.unusedVariables false
set_option maxRecDepth 8000

/-- The program's listed variables hold what they are laid. -/
structure Laid (w : World) : Prop where
  roots : w.rangeAt 0 0 (Sha.roots.map fun (n : Nat) => Value.int .u64 (n : Int))
  begins : w.rangeAt 1 0 (Sha.begins.map fun (n : Nat) => Value.int .u64 (n : Int))
  size : 4 < w.heap.size
theorem Laid.below {w w' : World} (h : Laid w) {B : Nat} (hb : Below B w w') (hB : 4 < B) : Laid w' :=
  ⟨range_below h.roots hb (by omega), range_below h.begins hb (by omega), Nat.lt_of_lt_of_le h.size hb.size⟩
/-- So do the reference's. -/
structure LaidR (w : World) : Prop extends Laid w where
  rroots : w.rangeAt 3 0 (Sha.roots.map fun (n : Nat) => Value.int .u64 (n : Int))
  rbegins : w.rangeAt 2 0 (Sha.begins.map fun (n : Nat) => Value.int .u64 (n : Int))
theorem LaidR.below {w w' : World} (h : LaidR w) {B : Nat} (hb : Below B w w') (hB : 4 < B) : LaidR w' :=
  ⟨h.toLaid.below hb hB, range_below h.rroots hb (by omega), range_below h.rbegins hb (by omega)⟩
theorem roots_at (i : Nat) (h : i < 80) : ∃ n : Nat, (Sha.roots.map fun (n : Nat) => Value.int .u64 (n : Int))[i]? = some (.int .u64 (n : Int)) ∧ ((n : Int) / 4294967296) % 4294967296 = wi (Sha.K i) := by
  refine ⟨Sha.roots.getD i 0, ?_, ?_⟩
  · rw [List.getElem?_map, List.getElem?_eq_getElem (by rw [Sha.roots_length]; exact h), List.getD_eq_getElem?_getD, List.getElem?_eq_getElem (by rw [Sha.roots_length]; exact h)]; rfl
  · rw [wi_def, Sha.K, BitVec.toNat_ofNat]
    simp
theorem k_f (w : World) (i : Nat) (hi : i < 80) (hL : Laid w) : Calls Tryd.prog 85 #[.int .i64 (i : Int)] w fun e w' => e = .returned (.int .u32 (wi (Sha.K i))) ∧ w' = w := by
  obtain ⟨n, h1, h2⟩ := roots_at i hi
  have hc : w.cell? ⟨0, i, none⟩ = some (.int .u64 (n : Int)) := by
    have := hL.roots i _ h1
    rwa [Nat.zero_add] at this
  clear hL h1
  go_enter Tryd.func85, Tryd.ntmps85
  go_wp2
  go_ret
  refine ⟨?_, rfl⟩
  rw [h2]
  rfl
theorem turns_big0 (x : W32) : turns x [2, 13, 22] = Sha.big0 x := by simp [turns, Sha.big0]
theorem turns_big1 (x : W32) : turns x [6, 11, 25] = Sha.big1 x := by simp [turns, Sha.big1]
theorem turns_small0 (x : W32) : turns x [7, 18] ^^^ (x >>> 3) = Sha.small0 x := by simp [turns, Sha.small0]
theorem turns_small1 (x : W32) : turns x [17, 19] ^^^ (x >>> 10) = Sha.small1 x := by simp [turns, Sha.small1]
/-- What a mixing's call gives. -/
def MixPost (y : W32) (w : World) (e : Ending) (w' : World) : Prop := e = .returned (.int .u32 (wi y)) ∧ Below w.heap.size w w'
theorem big0_f (w : World) (x : W32) : Calls Tryd.prog 86 #[.int .u32 (wi x)] w fun e w' => MixPost (Sha.big0 x) w e w' := by
  have HR := Lib.hid (range_new w (([2, 13, 22] : List Nat).map fun (n : Nat) => Value.int .i64 (n : Int)) 3)
  go_enter Tryd.func86, Tryd.ntmps86
  go_wp2_with fail
  refine (turned_f _ x [2, 13, 22] (by decide) w.heap.size 3 (by decide) HR.out).mono ?_
  rintro e w' ⟨rfl, rfl⟩
  go_wp2
  go_ret
  refine ⟨?_, (Below.refl _ _).alloc (Nat.le_refl _) _⟩
  rw [turns_big0]
  rfl
theorem big1_f (w : World) (x : W32) : Calls Tryd.prog 88 #[.int .u32 (wi x)] w fun e w' => MixPost (Sha.big1 x) w e w' := by
  have HR := Lib.hid (range_new w (([6, 11, 25] : List Nat).map fun (n : Nat) => Value.int .i64 (n : Int)) 3)
  go_enter Tryd.func88, Tryd.ntmps88
  go_wp2_with fail
  refine (turned_f _ x [6, 11, 25] (by decide) w.heap.size 3 (by decide) HR.out).mono ?_
  rintro e w' ⟨rfl, rfl⟩
  go_wp2
  go_ret
  refine ⟨?_, (Below.refl _ _).alloc (Nat.le_refl _) _⟩
  rw [turns_big1]
  rfl
theorem small0_f (w : World) (x : W32) : Calls Tryd.prog 89 #[.int .u32 (wi x)] w fun e w' => MixPost (Sha.small0 x) w e w' := by
  have HR := Lib.hid (range_new w (([7, 18] : List Nat).map fun (n : Nat) => Value.int .i64 (n : Int)) 3)
  have hs : wi x / (8 : Int) = wi (x >>> 3) := shr_w x 3
  go_enter Tryd.func89, Tryd.ntmps89
  go_wp2_with fail
  refine (turned_f _ x [7, 18] (by decide) w.heap.size 2 (by decide) HR.out).mono ?_
  rintro e w' ⟨rfl, rfl⟩
  go_wp2
  go_ret
  refine ⟨?_, (Below.refl _ _).alloc (Nat.le_refl _) _⟩
  rw [← turns_small0]
  rfl
theorem small1_f (w : World) (x : W32) : Calls Tryd.prog 90 #[.int .u32 (wi x)] w fun e w' => MixPost (Sha.small1 x) w e w' := by
  have HR := Lib.hid (range_new w (([17, 19] : List Nat).map fun (n : Nat) => Value.int .i64 (n : Int)) 3)
  have hs : wi x / (1024 : Int) = wi (x >>> 10) := shr_w x 10
  go_enter Tryd.func90, Tryd.ntmps90
  go_wp2_with fail
  refine (turned_f _ x [17, 19] (by decide) w.heap.size 2 (by decide) HR.out).mono ?_
  rintro e w' ⟨rfl, rfl⟩
  go_wp2
  go_ret
  refine ⟨?_, (Below.refl _ _).alloc (Nat.le_refl _) _⟩
  rw [← turns_small1]
  rfl
end Go.Proofs.YtbhjigejpdbeiaaDoor
