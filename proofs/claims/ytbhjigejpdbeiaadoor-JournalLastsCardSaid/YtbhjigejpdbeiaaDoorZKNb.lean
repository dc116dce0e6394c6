import Derived.Test.YtbhjigejpdbeiaaDoorZKDsk
import Derived.Test.YtbhjigejpdbeiaaDoorZSm
import Derived.Laws.IdiomCopy
import Derived.StillTailTactics
import Derived.BigRegion
import Derived.RangeFuncNested
import Derived.RangeFuncBound
import Derived.RangeFuncCalls
import Derived.RangeFuncLeaves
import Derived.Shelf.Abstract
import Derived.Shelf.RegionOpen
import Derived.WalkKit
import Derived.OwnWalkIn
import Derived.TacticsInMore
import Derived.LoopNIn
import Derived.LoopIn
import Derived.Test.YtbhjigejpdbeiaaDoorZFn
import Derived.Test.YtbhjigejpdbeiaaDoorZRd
set_option linter.unusedSimpArgs false
set_option linter.unusedVariables false

section
/-
  number: the bytes of a number are stored.
-/
namespace Go.Proofs.YtbhjigejpdbeiaaDoor
open Go.RowKit Go.Shelf
set_option linter.unusedVariables false
set_option maxRecDepth 8000

theorem setCells_snoc (b : Nat) (v : Value) : ∀ (xs : List Value) (o : Nat) (w : World), w.setCells b o (xs ++ [v]) = (w.setCells b o xs).setCell ⟨b, o + xs.length, none⟩ v
  | [], o, w => rfl
  | x :: r, o, w => by
    rw [List.cons_append, World.setCells, World.setCells, setCells_snoc b v r (o + 1), List.length_cons, show o + 1 + r.length = o + (r.length + 1) by omega]
theorem leB_succ (n : Int) (k : Nat) : leB n (k + 1) = leB n k ++ [UInt8.ofNat (n / 2 ^ (8 * k) % 256).toNat] := by
  simp [leB, List.range_succ]
theorem leB_val (n : Int) (k : Nat) : n / 2 ^ (8 * k) % 256 = ((UInt8.ofNat (n / 2 ^ (8 * k) % 256).toNat).toNat : Int) := by
  have h1 := Int.emod_nonneg (n / 2 ^ (8 * k)) (show (256 : Int) ≠ 0 by decide)
  have h2 := Int.emod_lt_of_pos (n / 2 ^ (8 * k)) (show (0 : Int) < 256 by decide)
  generalize n / 2 ^ (8 * k) % 256 = x at *
  rw [UInt8.toNat_ofNat']
  omega
set_option maxHeartbeats 400000 in
theorem number_f (w : World) (b o k c : Nat) (n : Int) (hk : k ≤ 8) (hkc : k ≤ c) (ht : w.there b o k) :
    Calls Tryd.prog 61 #[.slice (some ⟨b, o, none⟩) k c, .int .i64 n] w fun e w' => e = .returned (.tuple #[]) ∧ w' = w.setCells b o (Lib.byteCells (leB n k)) := by
  have HT := Lib.hid ht
  clear ht
  go_enter Tryd.func61, Tryd.ntmps61
  go_wp2
  go_loopw [7] (fun i wr => ∃ j : Nat, j ≤ k ∧ i = .int .i64 j ∧ Hid (wr = w.setCells b o (Lib.byteCells (leB n j)))) (fun i _ => k - (intOf i).toNat)
  case atStart => exact ⟨0, by omega, rfl, Lib.hid rfl⟩
  case round =>
    obtain ⟨j, hj, rfl, HW⟩ := hrel
    by_cases hjk : j < k
    · have hth : wr.there b o k := by rw [HW.out]; exact World.there_setCells HT.out b o _
      obtain ⟨q1, q2⟩ := hth j hjk
      obtain ⟨u, hu⟩ := Option.isSome_iff_exists.1 q1
      have hv := leB_val n j
      have hs := leB_succ n j
      have HS := Lib.hid hs
      have HV := Lib.hid hv
      have hd : decide ((j : Int) < (k : Int)) = true := by simp; omega
      clear hth q1 hs hv
      have h8 : (j : Int) ≤ 7 := by omega
      go_wp2
      go_roundw
      case rel =>
        refine ⟨j + 1, by omega, by go_num, Lib.hid ?_⟩
        rw [HS.out, bytes_app, HW.out, show ∀ x : UInt8, Lib.byteCells [x] = [.int .u8 x.toNat] from fun _ => rfl, setCells_snoc, Lib.byteCells_length, leB_length]
        congr 2
      case measure => simp [intOf]; omega
    · obtain rfl : j = k := by omega
      go_wp2
      go_end0
      exact ⟨rfl, HW.out⟩
end Go.Proofs.YtbhjigejpdbeiaaDoor
end

section
/-
  seal: a part's sector.
-/
namespace Go.Proofs.YtbhjigejpdbeiaaDoor
open Go.RowKit Go.Shelf
set_option linter.unusedVariables false
set_option maxRecDepth 8000

/-- A part's value. -/
def PartAt (w : World) (v : Value) (p : Part) : Prop :=
  ∃ A n c, v = .agg #[.int .i64 p.gen, .int .i64 p.index, .int .u8 p.marks.toNat, .slice A n c] ∧ n = p.data.length ∧ RowOf w 1 A n c (Lib.byteCells p.data)
theorem PartAt.kept {w w' : World} {B : Nat} {v : Value} {p : Part} (h : PartAt w v p) (hb : Below B w w') (hB : w.heap.size ≤ B) : PartAt w' v p := by
  obtain ⟨A, n, c, h1, h2, h3⟩ := h
  exact ⟨A, n, c, h1, h2, h3.kept hb hB⟩

/-! ### A sector that is laid, byte by byte -/
structure SecAt (W0 : World) (b : Nat) (X : List UInt8) (W : World) : Prop where
  range : W.rangeAt b 0 (Lib.byteCells X)
  there : W.there b 0 128
  grown : W0.grownBy W (some b)
  len : X.length = 128
theorem SecAt.lt {W0 W : World} {b : Nat} {X : List UInt8} (h : SecAt W0 b X W) : b < W.heap.size := range_lt h.range (by rw [Lib.byteCells_length, h.len]; omega)
theorem SecAt.below {W0 W W' : World} {b : Nat} {X : List UInt8} (h : SecAt W0 b X W) (hb : Below W.heap.size W W') : SecAt W0 b X W' :=
  ⟨range_below h.range hb h.lt, there_below h.there hb h.lt, ⟨hb.os.trans h.grown.os, hb.tape.trans h.grown.tape, hb.output.trans h.grown.output, Nat.le_trans h.grown.size hb.size,
    fun k hk hne => (hb.block k (Nat.lt_of_lt_of_le hk h.grown.size)).trans (h.grown.block k hk hne)⟩, h.len⟩
theorem SecAt.drew {W0 W : World} {b : Nat} {X : List UInt8} (h : SecAt W0 b X W) : SecAt W0 b X W.drew := h.below (Below.refl _ _).drew
theorem grown_setCells {W0 : World} {b : Nat} : ∀ (vs : List Value) (o : Nat) (W : World), W0.grownBy W (some b) → W0.grownBy (W.setCells b o vs) (some b)
  | [], _, _, h => h
  | v :: r, o, W, h => by rw [World.setCells]; exact grown_setCells r (o + 1) _ (grown_set h o v)
theorem SecAt.app {W0 W : World} {b z : Nat} {pre : List UInt8} (h : SecAt W0 b (pre ++ List.replicate z 0) W) (vs : List UInt8) (hv : vs.length ≤ z) :
    SecAt W0 b (pre ++ vs ++ List.replicate (z - vs.length) 0) (W.setCells b pre.length (Lib.byteCells vs)) := by
  have hl := h.len
  rw [List.length_append, List.length_replicate] at hl
  have k := range_setCells h.range pre.length (Lib.byteCells vs) (by rw [Lib.byteCells_length, Lib.byteCells_length, List.length_append, List.length_replicate]; omega)
  refine ⟨?_, World.there_setCells h.there _ _ _, grown_setCells _ _ _ h.grown, by simp; omega⟩
  rw [Nat.zero_add, Lib.byteCells_length] at k
  have e : (Lib.byteCells (pre ++ List.replicate z 0)).take pre.length ++ Lib.byteCells vs ++ (Lib.byteCells (pre ++ List.replicate z 0)).drop (pre.length + vs.length) = Lib.byteCells (pre ++ vs ++ List.replicate (z - vs.length) 0) := by
    simp only [Lib.byteCells, ← List.map_take, ← List.map_drop, ← List.map_append]
    congr 1
    rw [List.take_left, List.drop_append, List.drop_eq_nil_of_le (by omega), List.nil_append, Nat.add_sub_cancel_left, List.drop_replicate]
  rw [e] at k
  exact k
theorem copy_bytes (w : World) (b o dLen dCap : Nat) (A : Option Addr) (n c : Nat) (X : List UInt8) (hX : RowOf w 1 A n c (Lib.byteCells X)) (hn : n = X.length) (hle : n ≤ dLen) (ht : w.there b o n) (ty : TypeId) :
    (Builtin.copy_ #[28, 28] ty #[.slice (some ⟨b, o, none⟩) dLen dCap, .slice A n c]).run Tryd.prog w = .ok (goInt n) (w.setCells b o (Lib.byteCells X)) := by
  have hs1 : (Tryd.prog.info? 5).map (·.size) = some 1 := by kernel_rfl
  by_cases h0 : n = 0
  · subst h0
    have : X = [] := List.eq_nil_of_length_eq_zero hn.symm
    subst this
    exact run_copy_none w 28 28 ty 5 _ A dLen dCap 0 c Tryd.underlying28 hs1 (by simp)
  · obtain ⟨h1, h2, h3, h4, h5⟩ := hX
    cases A with
    | none => have := h4 rfl; omega
    | some ad =>
      obtain ⟨k1, k2, k3⟩ := h5 ad rfl (by omega)
      obtain ⟨g, og, sp⟩ := ad
      obtain rfl : sp = none := k1
      have := run_copy_cells (P := Tryd.prog) w 28 28 ty 5 b o dLen dCap ⟨g, og, none⟩ n c (Lib.byteCells X) Tryd.underlying28 hs1 (by rw [Lib.byteCells_length, ← hn]; exact (Nat.min_eq_left hle).symm)
        (fun j v hv => by rw [add_none]; exact k3 j v hv) (fun j hj => (ht j (by rw [hn]; simpa [Lib.byteCells_length] using hj)).1) (fun j hj => (ht j (by rw [hn]; simpa [Lib.byteCells_length] using hj)).2) (bytes_one X)
      rw [Lib.byteCells_length, ← hn] at this
      exact this

theorem copy_bytes_min (w : World) (b o dLen dCap g og n c : Nat) (X : List UInt8) (hX : w.rangeAt g og (Lib.byteCells X)) (hn : X.length = dLen) (hle : dLen ≤ n) (ht : w.there b o dLen) (ty : TypeId) :
    (Builtin.copy_ #[28, 28] ty #[.slice (some ⟨b, o, none⟩) dLen dCap, .slice (some ⟨g, og, none⟩) n c]).run Tryd.prog w = .ok (goInt dLen) (w.setCells b o (Lib.byteCells X)) := by
  have hs1 : (Tryd.prog.info? 5).map (·.size) = some 1 := by kernel_rfl
  have := run_copy_cells (P := Tryd.prog) w 28 28 ty 5 b o dLen dCap ⟨g, og, none⟩ n c (Lib.byteCells X) Tryd.underlying28 hs1 (by rw [Lib.byteCells_length, hn]; exact (Nat.min_eq_right hle).symm)
    (fun j v hv => by rw [add_none]; exact hX j v hv) (fun j hj => (ht j (by simpa [Lib.byteCells_length, hn] using hj)).1) (fun j hj => (ht j (by simpa [Lib.byteCells_length, hn] using hj)).2) (bytes_one X)
  rw [Lib.byteCells_length, hn] at this
  exact this
theorem range_pre {w : World} {b o : Nat} {X Y : List UInt8} (h : w.rangeAt b o (Lib.byteCells (X ++ Y))) : w.rangeAt b o (Lib.byteCells X) := fun j v hv => h j v (by
  rw [bytes_app, List.getElem?_append_left (List.getElem?_eq_some_iff.1 hv).1]; exact hv)
theorem range_take {w : World} {b o : Nat} {X : List UInt8} (k : Nat) (h : w.rangeAt b o (Lib.byteCells X)) : w.rangeAt b o (Lib.byteCells (X.take k)) := by
  rw [← List.take_append_drop k X] at h
  exact range_pre h
theorem zero32 : (Lib.byteCells (List.replicate 32 0)).toArray = #[.int .u8 0, .int .u8 0, .int .u8 0, .int .u8 0, .int .u8 0, .int .u8 0, .int .u8 0, .int .u8 0, .int .u8 0, .int .u8 0, .int .u8 0, .int .u8 0, .int .u8 0, .int .u8 0, .int .u8 0, .int .u8 0, .int .u8 0, .int .u8 0, .int .u8 0, .int .u8 0, .int .u8 0, .int .u8 0, .int .u8 0, .int .u8 0, .int .u8 0, .int .u8 0, .int .u8 0, .int .u8 0, .int .u8 0, .int .u8 0, .int .u8 0, .int .u8 0] := by
  simp [Lib.byteCells, List.replicate]
set_option maxHeartbeats 1000000 in
theorem sec_f (w : World) (v : Value) (p : Part) (h : PartAt w v p) (hp : p.data.length ≤ 100) (hL : Laid w) :
    Calls Tryd.prog 53 #[v] w fun e w' => e = .returned (secV p.sec) ∧ Below w.heap.size w w' := by
  obtain ⟨A, n, c, rfl, hn, hr⟩ := h
  have HN := Lib.hid hn
  have HR := Lib.hid hr
  have HL := Lib.hid hL
  clear hn hr hL
  obtain ⟨w3, hw3⟩ : ∃ w3, w3 = ((w.alloc (Obj.cells #[.int .i64 p.gen, .int .i64 p.index, .int .u8 p.marks.toNat, .slice A n c] 100)).alloc (Obj.cells (secC zeroSec).toArray 81)).alloc (Obj.cells (secC zeroSec).toArray 81) := ⟨_, rfl⟩
  obtain ⟨b, hb⟩ : ∃ b, b = w.heap.size + 1 + 1 := ⟨_, rfl⟩
  have HB3 := Lib.hid (show Below w.heap.size w w3 by rw [hw3]; exact ((below_two _ _ _).alloc (by simp; omega) _))
  have HS3 := Lib.hid (show w3.heap.size = w.heap.size + 3 by rw [hw3]; simp)
  have S0 := Lib.hid (show SecAt w3 b ([] ++ List.replicate 128 0) w3 by
    have h1 := range_new ((w.alloc (Obj.cells #[.int .i64 p.gen, .int .i64 p.index, .int .u8 p.marks.toNat, .slice A n c] 100)).alloc (Obj.cells (secC zeroSec).toArray 81)) (secC zeroSec) 81
    have h2 := there_new ((w.alloc (Obj.cells #[.int .i64 p.gen, .int .i64 p.index, .int .u8 p.marks.toNat, .slice A n c] 100)).alloc (Obj.cells (secC zeroSec).toArray 81)) (secC zeroSec) 81
    rw [size_alloc, size_alloc] at h1 h2
    rw [secC_length] at h2
    rw [← hw3, ← hb] at h1 h2
    exact ⟨h1, h2, World.grownBy.refl _ _, by simp⟩)
  have HT2 := Lib.hid (show w3.there (w.heap.size + 1) 0 128 by
    have h2 := there_new (w.alloc (Obj.cells #[.int .i64 p.gen, .int .i64 p.index, .int .u8 p.marks.toNat, .slice A n c] 100)) (secC zeroSec) 81
    rw [size_alloc, secC_length] at h2
    rw [hw3]
    exact there_below h2 ((Below.refl _ _).alloc (Nat.le_refl _) _) (by simp))
  have HP := Lib.hid (show ∀ W, w3.grownBy W (some b) → W.cell? ⟨w.heap.size, 0, none⟩ = some (.int .i64 p.gen) ∧ W.cell? ⟨w.heap.size, 1, none⟩ = some (.int .i64 p.index) ∧ W.cell? ⟨w.heap.size, 2, none⟩ = some (.int .u8 p.marks.toNat) ∧ W.cell? ⟨w.heap.size, 3, none⟩ = some (.slice A n c) from fun W hW => by
    have hk : ∀ j u, (#[.int .i64 p.gen, .int .i64 p.index, .int .u8 p.marks.toNat, .slice A n c] : Array Value)[j]? = some u → W.cell? ⟨w.heap.size, j, none⟩ = some u := fun j u hu => by
      refine (World.cell?_of_block (a := ⟨w.heap.size, j, none⟩) (hW.block w.heap.size (by have := HS3.out; omega) (by rw [hb]; simp; omega))).trans ?_
      have hk2 : Below (w.heap.size + 1) (w.alloc (Obj.cells #[.int .i64 p.gen, .int .i64 p.index, .int .u8 p.marks.toNat, .slice A n c] 100)) w3 := by
        rw [hw3]; exact ((Below.refl _ _).alloc (by simp) _).alloc (by simp) _
      refine (hk2.cell (p := ⟨w.heap.size, j, none⟩) (by show w.heap.size < _; omega)).trans ?_
      rw [cell_of_new]; exact hu
    exact ⟨hk 0 _ rfl, hk 1 _ rfl, hk 2 _ rfl, hk 3 _ rfl⟩)
  have HBD := Lib.hid hb
  go_enter Tryd.func53, Tryd.ntmps53
  go_wp2_with fail
  rw [← hw3, ← hb]
  clear hw3 hb
  obtain ⟨p0, p1, p2, p3⟩ := HP.out w3 S0.out.grown
  go_still_tail 3, (by kernel_rfl)
  change wpList _ _ _ _ _ w3.drew
  go_wp2_with fail
  refine (number_f w3.drew b 0 8 128 p.gen (by omega) (by omega) (fun j hj => S0.out.drew.there j (by omega))).mono ?_
  rintro e W1 ⟨rfl, hW1⟩
  have S1 := Lib.hid (show SecAt w3 b (leB p.gen 8 ++ List.replicate 120 0) W1 by
    have := S0.out.drew.app (leB p.gen 8) (by rw [leB_length]; omega)
    rw [leB_length] at this
    rw [hW1]; exact this)
  clear hW1 p0 p1 p2 p3
  obtain ⟨p0, p1, p2, p3⟩ := HP.out W1 S1.out.grown
  go_wp2_with fail
  go_still_tail 3, (by kernel_rfl)
  change wpList _ _ _ _ _ W1.drew
  go_wp2_with fail
  refine (number_f W1.drew b 8 4 120 p.index (by omega) (by omega) (fun j hj => by rw [show 8 + j = 0 + (8 + j) by omega]; exact S1.out.drew.there (8 + j) (by omega))).mono ?_
  rintro e W2 ⟨rfl, hW2⟩
  have S2 := Lib.hid (show SecAt w3 b (leB p.gen 8 ++ leB p.index 4 ++ List.replicate 116 0) W2 by
    have := S1.out.drew.app (leB p.index 4) (by rw [leB_length]; omega)
    rw [leB_length, leB_length] at this
    rw [hW2]; exact this)
  clear hW2 p0 p1 p2 p3
  obtain ⟨p0, p1, p2, p3⟩ := HP.out W2 S2.out.grown
  have hc12 : ∃ u, W2.cell? ⟨b, 12, none⟩ = some u := by have := (S2.out.there 12 (by omega)).1; rw [Nat.zero_add] at this; exact Option.isSome_iff_exists.1 this
  have hf12 : W2.frozen? ⟨b, 12, none⟩ = false := by have := (S2.out.there 12 (by omega)).2; rwa [Nat.zero_add] at this
  have hc13 : ∃ u, W2.cell? ⟨b, 13, none⟩ = some u := by have := (S2.out.there 13 (by omega)).1; rw [Nat.zero_add] at this; exact Option.isSome_iff_exists.1 this
  have hf13 : W2.frozen? ⟨b, 13, none⟩ = false := by have := (S2.out.there 13 (by omega)).2; rwa [Nat.zero_add] at this
  obtain ⟨u12, hc12⟩ := hc12
  obtain ⟨u13, hc13⟩ := hc13
  have hn0 : (0 : Int) ≤ n := by omega
  have hn1 : (n : Int) ≤ 100 := by have := HN.out; omega
  go_wp2_with fail
  go_region
  have HBW := Lib.hid (show ∀ W, w3.grownBy W (some b) → Below w.heap.size w W from fun W hW => HB3.out.grown hW (by have := HS3.out; omega) (fun q e => by injection e with e; have := HBD.out; omega))
  have S3 := Lib.hid (show SecAt w3 b (leB p.gen 8 ++ leB p.index 4 ++ [UInt8.ofNat n, p.marks] ++ List.replicate 114 0) ((W2.setCell ⟨b, 12, none⟩ (.int .u8 (n : Int))).setCell ⟨b, 13, none⟩ (.int .u8 p.marks.toNat)).drew by
    have := (S2.out.app [UInt8.ofNat n, p.marks] (by simp)).drew
    rw [List.length_append, leB_length, leB_length] at this
    have e : ((UInt8.ofNat n).toNat : Int) = n := by rw [UInt8.toNat_ofNat']; omega
    have e2 : W2.setCells b 12 (Lib.byteCells [UInt8.ofNat n, p.marks]) = (W2.setCell ⟨b, 12, none⟩ (.int .u8 (n : Int))).setCell ⟨b, 13, none⟩ (.int .u8 p.marks.toNat) := by
      rw [← e]; rfl
    rw [← e2]
    exact this)
  clear p0 p1 p2 p3 hc12 hc13 hf12 hf13
  obtain ⟨W3, hW3⟩ : ∃ W3, W3 = ((W2.setCell ⟨b, 12, none⟩ (.int .u8 (n : Int))).setCell ⟨b, 13, none⟩ (.int .u8 p.marks.toNat)).drew := ⟨_, rfl⟩
  rw [← hW3] at S3 ⊢
  clear hW3
  obtain ⟨p0, p1, p2, p3⟩ := HP.out W3 S3.out.grown
  have HCPY := Lib.hid (copy_bytes W3.drew b 14 114 114 A n c p.data (HR.out.kept (HBW.out _ S3.out.drew.grown) (Nat.le_refl _)) HN.out (by omega) (fun j hj => by rw [show 14 + j = 0 + (14 + j) by omega]; exact S3.out.drew.there (14 + j) (by omega)))
  go_wp2_with fail
  go_still_tail 3, (by kernel_rfl)
  change wpList _ _ _ _ _ W3.drew
  refine wpList_copy_part W3.drew rfl (.tmp 21) (.tmp 23) 28 28 rfl _ _ rfl rfl (HCPY.out _) ?_
  have S4 := Lib.hid (show SecAt w3 b (p.body ++ List.replicate 8 0) (W3.drew.setCells b 14 (Lib.byteCells p.data)) by
    have := S3.out.drew.app p.data (by omega)
    simp only [List.length_append, leB_length, List.length_cons, List.length_nil] at this
    have e : p.body ++ List.replicate 8 0 = leB p.gen 8 ++ leB p.index 4 ++ [UInt8.ofNat n, p.marks] ++ p.data ++ List.replicate (114 - p.data.length) 0 := by
      rw [p.body_eq (by omega), HN.out, List.append_assoc, List.replicate_append_replicate, show 106 - p.data.length + 8 = 114 - p.data.length by omega]
    rw [e]
    exact this)
  obtain ⟨W4, hW4⟩ : ∃ W4, W4 = W3.drew.setCells b 14 (Lib.byteCells p.data) := ⟨_, rfl⟩
  rw [← hW4] at S4 ⊢
  clear hW4 p0 p1 p2 p3 HCPY
  have hb128 : b < W4.heap.size := S4.out.lt
  have HBP := Lib.hid (cell_of_new W4 #[.slice (some ⟨b, 0, none⟩) 120 128] 28 0)
  have HB5 := Lib.hid (show Below W4.heap.size W4 (W4.alloc (.cells #[.slice (some ⟨b, 0, none⟩) 120 128] 28)) from (Below.refl _ _).alloc (Nat.le_refl _) _)
  have S5 := Lib.hid (S4.out.below HB5.out)
  have HL5 := Lib.hid (HL.out.below (HBW.out _ S5.out.grown) HL.out.size)
  go_wp2_with fail
  refine (sum256_f _ W4.heap.size 128 (some ⟨b, 0, none⟩) p.body p.body_length ⟨by rw [Lib.byteCells_length, p.body_length], by omega, by omega, (fun h => by cases h), fun x hx _ => by injection hx with hx; subst hx; exact ⟨rfl, S5.out.lt, range_pre S5.out.range⟩⟩ HBP.out HL5.out).mono ?_
  rintro e W6 ⟨rfl, hb6⟩
  have S6 := Lib.hid (S5.out.below hb6)
  clear hb6
  have HT6 := Lib.hid (there_new W6 (Lib.byteCells (List.replicate 32 0)) 129)
  have hst := store_b32 (w := W6.alloc (.cells (Lib.byteCells (List.replicate 32 0)).toArray 129)) (b := W6.heap.size) (o := 0) (Sha.sum_length p.body) (by have := HT6.out; rwa [Lib.byteCells_length, List.length_replicate] at this)
  obtain ⟨W7, hW7⟩ : ∃ W7, W7 = (W6.alloc (.cells (Lib.byteCells (List.replicate 32 0)).toArray 129)).setCells W6.heap.size 0 (Lib.byteCells (Sha.sum p.body)) := ⟨_, rfl⟩
  rw [← hW7] at hst
  have HB7 := Lib.hid (show Below W6.heap.size W6 W7 by rw [hW7]; exact below_setCells _ (Nat.le_refl _) _ _ _ ((Below.refl _ _).alloc (Nat.le_refl _) _))
  have HG7 := Lib.hid (show W7.rangeAt W6.heap.size 0 (Lib.byteCells (Sha.sum p.body)) by
    rw [hW7]; exact World.rangeAt_setCells_same _ _ _ _ (by have := HT6.out; rw [Lib.byteCells_length, List.length_replicate] at this; rw [Lib.byteCells_length, Sha.sum_length]; exact this))
  rw [zero32] at hst
  clear hW7
  have S7 := Lib.hid (S6.out.below HB7.out)
  go_wp2_with fail
  clear hst
  have HCPY := Lib.hid (copy_bytes_min W7.drew b 120 8 8 W6.heap.size 0 32 32 ((Sha.sum p.body).take 8) (range_take 8 HG7.out) (by rw [List.length_take, Sha.sum_length]; rfl) (by omega) (fun j hj => by rw [show 120 + j = 0 + (120 + j) by omega]; exact S7.out.drew.there (120 + j) (by omega)))
  go_still_tail 2, (by kernel_rfl)
  change wpList _ _ _ _ _ W7.drew
  refine wpList_copy_part W7.drew rfl (.tmp 28) (.tmp 29) 28 28 rfl _ _ rfl rfl (HCPY.out _) ?_
  have S8 := Lib.hid (show SecAt w3 b p.sec.1 (W7.drew.setCells b 120 (Lib.byteCells ((Sha.sum p.body).take 8))) by
    have := S7.out.drew.app ((Sha.sum p.body).take 8) (by rw [List.length_take, Sha.sum_length]; omega)
    rw [List.length_take, Sha.sum_length, p.body_length] at this
    have e : p.body ++ (Sha.sum p.body).take 8 ++ List.replicate (8 - min 8 32) 0 = p.sec.1 := by simp [Part.sec]
    rw [e] at this
    exact this)
  obtain ⟨W8, hW8⟩ : ∃ W8, W8 = W7.drew.setCells b 120 (Lib.byteCells ((Sha.sum p.body).take 8)) := ⟨_, rfl⟩
  rw [← hW8] at S8 ⊢
  clear hW8 HCPY
  have hld := load_secVar (show W8.rangeAt b 0 (secC p.sec) from S8.out.range)
  have HTZ := Lib.hid (show W8.there (w.heap.size + 1) 0 128 from there_keepb HT2.out (S8.out.grown.block (w.heap.size + 1) (by have := HS3.out; omega) (by have := HBD.out; simp; omega)))
  have hst := store_sec HTZ.out p.sec
  have HFIN := Lib.hid (load_put HTZ.out p.sec)
  have HB8 := Lib.hid (HBW.out _ S8.out.grown)
  go_wp2_with fail
  refine bodyPost_ret (ret_cell rfl rfl (secVar_run HFIN.out)) rfl ?_
  exact ⟨rfl, below_putSec HB8.out (by omega) _ _⟩
end Go.Proofs.YtbhjigejpdbeiaaDoor
end

section
/-
  slices.Backward over bytes: what its loop's body is handed.
-/
namespace Go.Proofs.YtbhjigejpdbeiaaDoor
open Go.RowKit Go.Shelf
set_option linter.unusedVariables false
attribute [local go_sem] Oper.semAt_some

/-- What has come when k rounds are over. -/
def bback (l : List UInt8) (k : Nat) : List (Nat × UInt8) := (List.range k).map fun j => (l.length - 1 - j, l[l.length - 1 - j]?.getD 0)
theorem bback_succ (l : List UInt8) (k : Nat) : bback l (k + 1) = bback l k ++ [(l.length - 1 - k, l[l.length - 1 - k]?.getD 0)] := by simp [bback, List.range_succ]
theorem bback_length (l : List UInt8) (k : Nat) : (bback l k).length = k := by simp [bback]

/-- What lies below, and the iterator's box, are as they were. -/
def KB (n₀ Bs : Nat) (W W' : World) : Prop := Below n₀ W W' ∧ W'.cell? ⟨Bs, 0, none⟩ = W.cell? ⟨Bs, 0, none⟩
theorem kb_t {n₀ Bs : Nat} {A B C : World} (h : KB n₀ Bs A B) (k : KB n₀ Bs B C) : KB n₀ Bs A C := ⟨h.1.trans k.1, k.2.trans h.2⟩
theorem kb_b {n₀ Bs : Nat} {w : World} (hn : n₀ ≤ w.heap.size) (hs : Bs < w.heap.size) (W : World) (l : Nat) (o o' : Obj) (hl : w.heap.size ≤ l) (h : W.heap[l]? = some o) (_ : o.isCells = false) (_ : o.isWalk = false) : KB n₀ Bs W (W.putObj l o') := by
  have hb : Below w.heap.size W (W.putObj l o') := (Below.refl _ W).grown (grownBy_putObj' W l o') (by have := (Array.getElem?_eq_some_iff.1 h).1; omega) (fun k e => by cases e; omega)
  exact ⟨hb.mono hn, hb.cell (p := ⟨Bs, 0, none⟩) hs⟩
set_option maxRecDepth 100000 in
set_option maxHeartbeats 2000000 in
theorem bback1_in (F : Fence) (n : Nat) (h8 : F.fn 98) (hro : F.round = none) (hn : 1 ≤ n) (bl Bs n₀ b off len cap : Nat) (zs : List UInt8) (hlen : Hid (len = zs.length)) (hreach : len ≤ 1000000) (hb : b < n₀) (J Jx : List (Nat × UInt8) → World → Prop)
    (hY : ∀ pre x W, J pre W → pre.length < len → YieldAt F (n - 1) Tryd.prog bl #[.int .i64 (x.1 : Int), .int .u8 x.2.toNat] W fun e W' =>
      (e = .returned (.bool true) ∧ J (pre ++ [x]) W' ∧ KB n₀ Bs W W') ∨ (e = .returned (.bool false) ∧ Jx (pre ++ [x]) W'))
    (W : World) (hBs : W.cell? ⟨Bs, 0, none⟩ = some (.slice (some ⟨b, off, none⟩) len cap)) (hc : W.rangeAt b off (Lib.byteCells zs)) (h0 : J [] W) :
    CallsIn F n Tryd.prog 98 #[.func (.yield bl) #[] #[], .pointer (some ⟨Bs, 0, none⟩)] W fun e W' => (∃ v, e = .returned v) ∧
      ((∃ ys, ys = bback zs len ∧ J ys W') ∨ (∃ pre, (∃ k, k ≤ len ∧ pre = bback zs k) ∧ Jx pre W')) := by
  have HC := Lib.hid hc
  clear hc
  refine callsIn_of_wp Tryd.func98 rfl h8 ?_ hro
  simp only [Tryd.ntmps98, List.size_toArray, List.length_cons, List.length_nil, Nat.reduceAdd, Nat.reduceSub, Array.replicate_succ, Array.replicate_zero, List.push_toArray, List.append_toArray, List.nil_append, List.cons_append]
  gi_wp2
  gi_loopw [3] (fun i wr => ∃ k : Nat, k ≤ len ∧ i = .int .i64 ((len : Int) - 1 - k) ∧ J (bback zs k) wr ∧ KB n₀ Bs W wr)
    (fun i _ => (intOf i + 1).toNat)
  case atStart => exact ⟨0, Nat.zero_le _, by simp, h0, ⟨Below.refl _ _, rfl⟩⟩
  case round =>
    obtain ⟨k, hk, rfl, hJs, hnx⟩ := hrel
    have HNX := Lib.hid hnx
    have hbs := hnx.2.trans hBs
    clear hnx
    by_cases hlt : k < len
    · obtain ⟨m, hm⟩ : ∃ m : Nat, len = m + 1 + k := ⟨len - 1 - k, by omega⟩
      have hm1 : (len : Int) - 1 - k = (m : Int) := by omega
      have hm2 : zs.length - 1 - k = m := by have := hlen.out; omega
      obtain ⟨x, hx⟩ : ∃ x, zs[m]? = some x := ⟨_, List.getElem?_eq_getElem (by have := hlen.out; omega)⟩
      obtain ⟨fn, tmps, assign, body, hy, hR⟩ := hY _ (m, x) wr hJs (by rw [bback_length]; exact hlt)
      dsimp only at hy
      have hld : wr.cell? ⟨b, off + m, none⟩ = some (.int .u8 x.toNat) := (range_below HC.out HNX.out.1 hb) m _ (by rw [Lib.byteCells, List.getElem?_map, hx]; rfl)
      have hm0 : (0 : Int) ≤ m := by omega
      have HSUCC := Lib.hid (show bback zs (k + 1) = bback zs k ++ [(m, x)] by rw [bback_succ, hm2, hx]; rfl)
      have hml : m < len := by omega
      rw [hm1]
      have HM := Lib.hid hm
      clear hx hm hm1 hm2
      gi_wp2
      refine hR.mono ?_
      rintro e W3 (⟨rfl, hJ3, hk3⟩ | ⟨rfl, hJx3⟩)
      · have HK3 := Lib.hid hk3
        clear hk3
        gi_wp2
        go_roundw
        case rel => exact ⟨k + 1, by omega, by have := HM.out; congr 1; omega, by rw [HSUCC.out]; exact hJ3, kb_t HNX.out HK3.out⟩
        case measure => simp [intOf] <;> omega
      · gi_wp2
        refine bodyPost_ret (results_none rfl _ _ _) rfl ?_
        exact ⟨⟨_, rfl⟩, .inr ⟨_, ⟨k + 1, by omega, HSUCC.out.symm⟩, hJx3⟩⟩
    · obtain rfl : k = len := by omega
      have hm1 : (k : Int) - 1 - k = -1 := by omega
      rw [hm1]
      gi_wp2
      go_end0
      exact ⟨⟨_, rfl⟩, .inl ⟨_, rfl, hJs⟩⟩

set_option maxRecDepth 100000 in
set_option maxHeartbeats 1000000 in
theorem bback0_in (F : Fence) (n : Nat) (h8 : F.fn 98) (hro : F.round = none) (bl Bs : Nat) (A : Option Addr) (cap : Nat) (J : List (Nat × UInt8) → World → Prop) (W : World) (hBs : W.cell? ⟨Bs, 0, none⟩ = some (.slice A 0 cap)) (h0 : J [] W) :
    CallsIn F n Tryd.prog 98 #[.func (.yield bl) #[] #[], .pointer (some ⟨Bs, 0, none⟩)] W fun e W' => (∃ v, e = .returned v) ∧ J [] W' := by
  refine callsIn_of_wp Tryd.func98 rfl h8 ?_ hro
  simp only [Tryd.ntmps98, List.size_toArray, List.length_cons, List.length_nil, Nat.reduceAdd, Nat.reduceSub, Array.replicate_succ, Array.replicate_zero, List.push_toArray, List.append_toArray, List.nil_append, List.cons_append]
  gi_wp2
  gi_loopw [3] (fun i wr => i = .int .i64 (-1) ∧ J [] wr) (fun _ _ => 0)
  case atStart => exact ⟨rfl, h0⟩
  case round =>
    obtain ⟨rfl, hJs⟩ := hrel
    gi_wp2
    go_end0
    exact ⟨⟨_, rfl⟩, hJs⟩

set_option maxHeartbeats 1000000 in
theorem bback_in (F : Fence) (n : Nat) (h6 : F.fn 82) (hro : F.round = none) (a : Option Addr) (len cap : Nat) (w : World) :
    CallsIn F n Tryd.prog 82 #[.slice a len cap] w fun e w' => e = .returned (.func (.func 98) #[] #[.pointer (some ⟨w.heap.size, 0, none⟩)]) ∧ w' = w.alloc (.cells #[.slice a len cap] 28) := by
  refine callsIn_of_wp Tryd.func82 rfl h6 ?_ hro
  simp only [Tryd.ntmps82, List.size_toArray, List.length_cons, List.length_nil, Nat.reduceAdd, Nat.reduceSub, Array.replicate_succ, Array.replicate_zero, List.push_toArray, List.append_toArray, List.nil_append, List.cons_append]
  gi_wp2
  go_ret
  exact ⟨rfl, rfl⟩

theorem bback_stops (F : Fence) (n : Nat) (h8 : F.fn 98) (hro : F.round = none) (hn : 1 ≤ n) (Bs n₀ : Nat) (A : Option Addr) (m c : Nat) (zs : List UInt8) (hm : m = zs.length) (hreach : m ≤ 1000000) (w : World) (hBs : Bs < w.heap.size) (hn₀ : n₀ ≤ w.heap.size)
    (hc : w.cell? ⟨Bs, 0, none⟩ = some (.slice A m c)) (hr : RowOf w 1 A m c (Lib.byteCells zs)) (hlow : ∀ x, A = some x → 0 < m → x.block < n₀) :
    SeqStopsK F n Tryd.prog 98 #[.pointer (some ⟨Bs, 0, none⟩)] (fun x : Nat × UInt8 => #[Value.int .i64 (x.1 : Int), .int .u8 x.2.toNat]) (KB n₀ Bs) (fun ys => ys = bback zs m)
      (fun pre => ∃ k, k ≤ m ∧ pre = bback zs k) m w := fun l J Jx W hW _ _ hY h0 => by
  have hc' := (hW.cell (p := ⟨Bs, 0, none⟩) hBs).trans hc
  by_cases h : m = 0
  · subst h
    exact (bback0_in F n h8 hro l Bs A c J W hc' h0).mono fun e W' ⟨he, hj⟩ => ⟨he, .inl ⟨_, rfl, hj⟩⟩
  · obtain ⟨b, o, rfl, hb, hx⟩ := row_at hr (by omega)
    exact bback1_in F n h8 hro hn l Bs n₀ b o m c zs hm hreach (hlow _ rfl (by omega)) J Jx hY W hc' (range_below hx hW (by omega)) h0
end Go.Proofs.YtbhjigejpdbeiaaDoor
end

section
/-
  told: the number of bytes.
-/
namespace Go.Proofs.YtbhjigejpdbeiaaDoor
open Go.RowKit Go.Shelf
set_option linter.unusedVariables false
set_option maxRecDepth 8000
attribute [local go_sem] Oper.semAt_some

theorem or_i64 (a x : Nat) (ha : a < 18014398509481984) (hx : x < 256) : bits .or .i64 ((a : Int) * 256) (x : Int) = ((a * 256 + x : Nat) : Int) := by
  have h1 : BitVec.ofInt 64 ((a : Int) * 256) = BitVec.ofNat 64 (a * 256) := by
    rw [show ((a : Int) * 256) = ((a * 256 : Nat) : Int) by simp, BitVec.ofInt_natCast]
  have h2 : BitVec.ofInt 64 (x : Int) = BitVec.ofNat 64 x := BitVec.ofInt_natCast ..
  show IntKind.i64.wrap ((BitVec.ofInt 64 ((a : Int) * 256) ||| BitVec.ofInt 64 (x : Int)).toNat : Int) = _
  rw [h1, h2, BitVec.toNat_or, BitVec.toNat_ofNat, BitVec.toNat_ofNat, Nat.mod_eq_of_lt (by omega), Nat.mod_eq_of_lt (by omega)]
  have h3 : a * 256 ||| x = a * 256 + x := by
    have := Nat.shiftLeft_add_eq_or_of_lt (i := 8) (b := x) (by omega) a
    rw [Nat.shiftLeft_eq] at this
    exact this.symm
  rw [h3]
  exact IntWalk.i64_in _ (by omega)

/-- The number of what has come. -/
def tv (pre : List (Nat × UInt8)) : Nat := pre.foldl (fun n x => n * 256 + x.2.toNat) 0
theorem tv_snoc (pre : List (Nat × UInt8)) (x : Nat × UInt8) : tv (pre ++ [x]) = tv pre * 256 + x.2.toNat := by simp [tv]
theorem tv_lt_aux (pre : List (Nat × UInt8)) : ∀ n : Nat, pre.foldl (fun n x => n * 256 + x.2.toNat) n < 256 ^ pre.length * (n + 1) := by
  induction pre with
  | nil => intro n; simp
  | cons x r ih =>
    intro n
    have hx := x.2.toNat_lt
    refine Nat.lt_of_lt_of_le (ih (n * 256 + x.2.toNat)) ?_
    rw [List.length_cons, Nat.pow_succ, Nat.mul_assoc]
    exact Nat.mul_le_mul_left _ (by omega)
theorem tv_lt (pre : List (Nat × UInt8)) : tv pre < 256 ^ pre.length := by have := tv_lt_aux pre 0; simpa [tv] using this
theorem told_drop (bs : List UInt8) (j : Nat) (h : j < bs.length) : toldB (bs.drop (bs.length - (j + 1))) = (bs[bs.length - 1 - j]?.getD 0).toNat + 256 * toldB (bs.drop (bs.length - j)) := by
  rw [List.drop_eq_getElem_cons (show bs.length - (j + 1) < bs.length by omega), toldB, show bs.length - (j + 1) + 1 = bs.length - j by omega, show bs.length - 1 - j = bs.length - (j + 1) by omega, List.getElem?_eq_getElem (by omega)]
  rfl
theorem tv_back (bs : List UInt8) (j : Nat) (h : j ≤ bs.length) : tv (bback bs j) = toldB (bs.drop (bs.length - j)) := by
  induction j with
  | zero => simp [bback, tv, toldB]
  | succ j ih =>
    rw [bback_succ, tv_snoc, ih (by omega), told_drop bs j (by omega)]
    dsimp only
    omega
theorem tv_all (bs : List UInt8) : tv (bback bs bs.length) = toldB bs := by rw [tv_back bs _ (Nat.le_refl _)]; simp
/-- Between two rounds. -/
def TlI (nb : Nat) (W0 : World) (pre : List (Nat × UInt8)) (W : World) : Prop := W.cell? ⟨nb, 0, none⟩ = some (.int .i64 (tv pre : Int)) ∧ W.frozen? ⟨nb, 0, none⟩ = false ∧ W0.grownBy W (some nb)
theorem tlI_own (nb : Nat) (W0 : World) (hb : nb < W0.heap.size) : OwnFrom W0.heap.size (TlI nb W0) :=
  fun s A B row hs hg hr => by
    obtain ⟨h1, h2, h4⟩ := hs
    have hne : some nb ≠ row := fun e => by have := (hr nb e.symm).1; omega
    have hbk := hg.block nb (Nat.lt_of_lt_of_le hb h4.size) hne
    refine ⟨(World.cell?_of_block (a := ⟨nb, 0, none⟩) hbk).trans h1, (World.frozen?_of_block (a := ⟨nb, 0, none⟩) hbk).trans h2, ⟨hg.os.trans h4.os, hg.tape.trans h4.tape, hg.output.trans h4.output, Nat.le_trans h4.size hg.size, fun k hk hkb => ?_⟩⟩
    refine (hg.block k (Nat.lt_of_lt_of_le hk h4.size) (fun e => ?_)).trans (h4.block k hk hkb)
    have := (hr k e.symm).1
    omega

set_option maxHeartbeats 1000000 in
theorem told_in (w : World) (bs : List UInt8) (A : Option Addr) (k c : Nat) (hk : k = bs.length) (h6 : k ≤ 6) (hr : RowOf w 1 A k c (Lib.byteCells bs)) :
    CallsIn Fence.wide 4 Tryd.prog 65 #[.slice A k c] w fun e w' => e = .returned (.int .i64 (toldB bs : Int)) ∧ Below w.heap.size w w' := by
  obtain ⟨w1, hw1⟩ : ∃ w1, w1 = w.alloc (Obj.cells #[.int .i64 0] 3) := ⟨_, rfl⟩
  have HK := Lib.hid hk
  have HR := Lib.hid hr
  clear hk hr
  refine callsIn_of_wp_marks Tryd.func65 rfl trivial ?_ rfl
  simp only [Tryd.ntmps65, List.size_toArray, List.length_cons, List.length_nil, Nat.reduceAdd, Nat.reduceSub, Array.replicate_succ, Array.replicate_zero, List.push_toArray, List.append_toArray, List.nil_append, List.cons_append]
  gi_wp2_with fail
  rw [← hw1]
  have HB1 := Lib.hid (show Below w.heap.size w w1 by rw [hw1]; exact (Below.refl _ _).alloc (Nat.le_refl _) _)
  have HS1 := Lib.hid (show w1.heap.size = w.heap.size + 1 by rw [hw1]; simp)
  have HC1 := Lib.hid (show w1.cell? ⟨w.heap.size, 0, none⟩ = some (.int .i64 0) ∧ w1.frozen? ⟨w.heap.size, 0, none⟩ = false by
    rw [hw1]; exact ⟨cell_of_new w #[.int .i64 0] 3 0, frozen_new w #[.int .i64 0] 3 0⟩)
  clear hw1
  refine ⟨trivial, (bback_in Fence.wide 3 trivial rfl A k c w1).mono ?_⟩
  rintro e W0 ⟨rfl, hW0⟩
  have HB0 := Lib.hid (show Below w.heap.size w W0 by rw [hW0]; exact below_chain HB1.out ((Below.refl _ _).alloc (Nat.le_refl _) _))
  have HS0 := Lib.hid (show W0.heap.size = w.heap.size + 2 by rw [hW0]; simp; exact HS1.out)
  have HBOX := Lib.hid (show W0.cell? ⟨w1.heap.size, 0, none⟩ = some (.slice A k c) by rw [hW0]; exact cell_of_new w1 #[.slice A k c] 28 0)
  have HC0 := Lib.hid (show W0.cell? ⟨w.heap.size, 0, none⟩ = some (.int .i64 0) ∧ W0.frozen? ⟨w.heap.size, 0, none⟩ = false by
    have hb : Below w1.heap.size w1 W0 := by rw [hW0]; exact (Below.refl _ _).alloc (Nat.le_refl _) _
    exact ⟨(hb.cell (p := ⟨w.heap.size, 0, none⟩) (by have := HS1.out; show w.heap.size < _; omega)).trans HC1.out.1, (hb.frozen (p := ⟨w.heap.size, 0, none⟩) (by have := HS1.out; show w.heap.size < _; omega)).trans HC1.out.2⟩)
  have HROW := Lib.hid (HR.out.kept HB0.out (Nat.le_refl _))
  clear hW0
  gi_wp2_with fail
  refine wpIn_rangeFunc_ownH rfl (by decide) (gf := 98) (lb := #[.pointer (some ⟨w1.heap.size, 0, none⟩)]) rfl trivial (enters_of Tryd.func98 (by kernel_rfl) rfl)
    (bback_stops Fence.wide 3 trivial rfl (by decide) w1.heap.size w.heap.size A k c bs HK.out (by omega) W0 (by have := HS0.out; have := HS1.out; omega) (by have := HS0.out; omega) HBOX.out HROW.out (fun y hy h0 => (HR.out.2.2.2.2 y hy h0).2.1)) kb_t (kb_b (by have := HS0.out; omega) (by have := HS0.out; have := HS1.out; omega)) (Below.refl _ _) (fun _ => rfl)
    (TlI w.heap.size W0) (fun c pre W => False) (tlI_own w.heap.size W0 (by have := HS0.out; omega)) (fun c s A B row hs hg hr => hs)
    ⟨HC0.out.1, HC0.out.2, World.grownBy.refl _ _⟩
    (fun (x : Nat × UInt8) a' W => a' = { tmps := #[.slice A k c, undef, .int .i64 0, .pointer (some ⟨w.heap.size, 0, none⟩), undef, .int .u8 x.2.toNat, .slice A k c, .func (.func 98) #[] #[.pointer (some ⟨w1.heap.size, 0, none⟩)], .int .i64 (x.1 : Int), .int .u8 x.2.toNat, undef, undef, undef, undef, undef, undef], defers := [] }) (fun x a' s A B row hs hg hr => hs) ?assign ?body ?done ?stop
  case assign =>
    rintro l pre x W K hI hK
    have HKK := Lib.hid hK
    clear hK
    gi_wp2
    exact HKK.out _ _ (KeepsFrom.refl _ _) ⟨Below.refl _ _, rfl⟩ hI rfl
  case body =>
    rintro l pre x a' W hl ⟨r, hr⟩ ⟨hI1, hI2, hI3⟩ rfl hlt
    have hb := tv_lt pre
    have hp : 256 ^ pre.length ≤ 256 ^ 5 := Nat.pow_le_pow_right (by decide) (by omega)
    have hx := x.2.toNat_lt
    have hor := or_i64 (tv pre) x.2.toNat (by omega) hx
    have HSN := Lib.hid (tv_snoc pre x)
    have HI3 := Lib.hid hI3
    have hb2 : tv pre < 1099511627776 := by omega
    clear hb hp hI3
    generalize tv pre = n at *
    generalize x.2.toNat = z at *
    have hs1 : IntKind.i64.wrap ((n : Int) * 256) = (n : Int) * 256 := IntWalk.i64_in _ (by omega)
    have hs2 : IntKind.i64.wrap (z : Int) = (z : Int) := IntWalk.i64_in _ (by omega)
    gi_wp2
    have hz := HS1.out
    refine ⟨(KeepsOthers.setCell _ _ _).from _, ⟨(Below.refl _ _).setCell (p := ⟨w.heap.size, 0, none⟩) (Nat.le_refl _) _, World.cell?_setCell_other _ _ _ _ (by intro e; injection e with e1 e2; omega)⟩, ?_, by rw [World.frozen?_setCell]; exact hI2, grown_set HI3.out 0 _⟩
    rw [World.cell?_setCell_same _ _ _ hI1, HSN.out]
    simp
  case done =>
    rintro D ys W hD rfl ⟨hI1, hI2, hI3⟩ hK
    have HI3 := Lib.hid hI3
    have HKD := Lib.hid hK
    have HT := Lib.hid (show tv (bback bs k) = toldB bs by rw [HK.out]; exact tv_all bs)
    clear hI3 hK
    generalize tv (bback bs k) = n at *
    gi_wp2
    refine ⟨by simp, .inl ⟨_, _, rfl, run_takeDeferred HKD.out, ?_⟩⟩
    refine ⟨.int .i64 (n : Int), by simp [results], ?_, ?_⟩
    · rw [HT.out]
    · exact (HB0.out.grown HI3.out (by have := HB0.out.size; omega) (fun q e => by injection e with e; omega)).grown (grownBy_putObj' _ D _) (by have := HI3.out.size; have := HB0.out.size; omega) (fun q e => by cases e; have := HB0.out.size; omega)
  case stop =>
    rintro D c pre W hD hp hI hK
    exact hI.elim
theorem told_f (w : World) (bs : List UInt8) (A : Option Addr) (k c : Nat) (hk : k = bs.length) (h6 : k ≤ 6) (hr : RowOf w 1 A k c (Lib.byteCells bs)) :
    Calls Tryd.prog 65 #[.slice A k c] w fun e w' => e = .returned (.int .i64 (toldB bs : Int)) ∧ Below w.heap.size w w' := callsIn_wide.1 (told_in w bs A k c hk h6 hr)
end Go.Proofs.YtbhjigejpdbeiaaDoor
end
