/-
  Padded, padded, bytes.Join of one part.
-/
import Derived.Test.YtbhjigejpdbeiaaDoorZUw
import Derived.Test.YtbhjigejpdbeiaaDoorZMem5
import Derived.Laws.CopyOwn
import Derived.OwnWalk
import Derived.Test.YtbhjigejpdbeiaaDoorZNw
set_option linter.unusedSimpArgs false
set_option linter.unusedVariables false
namespace Go.Proofs.YtbhjigejpdbeiaaDoor
open Go.RowKit
set_option linter.unusedVariables false
set_option maxRecDepth 8000

theorem infoU8 : (Tryd.prog.info? 5).map (fun i => (i.zero, i.size, i.bytes)) = some (some (.int .u8 0), 1, 1) := by kernel_rfl
theorem bytes_one (l : List UInt8) : ∀ v ∈ Lib.byteCells l, v.oneCell' = true := by
  intro v hv
  simp only [Lib.byteCells, List.mem_map] at hv
  obtain ⟨u, _, rfl⟩ := hv
  rfl
theorem Padded_f (w : World) : Calls Tryd.prog 101 #[.int .i64 120, .int .i64 32] w fun e w' => e = .returned (.int .i64 192) ∧ w' = w := by
  go_enter Tryd.func101, Tryd.ntmps101
  go_wp2
  go_ret
  exact ⟨rfl, rfl⟩
theorem join_f (w : World) (b : Nat) (bs : List UInt8) (A : Option Addr) (n c : Nat) (hn : n ≤ 1000000) (hr : RowOf w 1 A n c (Lib.byteCells bs)) (hc : w.cell? ⟨b, 0, none⟩ = some (.slice A n c)) :
    Calls Tryd.prog 93 #[.slice (some ⟨b, 0, none⟩) 1 1, .slice none 0 0] w fun e w' => OwnOut 5 1 n (Lib.byteCells bs) w e w' := by
  have HR := Lib.hid hr
  clear hr
  go_enter Tryd.func93, Tryd.ntmps93
  go_wp2_with (at_builtin; refine append_row rfl (.const (.slice none 0 0)) (.tmp 21) 28 5 rfl Tryd.underlying28 w.heap.size (.int .u8 0) 1 1 infoU8 (by rfl) (by decide) _ _ _ rfl (World.ownsRow_nil w w.heap.size 5 1) A n c (Lib.byteCells bs) rfl HR.out (bytes_one _) (by omega) (by decide) (Nat.le_refl _) ?_)
  intro v' w' k1 k2
  have K1 := Lib.hid k1
  have K2 := Lib.hid (below_owned (Below.refl w.heap.size w) (World.ownsRow_nil w w.heap.size 5 1) k2 (Nat.le_refl _) (Nat.le_refl _))
  clear k1 k2
  go_wp2
  go_ret
  refine ⟨⟨_, rfl, ?_⟩, K2.out⟩
  have := K1.out
  simpa using this

/-- The padded bytes while they are written. -/
def padS (bs : List UInt8) : Nat → List UInt8
  | 0 => bs ++ 128 :: List.replicate 71 0
  | 1 => bs ++ 128 :: List.replicate 70 0 ++ [192]
  | _ => bs ++ 128 :: List.replicate 69 0 ++ [3, 192]
theorem padS_length (bs : List UInt8) (hl : bs.length = 120) (t : Nat) : (padS bs t).length = 192 := by
  unfold padS; split <;> simp [hl]
theorem cells_set (l : List UInt8) (j : Nat) (x : UInt8) : (Lib.byteCells l).set j (.int .u8 x.toNat) = Lib.byteCells (l.set j x) := by
  simp [Lib.byteCells, List.map_set]
theorem padS_set (bs : List UInt8) (hl : bs.length = 120) : (padS bs 0).set 191 192 = padS bs 1 ∧ (padS bs 1).set 190 3 = padS bs 2 ∧ (bs ++ List.replicate 72 0).set 120 128 = padS bs 0 := by
  refine ⟨?_, ?_, ?_⟩ <;> simp [padS, List.set_append, hl, List.replicate]
theorem row_facts {w : World} {g : Nat} {cs : List Value} {t : TypeId} (h : w.heap[g]? = some (.cells cs.toArray t (0, 0))) : w.rangeAt g 0 cs ∧ w.there g 0 cs.length ∧ g < w.heap.size := by
  refine ⟨fun j v hj => ?_, fun j hj => ⟨?_, ?_⟩, (Array.getElem?_eq_some_iff.1 h).1⟩
  · rw [Nat.zero_add, cell_of_row _ _ _ _ t (0, 0) h]; simpa using hj
  · rw [Nat.zero_add, cell_of_row _ _ _ _ t (0, 0) h]; simp [hj]
  · rw [Nat.zero_add]; exact frozen_of_row w g j _ t h
theorem padded_f (w : World) (bs : List UInt8) (hl : bs.length = 120) (g c : Nat) (hr : RowOf w 1 (some ⟨g, 0, none⟩) 120 c (Lib.byteCells bs)) :
    Calls Tryd.prog 92 #[.slice (some ⟨g, 0, none⟩) 120 c, .int .i64 32] w fun e w' => e = .returned (.slice (some ⟨w.heap.size, 0, none⟩) 192 192) ∧ w'.rangeAt w.heap.size 0 (Lib.byteCells (Sha.pad bs)) ∧ Below w.heap.size w w' ∧ w.heap.size < w'.heap.size := by
  obtain ⟨i0, hi0, hz0, hz1, hz2⟩ := info_parts infoU8
  have HR := Lib.hid hr
  clear hr
  go_enter Tryd.func92, Tryd.ntmps92
  go_wp2_with fail
  refine (Padded_f w).mono ?_
  rintro e w1 ⟨rfl, rfl⟩
  go_wp2_with (at_make; refine wpList_make_full _ rfl _ _ 28 rfl w1.heap.size 5 i0 (.int .u8 0) 1 Tryd.underlying28 hi0 hz0 hz1 _ _ _ _ 192 rfl rfl rfl rfl (by rw [hz2]; omega) (by unfold maxLen; omega) (by simp) ?_)
  intro w2 k1 k2
  have hb2 : Below w1.heap.size w1 w2 := (Below.refl _ _).grown k2 (Nat.le_refl _) (fun k hk => by cases hk)
  have e0 : (madeCells #[Value.int .u8 0] 192).toList = List.replicate 192 (.int .u8 0) := made_rep 1 192 _ (by decide)
  rw [e0] at k1
  rcases k1.2 with ⟨q, _⟩ | ⟨g', cap, cur, q, _, hcur, _, _, hcs, htk⟩
  · cases q
  injection q with q1 q2 q3
  injection q1 with q1
  injection q1 with q1
  subst q1; subst q3
  have hcl : cur.toList = List.replicate 192 (.int .u8 0) := by rw [← htk, List.take_of_length_le (by rw [Array.length_toList, hcs]; simp)]
  have hgs : w1.heap.size < w2.heap.size := (Array.getElem?_eq_some_iff.1 hcur).1
  obtain ⟨x1, x2, x3, x4, x5⟩ := HR.out.kept hb2 (Nat.le_refl _)
  have hsrc : ∀ j v, (Lib.byteCells bs)[j]? = some v → w2.cell? ((⟨g, 0, none⟩ : Addr).add j) = some v := fun j v hj => by
    rw [add_none]; exact (x5 _ rfl (by decide)).2.2 j v hj
  have e1 : (cur.toList.take 0 ++ Lib.byteCells bs ++ cur.toList.drop (0 + (Lib.byteCells bs).length)) = Lib.byteCells (bs ++ List.replicate 72 0) := by
    rw [hcl, Lib.byteCells_length, hl]; simp [Lib.byteCells]
  have HSRC := Lib.hid hsrc
  have HCUR := Lib.hid hcur
  have HB2 := Lib.hid hb2
  clear k1 k2 x1 x2 x3 x4 x5 hsrc htk hcl
  have hcp := run_copy_row (P := Tryd.prog) w2 28 28 3 5 w1.heap.size 0 192 192 ⟨g, 0, none⟩ 120 c cur 5 (Lib.byteCells bs) Tryd.underlying28 (by kernel_rfl) HCUR.out (by rw [Lib.byteCells_length, hl]; rfl) HSRC.out (by rw [Lib.byteCells_length, hl]; omega) (bytes_one _)
  rw [e1, Lib.byteCells_length, hl] at hcp
  obtain ⟨w3, hw3⟩ : ∃ w3, w3 = w2.setRow w1.heap.size (Lib.byteCells (bs ++ List.replicate 72 0)).toArray := ⟨_, rfl⟩
  rw [← hw3] at hcp
  have HCP := Lib.hid hcp
  clear hcp
  have hh3 := setRow_heap w2 w1.heap.size cur (Lib.byteCells (bs ++ List.replicate 72 0)).toArray 5 (0, 0) HCUR.out
  rw [← hw3] at hh3
  obtain ⟨hr3, ht3, hs3⟩ := row_facts hh3
  rw [Lib.byteCells_length, List.length_append, hl, List.length_replicate] at ht3
  have HB3 := Lib.hid (show Below w1.heap.size w1 w3 by rw [hw3]; exact below_setRow HB2.out (Nat.le_refl _) _)
  have c120 := ht3 120 (by omega)
  rw [Nat.zero_add] at c120
  obtain ⟨c1, c2⟩ := c120
  obtain ⟨v0, c3⟩ := Option.isSome_iff_exists.1 c1
  obtain ⟨p1, p2, p3⟩ := padS_set bs hl
  have HR4 := Lib.hid (show (w3.setCell ⟨w1.heap.size, 120, none⟩ (.int .u8 128)).rangeAt w1.heap.size 0 (Lib.byteCells (padS bs 0)) by
    have := range_setCell hr3 120 (.int .u8 (128 : UInt8).toNat) (by rw [Lib.byteCells_length, List.length_append, hl, List.length_replicate]; omega)
    rw [cells_set, p3, Nat.zero_add] at this
    exact this)
  have HT4 := Lib.hid (there_setCell ht3 ⟨w1.heap.size, 120, none⟩ (.int .u8 128))
  have HB4 := Lib.hid (HB3.out.setCell (p := ⟨w1.heap.size, 120, none⟩) (Nat.le_refl _) (.int .u8 128))
  have HS4 := Lib.hid (show w1.heap.size < (w3.setCell ⟨w1.heap.size, 120, none⟩ (.int .u8 128)).heap.size by simpa using hs3)
  have hb960 : IntKind.u64.wrap (120 * 8) = 960 := by decide
  clear hh3 hr3 ht3 hs3 hw3 c1
  go_wp2_with fail
  rw [HCP.out]
  go_wp2
  obtain ⟨w4, hw4⟩ : ∃ w4, w4 = w3.setCell ⟨w1.heap.size, 120, none⟩ (.int .u8 128) := ⟨_, rfl⟩
  rw [← hw4] at HR4 HT4 HB4 HS4 ⊢
  clear hw4 HCP HB3 HCUR HSRC HR hcur c3 c2
  go_loopw [6, 7] (fun n i wr => ∃ t : Nat, t ≤ 2 ∧ n = .int .u64 (if t = 0 then 960 else if t = 1 then 3 else 0) ∧ i = .int .i64 (191 - (t : Int)) ∧ Hid (wr.rangeAt w1.heap.size 0 (Lib.byteCells (padS bs t))) ∧ Hid (wr.there w1.heap.size 0 192) ∧ Hid (Below w1.heap.size w1 wr) ∧ Hid (w1.heap.size < wr.heap.size)) (fun _ i _ => (intOf i - 180).toNat)
  case atStart => exact ⟨0, by omega, rfl, rfl, HR4, HT4, HB4, HS4⟩
  case round =>
    obtain ⟨t, ht, rfl, rfl, HRR, HTT, HBB, HSS⟩ := hrel
    have hc : ∀ j, j < 192 → ∃ v, wr.cell? ⟨w1.heap.size, j, none⟩ = some v ∧ wr.frozen? ⟨w1.heap.size, j, none⟩ = false := fun j hj => by
      obtain ⟨q1, q2⟩ := HTT.out j hj
      rw [Nat.zero_add] at q1 q2
      obtain ⟨v, hv⟩ := Option.isSome_iff_exists.1 q1
      exact ⟨v, hv, q2⟩
    rcases (show t = 0 ∨ t = 1 ∨ t = 2 by omega) with rfl | rfl | rfl
    · obtain ⟨v, hv1, hv2⟩ := hc 191 (by omega)
      go_wp2
      go_roundw
      case rel =>
        refine ⟨1, by omega, by rfl, by rfl, Lib.hid ?_, Lib.hid (there_setCell HTT.out _ _), Lib.hid (HBB.out.setCell (p := ⟨w1.heap.size, 191, none⟩) (Nat.le_refl _) _), Lib.hid (by simpa using HSS.out)⟩
        have := range_setCell HRR.out 191 (.int .u8 (192 : UInt8).toNat) (by rw [Lib.byteCells_length, padS_length bs hl]; omega)
        rw [cells_set, p1, Nat.zero_add] at this
        exact this
      case measure => simp [intOf]
    · obtain ⟨v, hv1, hv2⟩ := hc 190 (by omega)
      go_wp2
      go_roundw
      case rel =>
        refine ⟨2, by omega, by rfl, by rfl, Lib.hid ?_, Lib.hid (there_setCell HTT.out _ _), Lib.hid (HBB.out.setCell (p := ⟨w1.heap.size, 190, none⟩) (Nat.le_refl _) _), Lib.hid (by simpa using HSS.out)⟩
        have := range_setCell HRR.out 190 (.int .u8 (3 : UInt8).toNat) (by rw [Lib.byteCells_length, padS_length bs hl]; omega)
        rw [cells_set, p2, Nat.zero_add] at this
        exact this
      case measure => simp [intOf]
    · go_wp2
      go_ret
      exact ⟨rfl, HRR.out, HBB.out, HSS.out⟩
end Go.Proofs.YtbhjigejpdbeiaaDoor
