/-
  Sum256 of the program.
-/
import Derived.Test.YtbhjigejpdbeiaaDoorZAl
set_option linter.unusedSimpArgs false
set_option linter.unusedVariables false
namespace Go.Proofs.YtbhjigejpdbeiaaDoor
open Go.RowKit Go.Shelf
set_option linter.unusedVariables false
set_option maxRecDepth 8000

@[irreducible] def q8Var (a : Addr) : Sem Value := loadVar 153 a
@[go_sem ↓] theorem q8Var_def (a : Addr) : loadVar 153 a = q8Var a := by unfold q8Var; rfl
@[irreducible] def b32Var (a : Addr) : Sem Value := loadVar 129 a
@[go_sem ↓] theorem b32Var_def (a : Addr) : loadVar 129 a = b32Var a := by unfold b32Var; rfl
@[irreducible] def b32Set (a : Addr) (v : Value) : Sem Unit := storeVar 129 a v
@[go_sem ↓] theorem b32Set_def (a : Addr) (v : Value) : storeVar 129 a v = b32Set a v := by unfold b32Set; rfl
theorem b32Var_run {a : Addr} {v : Value} {w w' : World} (h : (b32Var a).run Tryd.prog w = .ok v w') : (loadVar 129 a).run Tryd.prog w = .ok v w' := by rw [b32Var_def]; exact h
theorem sizeQ8 : (Tryd.prog.info? 153).map (·.size) = some 8 := by kernel_rfl
theorem sizeB32 : (Tryd.prog.info? 129).map (·.size) = some 32 := by kernel_rfl
def qC (l : List Nat) : List Value := l.map fun (n : Nat) => Value.int .u64 (n : Int)
theorem load_q8 {w : World} {b o : Nat} {l : List Nat} (hl : l.length = 8) (h : w.rangeAt b o (qC l)) : (q8Var ⟨b, o, none⟩).run Tryd.prog w = .ok (.agg (qC l).toArray) w := by
  unfold q8Var; exact run_loadVar_mid w b o 153 (qC l) _ h Tryd.underlying153 rfl (by rw [sizeQ8, qC, List.length_map, hl])
theorem load_b32 {w : World} {b o : Nat} {l : List UInt8} (hl : l.length = 32) (h : w.rangeAt b o (Lib.byteCells l)) : (b32Var ⟨b, o, none⟩).run Tryd.prog w = .ok (.agg (Lib.byteCells l).toArray) w := by
  unfold b32Var; exact run_loadVar_mid w b o 129 (Lib.byteCells l) _ h Tryd.underlying129 rfl (by rw [sizeB32, Lib.byteCells_length, hl])
theorem store_b32 {w : World} {b o : Nat} {l : List UInt8} (hl : l.length = 32) (h : w.there b o 32) : (b32Set ⟨b, o, none⟩ (.agg (Lib.byteCells l).toArray)).run Tryd.prog w = .ok () (w.setCells b o (Lib.byteCells l)) := by
  unfold b32Set; exact run_storeVar_mid w b o 129 (Lib.byteCells l).toArray (by simpa [Lib.byteCells_length, hl] using h) (by rw [sizeB32]; simp [Lib.byteCells_length, hl]) (all_oneCell_toArray (bytes_one l))
theorem run_index_u64 (V : Array Value) (j n : Nat) (u : Value) (hj : j < n) (h : V[j]? = some u) (T : TypeId) (hT : Tryd.prog.underlying T = some (.array n 145)) (w : World) : (Instr.index T (.agg V) (.int .i64 (j : Int))).run Tryd.prog w = .ok u w := by
  have hp := run_part_plain (P := Tryd.prog) (e := 145) w (by kernel_rfl) h
  unfold Instr.index
  simp [asIntOf, Sem.run_bind, run_underlying hT, Tryd.sizeOf145, hj, hp]

def zeroSt : Sha.St := ⟨0, 0, 0, 0, 0, 0, 0, 0⟩
/-- The state while the beginnings are laid. -/
def begC (k : Nat) : List Value := wC (Sha.start.list.take k ++ zeroSt.list.drop k) ++ rT
theorem begC_set (j : Nat) (hj : j < 8) : (begC j).set j (.int .u32 (wi (Sha.begin_ j))) = begC (j + 1) := by
  rcases (show j = 0 ∨ j = 1 ∨ j = 2 ∨ j = 3 ∨ j = 4 ∨ j = 5 ∨ j = 6 ∨ j = 7 by omega) with rfl | rfl | rfl | rfl | rfl | rfl | rfl | rfl <;> rfl
theorem begC_length (j : Nat) (hj : j ≤ 8) : (begC j).length = 14 := by
  have h1 : ∀ T : Sha.St, T.list.length = 8 := fun _ => rfl
  simp only [begC, rT, List.length_append, wC_length, List.length_take, List.length_drop, h1, List.length_cons, List.length_nil]
  omega
theorem begins_at (i : Nat) (h : i < 8) : ∃ n : Nat, (qC Sha.begins)[i]? = some (.int .u64 (n : Int)) ∧ ((n : Int) / 4294967296) % 4294967296 = wi (Sha.begin_ i) := by
  refine ⟨Sha.begins.getD i 0, ?_, ?_⟩
  · rw [qC, List.getElem?_map, List.getElem?_eq_getElem (by rw [Sha.begins_length]; exact h), List.getD_eq_getElem?_getD, List.getElem?_eq_getElem (by rw [Sha.begins_length]; exact h)]; rfl
  · rw [wi_def, Sha.begin_, BitVec.toNat_ofNat]
    simp
theorem sum_pad (bs : List UInt8) : Sha.out (shaSt (Sha.pad bs) Sha.start (chunks 3 3)) = Sha.sum bs := by
  rw [chunks_all]
  rfl

set_option maxHeartbeats 2000000 in
theorem sum256_f (w : World) (bp c : Nat) (A : Option Addr) (bs : List UInt8) (hl : bs.length = 120) (hr : RowOf w 1 A 120 c (Lib.byteCells bs)) (hc : w.cell? ⟨bp, 0, none⟩ = some (.slice A 120 c)) (hL : Laid w) :
    Calls Tryd.prog 74 #[.slice (some ⟨bp, 0, none⟩) 1 1] w fun e w' => e = .returned (.agg (Lib.byteCells (Sha.sum bs)).toArray) ∧ Below w.heap.size w w' := by
  have HR := Lib.hid hr
  have HL := Lib.hid hL
  have HC := Lib.hid hc
  clear hr hL hc
  obtain ⟨w2, hw2⟩ : ∃ w2, w2 = (w.alloc (.cells (Lib.byteCells (List.replicate 32 0)).toArray 129)).alloc (.cells (begC 0).toArray 152) := ⟨_, rfl⟩
  have HB2 := Lib.hid (show Below w.heap.size w w2 by rw [hw2]; exact below_two _ _ _)
  have HS2 := Lib.hid (show w2.heap.size = w.heap.size + 2 by rw [hw2]; simp)
  have HT2 := Lib.hid (show w2.there w.heap.size 0 32 by
    rw [hw2]
    have := there_new w (Lib.byteCells (List.replicate 32 0)) 129
    rw [Lib.byteCells_length, List.length_replicate] at this
    exact there_below this ((Below.refl _ _).alloc (Nat.le_refl _) _) (by simp))
  have HRG2 := Lib.hid (show w2.rangeAt (w.heap.size + 1) 0 (begC 0) ∧ w2.there (w.heap.size + 1) 0 14 by
    rw [hw2]
    have h1 := range_new (w.alloc (.cells (Lib.byteCells (List.replicate 32 0)).toArray 129)) (begC 0) 152
    have h2 := there_new (w.alloc (.cells (Lib.byteCells (List.replicate 32 0)).toArray 129)) (begC 0) 152
    rw [size_alloc] at h1 h2
    exact ⟨h1, h2⟩)
  have hz32 : (Lib.byteCells (List.replicate 32 0)).toArray = #[.int .u8 0, .int .u8 0, .int .u8 0, .int .u8 0, .int .u8 0, .int .u8 0, .int .u8 0, .int .u8 0, .int .u8 0, .int .u8 0, .int .u8 0, .int .u8 0, .int .u8 0, .int .u8 0, .int .u8 0, .int .u8 0, .int .u8 0, .int .u8 0, .int .u8 0, .int .u8 0, .int .u8 0, .int .u8 0, .int .u8 0, .int .u8 0, .int .u8 0, .int .u8 0, .int .u8 0, .int .u8 0, .int .u8 0, .int .u8 0, .int .u8 0, .int .u8 0] := by
    simp [Lib.byteCells, List.replicate]
  have hz14 : (begC 0).toArray = #[.int .u32 0, .int .u32 0, .int .u32 0, .int .u32 0, .int .u32 0, .int .u32 0, .int .u32 0, .int .u32 0, .int .i64 64, .func (.func 85) #[] #[], .func (.func 86) #[] #[], .func (.func 88) #[] #[], .func (.func 89) #[] #[], .func (.func 90) #[] #[]] := by
    have h0 : wi 0#32 = 0 := by rw [wi_def]; rfl
    simp [begC, wC, zeroSt, Sha.St.list, rT, h0]
  rw [hz32, hz14] at hw2
  have HW := Lib.hid hw2
  clear hw2 hz32 hz14
  have hq := load_q8 Sha.begins_length (HL.out.below HB2.out (by have := HL.out.size; omega)).begins
  go_enter Tryd.func74, Tryd.ntmps74
  rw [HW.out] at hq
  go_wp2_with fail
  rw [← HW.out]
  clear hq
  obtain ⟨b, hb⟩ : ∃ b, b = w.heap.size + 1 := ⟨_, rfl⟩
  rw [← hb] at HRG2 ⊢
  have HBD := Lib.hid hb
  clear hb
  go_loopw [9] (fun i wr => ∃ k : Nat, k ≤ 8 ∧ i = .int .i64 k ∧ Hid (wr.rangeAt b 0 (begC k)) ∧ Hid (wr.there b 0 14) ∧ Hid (w2.grownBy wr (some b))) (fun i _ => 8 - (intOf i).toNat)
  case atStart => exact ⟨0, by omega, rfl, Lib.hid HRG2.out.1, Lib.hid HRG2.out.2, Lib.hid (World.grownBy.refl _ _)⟩
  case round =>
    obtain ⟨k, hk, rfl, HRK, HTK, HG⟩ := hrel
    by_cases hk8 : k < 8
    · obtain ⟨n, hn1, hn2⟩ := begins_at k hk8
      have hix : ∀ W, (Instr.index 153 (.agg (qC Sha.begins).toArray) (.int .i64 (k : Int))).run Tryd.prog W = .ok _ W := run_index_u64 (qC Sha.begins).toArray k 8 _ hk8 (by rw [List.getElem?_toArray]; exact hn1) 153 Tryd.underlying153
      have hd8 : decide ((k : Int) < 8) = true := by simp; omega
      have hcc : ∃ u, (begC k)[k]? = some u := ⟨_, List.getElem?_eq_getElem (by rw [begC_length k hk]; omega)⟩
      obtain ⟨u, hu⟩ := hcc
      have hcu := HRK.out k u hu
      have hcf := (HTK.out k (by omega)).2
      rw [Nat.zero_add] at hcu hcf
      clear hu hn1
      have hn0 : (0 : Int) ≤ n := by omega
      go_wp2
      go_roundw
      case rel =>
        refine ⟨k + 1, by omega, by go_num, Lib.hid ?_, Lib.hid (there_setCell HTK.out _ _), Lib.hid (grown_set HG.out k _)⟩
        have := range_setCell HRK.out k (.int .u32 (wi (Sha.begin_ k))) (by rw [begC_length k hk]; omega)
        rw [begC_set k hk8, Nat.zero_add] at this
        first | exact this | (rw [hn2]; exact this)
      case measure => simp [intOf]; omega
    · obtain rfl : k = 8 := by omega
      have hbw := HBD.out
      have hs2 := HS2.out
      have hsr := HG.out.size
      have hbs := HB2.out.size
      have HBr := Lib.hid (show Below w.heap.size w wr from HB2.out.grown HG.out (by omega) (fun k e => by injection e with e; omega))
      have HRb := Lib.hid (show RoundsAt wr b Sha.start from ⟨by omega, HRK.out, HTK.out⟩)
      have HTr := Lib.hid (there_keepb HT2.out (HG.out.block w.heap.size (by omega) (by simp; omega)))
      have hbp := World.block_lt_of_cell? w ⟨bp, 0, none⟩ HC.out
      have HCr := Lib.hid ((HBr.out.cell (p := ⟨bp, 0, none⟩) hbp).trans HC.out)
      have HLr := Lib.hid (HL.out.below HBr.out HL.out.size)
      have HX := Lib.hid hbw
      clear hbw hs2 hsr hbs hbp
      go_wp2_with fail
      refine (join_f wr bp bs A 120 c (by omega) (HR.out.kept HBr.out (Nat.le_refl _)) HCr.out).mono ?_
      rintro e w3 ⟨⟨v, rfl, hown⟩, hb3⟩
      obtain ⟨A3, c3, rfl, hrow3, _⟩ := row_of_own hown
      obtain ⟨g3, rfl, hg30, hg31, _, _⟩ := own_there hown (by omega)
      have HROW3 := Lib.hid hrow3
      have HB3 := Lib.hid hb3
      clear hown hrow3 hb3 hg30 hg31
      go_wp2_with fail
      refine (padded_f w3 bs hl g3 c3 HROW3.out).mono ?_
      rintro e w4 ⟨rfl, hr4, hb4, hs4⟩
      have HR4 := Lib.hid hr4
      have HB4 := Lib.hid (below_chain HB3.out hb4)
      have HS4 := Lib.hid hs4
      clear hr4 hb4 hs4
      have HRb4 := Lib.hid (HRb.out.below HB4.out HRb.out.lt)
      have HL4 := Lib.hid (HLr.out.below HB4.out (by have := HLr.out.size; omega))
      have hl4 := HL.out.size
      go_wp2_with fail
      refine (callsIn_wide.1 (all_in w4 b w3.heap.size (by have := HX.out; omega) Sha.start (Sha.pad bs) (Sha.pad_length bs hl) HRb4.out HL4.out HS4.out HR4.out (by have := HRb.out.lt; have := HB3.out.size; omega))).mono ?_
      rintro e w5 ⟨⟨v, rfl, hown⟩, hg5⟩
      obtain ⟨A5, c5, rfl, hrow5, _⟩ := row_of_own hown
      obtain ⟨g5, rfl, hg50, hg51, hg52, _⟩ := own_there hown (by omega)
      have hc32 := hrow5.2.1
      have HG5 := Lib.hid hg5
      have HTz := Lib.hid (show w5.there w.heap.size 0 32 by
        have h1 := there_below HTr.out HB4.out (by have := HRb.out.lt; have := HX.out; omega)
        exact there_keepb h1 (hg5.block w.heap.size (by have := HRb4.out.lt; have := HX.out; omega) (by have := HX.out; simp; omega)))
      have hld := load_b32 (Sha.out_length _) hg52
      have hst := store_b32 (Sha.out_length (shaSt (Sha.pad bs) Sha.start (chunks 3 3))) HTz.out
      have har : ∀ W, (Instr.arrayAt 129 (.slice (some ⟨g5, 0, none⟩) 32 c5)).run Tryd.prog W = .ok (.pointer (some ⟨g5, 0, none⟩)) W := fun W => run_arrayAt (w := W) (arr := 129) (e := 5) (n := 32) (a := _) (len := 32) (cap := c5) Tryd.underlying129 (Nat.le_refl _)
      have hfin := load_b32 (Sha.out_length (shaSt (Sha.pad bs) Sha.start (chunks 3 3))) (World.rangeAt_setCells_same w5 w.heap.size 0 (Lib.byteCells (Sha.out (shaSt (Sha.pad bs) Sha.start (chunks 3 3)))) (by rw [Lib.byteCells_length, Sha.out_length]; exact HTz.out))
      have HFIN := Lib.hid hfin
      have HBW := Lib.hid (show Below w.heap.size w w5 from (below_chain HBr.out HB4.out).grown HG5.out (by have := HBr.out.size; have := HB4.out.size; omega) (fun k e => by injection e with e; have := HX.out; omega))
      clear hown hrow5 hg5 hg52 hfin
      go_wp2_with fail
      refine bodyPost_ret (ret_cell rfl rfl (b32Var_run HFIN.out)) rfl ?_
      rw [sum_pad]
      exact ⟨rfl, below_setCells _ (Nat.le_refl _) _ _ _ HBW.out⟩
end Go.Proofs.YtbhjigejpdbeiaaDoor
