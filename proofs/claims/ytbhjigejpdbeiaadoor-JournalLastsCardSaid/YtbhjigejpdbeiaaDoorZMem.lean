/-
  Words on memory for disks: sectors and writes as values, rows of them in memory, and the runs of the operations on them.
-/
import Derived.Test.YtbhjigejpdbeiaaDoorRows
import Derived.Test.YtbhjigejpdbeiaaDoorZKDsk
import Derived.WalkKit
import Derived.Laws.OwnMore
import Derived.Deep.Draws
import Derived.Deep.MidRow
import Derived.Deep.WholeRow
import Derived.Lib.Hide
set_option linter.unusedSimpArgs false
set_option linter.unusedVariables false
namespace Go.Proofs.YtbhjigejpdbeiaaDoor
open Go.RowKit
set_option linter.unusedVariables false

/-! ### Values -/
def secC (s : Sec) : List Value := Lib.byteCells s.1
theorem secC_length (s : Sec) : (secC s).length = 128 := by rw [secC, Lib.byteCells_length, s.2]
abbrev secV (s : Sec) : Value := .agg (secC s).toArray
def wrC (x : Wr) : List Value := .int .i64 x.at_ :: secC x.data
theorem wrC_length (x : Wr) : (wrC x).length = 129 := by simp [wrC, secC_length]
abbrev wrV (x : Wr) : Value := .agg (wrC x).toArray
/-- A new block of a sector, of a write. -/
abbrev secO (s : Sec) : Obj := .cells (secC s).toArray 81
abbrev wrO (x : Wr) : Obj := .cells (wrC x).toArray 83

theorem secC_one (s : Sec) : ∀ v ∈ secC s, v.oneCell' = true := by
  intro v hv
  simp only [secC, Lib.byteCells, List.mem_map] at hv
  obtain ⟨u, _, rfl⟩ := hv
  rfl
theorem wrC_one (x : Wr) : ∀ v ∈ wrC x, v.oneCell' = true := by
  intro v hv
  rcases List.mem_cons.1 hv with rfl | h
  · rfl
  · exact secC_one _ v h

theorem sizeSector : (Tryd.prog.info? 81).map (·.size) = some 128 := by kernel_rfl
theorem sizeWrite : (Tryd.prog.info? 83).map (·.size) = some 129 := by kernel_rfl
theorem zeroSector : (Tryd.prog.info? 81).map (fun i => (i.zero, i.size)) = some (some (secV zeroSec), 128) := by kernel_rfl

/-! ### What lies in memory -/
theorem range_below {w w' : World} {B b o : Nat} {cs : List Value} (h : w.rangeAt b o cs) (hb : Below B w w') (hB : b < B) : w'.rangeAt b o cs :=
  fun j v hv => (hb.cell (p := ⟨b, o + j, none⟩) hB).trans (h j v hv)
theorem range_sub {w : World} {b o : Nat} {xs ys zs : List Value} (h : w.rangeAt b o (xs ++ ys ++ zs)) : w.rangeAt b (o + xs.length) ys := by
  intro j v hv
  rw [Nat.add_assoc]
  refine h (xs.length + j) v ?_
  have hj := (List.getElem?_eq_some_iff.1 hv).1
  rw [List.append_assoc, List.getElem?_append_right (by omega), Nat.add_sub_cancel_left, List.getElem?_append_left hj, hv]
theorem range_drewN {w : World} {b o : Nat} {cs : List Value} (h : w.rangeAt b o cs) (n : Nat) : (w.drewN n).rangeAt b o cs := h

/-! ### The walk's words: these keep it from opening a sector's cells. -/
@[go_sem] theorem wrC_at (x : Wr) : (wrC x).toArray[0]? = some (.int .i64 x.at_) := rfl
@[go_sem] theorem wrC_at' (x : Wr) : (wrC x)[0]? = some (.int .i64 x.at_) := rfl
@[irreducible] def secVar (a : Addr) : Sem Value := loadVar 81 a
@[irreducible] def secSet (a : Addr) (v : Value) : Sem Unit := storeVar 81 a v
@[irreducible] def wrVar (a : Addr) : Sem Value := loadVar 83 a
@[irreducible] def wrSet (a : Addr) (v : Value) : Sem Unit := storeVar 83 a v
@[irreducible] def secMade (parts : Array (Nat × Value)) : Sem Value := Instr.build 81 parts
@[irreducible] def wrMade (parts : Array (Nat × Value)) : Sem Value := Instr.build 83 parts
@[irreducible] def secsMade (n : Nat) (parts : Array (Nat × Value)) : Sem Value := Instr.buildSlice 22 n parts
@[irreducible] def wrsMade (n : Nat) (parts : Array (Nat × Value)) : Sem Value := Instr.buildSlice 23 n parts
@[go_sem ↓] theorem secVar_def (a : Addr) : loadVar 81 a = secVar a := by unfold secVar; rfl
@[go_sem ↓] theorem secSet_def (a : Addr) (v : Value) : storeVar 81 a v = secSet a v := by unfold secSet; rfl
@[go_sem ↓] theorem wrVar_def (a : Addr) : loadVar 83 a = wrVar a := by unfold wrVar; rfl
@[go_sem ↓] theorem wrSet_def (a : Addr) (v : Value) : storeVar 83 a v = wrSet a v := by unfold wrSet; rfl
@[go_sem ↓] theorem secMade_def (parts : Array (Nat × Value)) : Instr.build 81 parts = secMade parts := by unfold secMade; rfl
@[go_sem ↓] theorem wrMade_def (parts : Array (Nat × Value)) : Instr.build 83 parts = wrMade parts := by unfold wrMade; rfl
@[go_sem ↓] theorem secsMade_def (n : Nat) (parts : Array (Nat × Value)) : Instr.buildSlice 22 n parts = secsMade n parts := by unfold secsMade; rfl
@[go_sem ↓] theorem wrsMade_def (n : Nat) (parts : Array (Nat × Value)) : Instr.buildSlice 23 n parts = wrsMade n parts := by unfold wrsMade; rfl
@[go_sem] theorem zeroCells_sec : Tryd.zeroCells81 = (secC zeroSec).toArray := by kernel_rfl
@[go_sem] theorem zeroValue_sec (w : World) : (zeroValue 81).run Tryd.prog w = .ok (secV zeroSec) w := by
  obtain ⟨i, hi, hz⟩ : ∃ i, Tryd.prog.info? 81 = some i ∧ i.zero = some (secV zeroSec) := by
    have h := zeroSector
    cases hq : Tryd.prog.info? 81 with
    | none => rw [hq] at h; cases h
    | some i => rw [hq] at h; exact ⟨i, rfl, congrArg Prod.fst (Option.some.inj h)⟩
  simp [zeroValue, typeInfo, hi, hz]
theorem load_secVar {w : World} {b o : Nat} {s : Sec} (h : w.rangeAt b o (secC s)) : (secVar ⟨b, o, none⟩).run Tryd.prog w = .ok (secV s) w := by
  unfold secVar; exact run_loadVar_mid w b o 81 (secC s) (.array 128 5) h Tryd.underlying81 rfl (by rw [sizeSector, secC_length])
theorem load_wrVar {w : World} {b o : Nat} {x : Wr} (h : w.rangeAt b o (wrC x)) : (wrVar ⟨b, o, none⟩).run Tryd.prog w = .ok (wrV x) w := by
  unfold wrVar; exact run_loadVar_mid w b o 83 (wrC x) _ h Tryd.underlying83 rfl (by rw [sizeWrite, wrC_length])
end Go.Proofs.YtbhjigejpdbeiaaDoor
