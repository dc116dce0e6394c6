/-
  Variables that hold disks; the fixed fact.
-/
import Derived.Test.YtbhjigejpdbeiaaDoorZRd
import Derived.Test.YtbhjigejpdbeiaaDoorZNw
import Derived.Test.YtbhjigejpdbeiaaDoorZWd
set_option linter.unusedSimpArgs false
set_option linter.unusedVariables false
namespace Go.Proofs.YtbhjigejpdbeiaaDoor
open Go.RowKit
set_option linter.unusedVariables false
set_option maxRecDepth 8000

/-! ### A disk's variable, whole -/
@[irreducible] def diskVar (a : Addr) : Sem Value := loadVar 25 a
@[irreducible] def diskSet (a : Addr) (v : Value) : Sem Unit := storeVar 25 a v
@[go_sem ↓] theorem diskVar_def (a : Addr) : loadVar 25 a = diskVar a := by unfold diskVar; rfl
@[go_sem ↓] theorem diskSet_def (a : Addr) (v : Value) : storeVar 25 a v = diskSet a v := by unfold diskSet; rfl
structure D4 (C : Array Value) : Prop where
  size : C.size = 4
  one : ∀ v ∈ C.toList, v.oneCell' = true
theorem DiskAt.agg {w : World} {v : Value} {d : Dk} (h : DiskAt w v d) : ∃ C, v = .agg C ∧ D4 C := by
  obtain ⟨A, n, c, A', n', c', rfl, _⟩ := h
  refine ⟨_, rfl, rfl, fun v hv => ?_⟩
  simp only [List.mem_cons, List.not_mem_nil, or_false] at hv
  rcases hv with rfl | rfl | rfl | rfl <;> rfl
/-- The variable at block b holds C. -/
structure DVar (w : World) (b : Nat) (C : Array Value) : Prop where
  lt : b < w.heap.size
  size : C.size = 4
  range : w.rangeAt b 0 C.toList
theorem DVar.below {w w' : World} {B b : Nat} {C : Array Value} (h : DVar w b C) (hb : Below B w w') (hB : b < B) : DVar w' b C :=
  ⟨Nat.lt_of_lt_of_le h.lt hb.size, h.size, range_below h.range hb hB⟩
theorem DVar.keepb {w w' : World} {b : Nat} {C : Array Value} (h : DVar w b C) (hs : w.heap.size ≤ w'.heap.size) (hk : w'.heap[b]? = w.heap[b]?) : DVar w' b C :=
  ⟨Nat.lt_of_lt_of_le h.lt hs, h.size, range_keepb h.range hk⟩
theorem DVar.load {w : World} {b : Nat} {C : Array Value} (h : DVar w b C) : (diskVar ⟨b, 0, none⟩).run Tryd.prog w = .ok (.agg C) w := by
  unfold diskVar
  have := run_loadVar_mid w b 0 25 C.toList _ h.range Tryd.underlying25 rfl (by rw [sizeDisk, Array.length_toList, h.size])
  simpa using this
theorem dvar_new (w : World) {C : Array Value} (h : D4 C) : DVar (w.alloc (.cells C 25)) w.heap.size C :=
  ⟨by simp, h.size, by have := range_new w C.toList 25; simpa using this⟩
theorem there_disk (w : World) {C : Array Value} (h : D4 C) : (w.alloc (.cells C 25)).there w.heap.size 0 4 := by
  have := there_new w C.toList 25
  rw [Array.length_toList, h.size] at this
  simpa using this
def putDisk (w : World) (b : Nat) (C : Array Value) : World := w.setCells b 0 C.toList
theorem store_disk {w : World} {b : Nat} {C : Array Value} (ht : w.there b 0 4) (h : D4 C) : (diskSet ⟨b, 0, none⟩ (.agg C)).run Tryd.prog w = .ok () (putDisk w b C) := by
  unfold diskSet
  have := run_storeVar_mid (P := Tryd.prog) w b 0 25 C (by rw [h.size]; exact ht) (by rw [sizeDisk, h.size]) (by
    have := all_oneCell_toArray (cs := C.toList) h.one
    rwa [Array.toArray_toList] at this)
  exact this
theorem dvar_put {w : World} {b : Nat} {C : Array Value} (hlt : b < w.heap.size) (ht : w.there b 0 4) (h : D4 C) : DVar (putDisk w b C) b C :=
  ⟨by rw [putDisk, size_setCells]; exact hlt, h.size, World.rangeAt_setCells_same w b 0 C.toList (by rw [Array.length_toList, h.size]; exact ht)⟩
theorem heap_putDisk (w : World) (b : Nat) (C : Array Value) (k : Nat) (hk : k ≠ b) : (putDisk w b C).heap[k]? = w.heap[k]? := heap_setCells b k hk _ _ _
theorem size_putDisk (w : World) (b : Nat) (C : Array Value) : (putDisk w b C).heap.size = w.heap.size := size_setCells _ _ _ _
theorem below_putDisk {B : Nat} {a w : World} (h : Below B a w) {b : Nat} (hb : B ≤ b) (C : Array Value) : Below B a (putDisk w b C) := below_setCells b hb _ _ _ h
@[go_sem] theorem load_disk_new (w : World) (C : Array Value) (h : D4 C) : (diskVar ⟨w.heap.size, 0, none⟩).run Tryd.prog (w.alloc (.cells C 25)) = .ok (.agg C) (w.alloc (.cells C 25)) := (dvar_new w h).load
@[go_sem] theorem store_disk_new (w : World) (C : Array Value) (h : D4 C) : (diskSet ⟨w.heap.size, 0, none⟩ (.agg C)).run Tryd.prog (w.alloc (.cells #[.slice none 0 0, .slice none 0 0, .int .i64 0, .bool false] 25)) = .ok () (w.alloc (.cells C 25)) := by
  have hz : D4 #[.slice none 0 0, .slice none 0 0, .int .i64 0, .bool false] := ⟨rfl, fun v hv => by
    simp only [List.mem_cons, List.not_mem_nil, or_false] at hv
    rcases hv with rfl | rfl | rfl | rfl <;> rfl⟩
  rw [store_disk (there_disk w hz) h, putDisk]
  have := setCells_new 25 w C.toList [] [.slice none 0 0, .slice none 0 0, .int .i64 0, .bool false] (by rw [Array.length_toList, h.size]; exact Nat.le_refl _)
  simp only [List.nil_append, List.length_nil] at this
  rw [this, List.drop_eq_nil_of_le (by show 4 ≤ C.toList.length; rw [Array.length_toList, h.size]; exact Nat.le_refl _), List.append_nil]
/-- A disk in a variable stays what it is where nothing of it is written. -/
theorem DiskAt.keep {w w' : World} {v : Value} {d : Dk} (h : DiskAt w v d) {b : Nat} (hc : Clear b v) (hs : w.heap.size ≤ w'.heap.size) (hk : ∀ q, q < w.heap.size → q ≠ b → w'.heap[q]? = w.heap[q]?) : DiskAt w' v d := by
  obtain ⟨A, n, c, A', n', c', rfl, h3, h4, h5, h6, h7⟩ := h
  obtain ⟨k1, k2⟩ := hc _ _ _ _ _ _ _ _ rfl
  exact ⟨A, n, c, A', n', c', rfl, h3, h4, h5.keep hs (fun x hx h0 hl => hk _ hl (k1 x hx h0)), h6.keep hs (fun x hx h0 hl => hk _ hl (k2 x hx h0)), h7⟩
@[go_sem] theorem store_sec_new (w : World) (s t : Sec) : (secSet ⟨w.heap.size, 0, none⟩ (secV s)).run Tryd.prog (w.alloc (secO t)) = .ok () (w.alloc (secO s)) := by
  have ht : (w.alloc (secO t)).there w.heap.size 0 128 := by have := there_new w (secC t) 81; rwa [secC_length] at this
  rw [store_sec ht, putSec]
  have := setCells_new 81 w (secC s) [] (secC t) (by rw [secC_length, secC_length]; exact Nat.le_refl _)
  simp only [List.nil_append, List.length_nil] at this
  rw [this, List.drop_eq_nil_of_le (by rw [secC_length, secC_length]; exact Nat.le_refl _), List.append_nil]
@[go_sem] theorem load_sec_new (w : World) (s : Sec) : (secVar ⟨w.heap.size, 0, none⟩).run Tryd.prog (w.alloc (secO s)) = .ok (secV s) (w.alloc (secO s)) := load_secVar (range_new w (secC s) 81)

/-! ### The fixed fact -/
def sec4 : Sec := ⟨[1, 2, 3, 4] ++ List.replicate 124 0, by simp⟩
def sec3 : Sec := ⟨[1, 2, 3] ++ List.replicate 125 0, by simp⟩
@[go_sem] theorem run_secMade4 (w : World) : (secMade #[(0, .int .u8 1), (1, .int .u8 2), (2, .int .u8 3), (3, .int .u8 4)]).run Tryd.prog w = .ok (secV sec4) w := by
  rw [secMade]
  exact run_build w 81 _ _ (by kernel_rfl)
@[go_sem] theorem run_secMade3 (w : World) : (secMade #[(0, .int .u8 1), (1, .int .u8 2), (2, .int .u8 3)]).run Tryd.prog w = .ok (secV sec3) w := by
  rw [secMade]
  exact run_build w 81 _ _ (by kernel_rfl)
theorem alive_plain : (Dk.new 2).2 = 0 ∧ ((Dk.new 2).1.write 1 sec4).2 = 0 ∧ (((Dk.new 2).1.write 1 sec4).1.fall [(2, 3)] (-1)).2 = 0 ∧ (((Dk.new 2).1.write 1 sec4).1.fall [(2, 3)] (-1)).1.read 1 = (sec3, 0) := by decide +kernel

end Go.Proofs.YtbhjigejpdbeiaaDoor
