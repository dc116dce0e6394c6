/-
  Two new variables go back into the old ones, in any order of loads.
-/
import Derived.Test.YtbhjigejpdbeiaaDoorKLp
set_option linter.unusedSimpArgs false
set_option linter.unusedVariables false
namespace Go.Proofs.YtbhjigejpdbeiaaDoor
open Go.RowKit Go.Shelf
set_option linter.unusedVariables false
set_option maxRecDepth 8000

/-- Two new variables go back into the old ones, in any order of loads. -/
theorem turn_region {W : World} {b7 b9 a b : Nat} {C : Array Value} {l0 l : Dk.Log} (hT : W.there b7 0 4) (hG : LogAt W b9 l0) (h4 : D4 C) (hv : DVar W a C) (hl : LogAt W b l) (h79 : b7 ≠ b9) (ha : a ≠ b7 ∧ a ≠ b9) (hb : b ≠ b7 ∧ b ≠ b9) :
    ((diskVar ⟨a, 0, none⟩).run Tryd.prog W.drew = .ok (.agg C) W.drew ∧ (logVar ⟨b, 0, none⟩).run Tryd.prog W.drew = .ok (logV l) W.drew) ∧
    ((diskVar ⟨a, 0, none⟩).run Tryd.prog (putDisk W.drew b7 C) = .ok (.agg C) (putDisk W.drew b7 C) ∧ (logVar ⟨b, 0, none⟩).run Tryd.prog (putDisk W.drew b7 C) = .ok (logV l) (putDisk W.drew b7 C)) ∧
    ((diskVar ⟨a, 0, none⟩).run Tryd.prog (putLog (putDisk W.drew b7 C) b9 l) = .ok (.agg C) (putLog (putDisk W.drew b7 C) b9 l) ∧ (logVar ⟨b, 0, none⟩).run Tryd.prog (putLog (putDisk W.drew b7 C) b9 l) = .ok (logV l) (putLog (putDisk W.drew b7 C) b9 l)) ∧
    (diskSet ⟨b7, 0, none⟩ (.agg C)).run Tryd.prog W.drew = .ok () (putDisk W.drew b7 C) ∧ (logSet ⟨b9, 0, none⟩ (logV l)).run Tryd.prog (putDisk W.drew b7 C) = .ok () (putLog (putDisk W.drew b7 C) b9 l) ∧
    Hid (DVar (putLog (putDisk W.drew b7 C) b9 l) b7 C ∧ (putLog (putDisk W.drew b7 C) b9 l).there b7 0 4 ∧ LogAt (putLog (putDisk W.drew b7 C) b9 l) b9 l) := by
  have hb0 : Below W.heap.size W W.drew := (Below.refl _ _).drew
  have hv0 : DVar W.drew a C := hv.below hb0 hv.lt
  have hl0 := hl.on hb0 hl.lt
  have hT0 : W.drew.there b7 0 4 := hT
  have hG0 : W.drew.there b9 0 3 := hG.there
  have hv1 : DVar (putDisk W.drew b7 C) a C := hv0.keepb (by rw [size_putDisk]; exact Nat.le_refl _) (heap_putDisk _ _ _ _ ha.1)
  have hl1 : LogAt (putDisk W.drew b7 C) b l := hl0.keepb (heap_putDisk _ _ _ _ hb.1)
  have hv2 : DVar (putLog (putDisk W.drew b7 C) b9 l) a C := hv1.keepb (by rw [size_putLog]; exact Nat.le_refl _) (heap_putLog _ _ _ _ ha.2)
  have hl2 : LogAt (putLog (putDisk W.drew b7 C) b9 l) b l := hl1.keepb (heap_putLog _ _ _ _ hb.2)
  have hT1 : (putDisk W.drew b7 C).there b7 0 4 := there_putDisk hT0 _ _
  have hG1 : (putDisk W.drew b7 C).there b9 0 3 := there_putDisk hG0 _ _
  have hd1 : DVar (putDisk W.drew b7 C) b7 C := dvar_put (there_lt hT0 (by decide)) hT0 h4
  exact ⟨⟨hv0.load, hl0.load⟩, ⟨hv1.load, hl1.load⟩, ⟨hv2.load, hl2.load⟩, store_disk hT0 h4, store_log hG1 l,
    Lib.hid ⟨hd1.keepb (by rw [size_putLog]; exact Nat.le_refl _) (heap_putLog _ _ _ _ h79), there_putLog hT1 _ _, logAt_put hG1 l⟩⟩
end Go.Proofs.YtbhjigejpdbeiaaDoor
