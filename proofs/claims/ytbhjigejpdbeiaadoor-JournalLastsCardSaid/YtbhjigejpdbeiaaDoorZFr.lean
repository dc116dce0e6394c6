/-
  Fall of the reference.
-/
import Derived.Test.YtbhjigejpdbeiaaDoorZFa
import Derived.BigRegion
import Derived.Deep.RegionHeld3
import Derived.Deep.DeepCutAuto
set_option linter.unusedSimpArgs false
set_option linter.unusedVariables false
namespace Go.Proofs.YtbhjigejpdbeiaaDoor
open Go.RowKit
set_option linter.unusedVariables false
set_option maxRecDepth 8000

theorem lands_none (l : List Wr) (s : List Sec) (i : Nat) : Dk.lands [] s l i = s := by
  induction l generalizing i with
  | nil => rfl
  | cons x r ih => simp [Dk.lands, Dk.land, ih]

abbrev fate0 : Obj := .cells #[.int .u8 0, .int .u8 0] 91
theorem setCells_new (t : TypeId) (w : World) : ∀ (vs P Q : List Value), vs.length ≤ Q.length → (w.alloc (.cells (P ++ Q).toArray t)).setCells w.heap.size P.length vs = w.alloc (.cells (P ++ vs ++ Q.drop vs.length).toArray t)
  | [], P, Q, _ => by simp [World.setCells]
  | v :: r, P, q :: Q, h => by
    rw [World.setCells, World.setCell_alloc_at _ _ _ _ _ rfl]
    have e : (P ++ q :: Q).toArray.setIfInBounds P.length v = ((P ++ [v]) ++ Q).toArray := by
      apply Array.toList_inj.1
      simp
    have := setCells_new t w r (P ++ [v]) Q (by simpa using h)
    rw [List.length_append] at this
    rw [e]
    refine this.trans ?_
    simp
  | v :: r, P, [], h => by simp at h
theorem setCells_past (o : Obj) (b : Nat) : ∀ (vs : List Value) (i : Nat) (w : World), b < w.heap.size → (w.alloc o).setCells b i vs = (w.setCells b i vs).alloc o
  | [], _, _, _ => rfl
  | v :: r, i, w, h => by
    rw [World.setCells, World.setCell_alloc_past _ _ _ _ h, setCells_past o b r (i + 1) _ (by rw [size_set]; exact h), World.setCells]
theorem setCells_drew (b : Nat) : ∀ (vs : List Value) (i : Nat) (w : World), w.drew.setCells b i vs = (w.setCells b i vs).drew
  | [], _, _ => rfl
  | v :: r, i, w => by rw [World.setCells, World.setCell_drew, setCells_drew b r, World.setCells]
theorem putWr_new (w : World) (z x : Wr) : putWr (w.alloc (wrO z)) w.heap.size 0 x = w.alloc (wrO x) := by
  have := setCells_new 83 w (wrC x) [] (wrC z) (by rw [wrC_length, wrC_length]; exact Nat.le_refl _)
  simp only [List.nil_append, List.length_nil] at this
  rw [putWr, this, List.drop_eq_nil_of_le (by rw [wrC_length, wrC_length]; exact Nat.le_refl _), List.append_nil]
theorem there_wr (w : World) (z : Wr) : (w.alloc (wrO z)).there w.heap.size 0 129 := by have := there_new w (wrC z) 83; rwa [wrC_length] at this
theorem store_new1 (w : World) (z x : Wr) (o : Obj) : (wrSet ⟨w.heap.size, 0, none⟩ (wrV x)).run Tryd.prog ((w.alloc (wrO z)).alloc o).drew = .ok () ((w.alloc (wrO x)).alloc o).drew := by
  have h1 : ((w.alloc (wrO z)).alloc o).drew.there w.heap.size 0 129 := there_below (there_wr w z) ((Below.refl _ _).alloc (Nat.le_refl _) o).drew (by simp)
  have := store_wr h1 x
  rw [putWr, setCells_drew, setCells_past _ _ _ _ _ (by simp)] at this
  have e := putWr_new w z x
  rw [putWr] at e
  rw [e] at this
  exact this
theorem store_new2 (w : World) (z x : Wr) (o : Obj) : (wrSet ⟨w.heap.size + 1, 0, none⟩ (wrV x)).run Tryd.prog ((w.alloc o).alloc (wrO z)).drew = .ok () ((w.alloc o).alloc (wrO x)).drew := by
  have h1 : ((w.alloc o).alloc (wrO z)).drew.there (w.heap.size + 1) 0 129 := by
    have := there_wr (w.alloc o) z
    rw [size_alloc] at this
    exact this
  have := store_wr h1 x
  have e := putWr_new (w.alloc o) z x
  rw [putWr, size_alloc] at e
  rw [putWr, setCells_drew, e] at this
  exact this
theorem torn_all (a b : Sec) : Dk.torn a b 128 = a := by
  apply Subtype.ext
  show a.1.take 128 ++ b.1.drop 128 = a.1
  rw [List.take_of_length_le (by rw [a.2]; exact Nat.le_refl _), List.drop_eq_nil_of_le (by rw [b.2]; exact Nat.le_refl _), List.append_nil]
theorem torn_none (a b : Sec) : Dk.torn a b 0 = b := by
  apply Subtype.ext
  show a.1.take 0 ++ b.1.drop 0 = b.1
  simp
theorem set_same (l : List Sec) (i : Nat) (s : Sec) (h : l[i]? = some s) : l.set i s = l := by
  apply List.ext_getElem?
  intro j
  rw [List.getElem?_set]
  split
  · subst_vars
    split
    · exact h.symm
    · rename_i hn; rw [List.getElem?_eq_none (by omega)]
  · rfl
end Go.Proofs.YtbhjigejpdbeiaaDoor
