/-
  What stays where a block is not written.
-/
import Derived.Test.YtbhjigejpdbeiaaDoorZKCp
import Derived.Test.YtbhjigejpdbeiaaDoorZMk
set_option linter.unusedSimpArgs false
set_option linter.unusedVariables false
namespace Go.Proofs.YtbhjigejpdbeiaaDoor
open Go.RowKit
set_option linter.unusedVariables false

theorem heap_setCells (b : Nat) (k : Nat) (hk : k ≠ b) : ∀ (vs : List Value) (o : Nat) (w : World), (w.setCells b o vs).heap[k]? = w.heap[k]?
  | [], _, _ => rfl
  | v :: r, o, w => by rw [World.setCells, heap_setCells b k hk r, Below.heap_setCell _ _ _ _ hk]
theorem heap_putSec (w : World) (b o : Nat) (s : Sec) (k : Nat) (hk : k ≠ b) : (putSec w b o s).heap[k]? = w.heap[k]? := heap_setCells b k hk _ _ _
theorem Var.keepb {w w' : World} {b n c n' c' : Nat} {A A' : Option Addr} {f : Int} {dn : Bool} (h : Var w b A A' n c n' c' f dn) (hs : w.heap.size ≤ w'.heap.size) (hk : w'.heap[b]? = w.heap[b]?) : Var w' b A A' n c n' c' f dn :=
  ⟨Nat.lt_of_lt_of_le h.lt hs, (World.cell?_of_block (w := w) (a := ⟨b, 0, none⟩) hk).trans h.c0, (World.cell?_of_block (w := w) (a := ⟨b, 1, none⟩) hk).trans h.c1, (World.cell?_of_block (w := w) (a := ⟨b, 2, none⟩) hk).trans h.c2, (World.cell?_of_block (w := w) (a := ⟨b, 3, none⟩) hk).trans h.c3⟩
theorem Free.keepb {w w' : World} {b : Nat} (h : Free w b) (hk : w'.heap[b]? = w.heap[b]?) : Free w' b :=
  ⟨(World.frozen?_of_block (w := w) (a := ⟨b, 0, none⟩) hk).trans h.f0, (World.frozen?_of_block (w := w) (a := ⟨b, 1, none⟩) hk).trans h.f1, (World.frozen?_of_block (w := w) (a := ⟨b, 2, none⟩) hk).trans h.f2, (World.frozen?_of_block (w := w) (a := ⟨b, 3, none⟩) hk).trans h.f3⟩
theorem range_keepb {w w' : World} {b o : Nat} {cs : List Value} (h : w.rangeAt b o cs) (hk : w'.heap[b]? = w.heap[b]?) : w'.rangeAt b o cs :=
  fun j v hv => (World.cell?_of_block (w := w) (a := ⟨b, o + j, none⟩) hk).trans (h j v hv)
theorem there_keepb {w w' : World} {b o n : Nat} (h : w.there b o n) (hk : w'.heap[b]? = w.heap[b]?) : w'.there b o n := by
  intro j hj
  rw [World.cell?_of_block (w := w) (a := ⟨b, o + j, none⟩) hk, World.frozen?_of_block (w := w) (a := ⟨b, o + j, none⟩) hk]
  exact h j hj
attribute [go_sem] zeroValue_wr
theorem streams_setCells (b : Nat) : ∀ (vs : List Value) (o : Nat) (w : World), (w.setCells b o vs).os = w.os ∧ (w.setCells b o vs).tape = w.tape ∧ (w.setCells b o vs).output = w.output
  | [], _, _ => ⟨rfl, rfl, rfl⟩
  | v :: r, o, w => by
    rw [World.setCells]
    obtain ⟨h1, h2, h3⟩ := streams_setCells b r (o + 1) (w.setCell ⟨b, o, none⟩ v)
    exact ⟨h1, h2, h3⟩
theorem foldl_put_length (l : List Wr) (s : List Sec) : (l.foldl Dk.put s).length = s.length := by
  induction l generalizing s with
  | nil => rfl
  | cons x r ih => rw [List.foldl_cons, ih, Dk.put, List.length_set]
theorem take_foldl_put (l : List Wr) (s : List Sec) (k : Nat) (x : Wr) (hx : l[k]? = some x) : (l.take (k + 1)).foldl Dk.put s = Dk.put ((l.take k).foldl Dk.put s) x := by
  rw [List.take_add_one, hx, List.foldl_append]; rfl
end Go.Proofs.YtbhjigejpdbeiaaDoor
