/-
  Plain laws of disks: what is looked up.
-/
import Derived.Test.YtfffmmnpohgniaaDsk
namespace Go.Proofs.Ytfffmmnpohgniaa
namespace Dk
theorem lookL_none {i : Int} {l : List Wr} (h : ∀ x ∈ l, x.at_ ≠ i) : lookL i l = none := by
  induction l with
  | nil => rfl
  | cons x r ih =>
    rw [lookL, ih fun y hy => h y (List.mem_cons_of_mem _ hy)]
    exact if_neg (h x (List.mem_cons_self ..))
theorem lookL_some {i : Int} {l : List Wr} {k : Nat} {x : Wr} (hk : l[k]? = some x) (hx : x.at_ = i) (h : ∀ j y, k < j → l[j]? = some y → y.at_ ≠ i) : lookL i l = some x.data := by
  induction l generalizing k with
  | nil => simp at hk
  | cons y r ih =>
    cases k with
    | zero =>
      simp at hk; subst hk
      rw [lookL, lookL_none]
      · exact if_pos hx
      · intro z hz
        obtain ⟨j, hj⟩ := List.getElem?_of_mem hz
        exact h (j + 1) z (by omega) (by simpa using hj)
    | succ k =>
      rw [lookL, ih (k := k) (by simpa using hk) fun j y hj hy => h (j + 1) y (by omega) (by simpa using hy)]
theorem lookL_append (i : Int) (a b : List Wr) : lookL i (a ++ b) = match lookL i b with | some s => some s | none => lookL i a := by
  induction a with
  | nil => cases h : lookL i b <;> simp [h, lookL]
  | cons x r ih =>
    rw [List.cons_append, lookL, ih]
    cases h : lookL i b with
    | some s => simp
    | none => simp [lookL]
end Dk
end Go.Proofs.Ytfffmmnpohgniaa
