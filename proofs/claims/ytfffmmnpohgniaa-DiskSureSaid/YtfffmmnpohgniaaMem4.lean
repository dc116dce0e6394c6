/-
  A sector of a row is written.
-/
import Derived.Test.YtfffmmnpohgniaaFl
namespace Go.Proofs.Ytfffmmnpohgniaa
open Go.RowKit
set_option linter.unusedVariables false

theorem range_put_row {w : World} {b o : Nat} {l : List Sec} (h : w.rangeAt b o (secsC l)) {j : Nat} (hj : j < l.length) (ht : w.there b (o + j * 128) 128) (s : Sec) :
    (putSec w b (o + j * 128) s).rangeAt b o (secsC (l.set j s)) := by
  obtain ⟨P, Q, h1, h2, h3⟩ := flat_split (secs_len l) (j := j) (cs := secC l[j]) (by rw [List.getElem?_map, List.getElem?_eq_getElem hj]; rfl)
  have e : secsC (l.set j s) = P ++ secC s ++ Q := by rw [secsC, List.map_set]; exact h3 _
  have e0 : secsC l = P ++ secC l[j] ++ Q := h1
  rw [e]
  rw [e0] at h
  have hs := secC_length s
  have hl := secC_length l[j]
  intro i v hv
  by_cases c1 : i < P.length
  · have hv' : (P ++ secC l[j] ++ Q)[i]? = some v := by
      rw [List.append_assoc, List.getElem?_append_left c1] at hv ⊢; exact hv
    have := h i v hv'
    unfold putSec
    rw [World.cell?_setCells_out b _ _ w ⟨b, o + i, none⟩ (fun _ _ => Or.inl (by show o + i < o + j * 128; omega))]
    exact this
  · by_cases c2 : i < P.length + 128
    · have hv' : (secC s)[i - P.length]? = some v := by
        rw [List.append_assoc, List.getElem?_append_right (by omega), List.getElem?_append_left (by omega)] at hv; exact hv
      have := range_putSec ht s (i - P.length) v hv'
      rw [show o + j * 128 + (i - P.length) = o + i by omega] at this
      exact this
    · have hv' : (P ++ secC l[j] ++ Q)[i]? = some v := by
        rw [List.getElem?_append_right (by rw [List.length_append]; omega), List.length_append] at hv ⊢
        rw [hl]; rw [hs] at hv; exact hv
      have := h i v hv'
      unfold putSec
      rw [World.cell?_setCells_out b _ _ w ⟨b, o + i, none⟩ (fun _ _ => Or.inr (by show o + j * 128 + (secC s).length ≤ o + i; omega))]
      exact this
theorem disk_rows {w : World} {A A' : Option Addr} {n c n' c' : Nat} {f : Int} {dn : Bool} {d : Dk} (h : DiskAt w (.agg #[.slice A n c, .slice A' n' c', .int .i64 f, .bool dn]) d) :
    n = d.secs.length ∧ n' = d.loose.length ∧ RowOf w 128 A n c (secsC d.secs) ∧ RowOf w 129 A' n' c' (wrsC d.loose) ∧ f = d.fuse ∧ dn = d.down := by
  obtain ⟨_, _, _, _, _, _, q, k1, k2, r1, r2, _⟩ := h
  injection q with q
  injection q with q
  injection q with q1 q
  injection q with q2 q
  injection q with q3 q
  injection q with q4 q
  injection q1 with q11 q12 q13
  injection q2 with q21 q22 q23
  injection q3 with _ q3
  injection q4 with q4
  subst q11; subst q12; subst q13; subst q21; subst q22; subst q23
  exact ⟨k1, k2, r1, r2, q3, q4⟩
theorem there_row {w : World} {b o n : Nat} (h : w.there b o (n * 128)) {j : Nat} (hj : j < n) : w.there b (o + j * 128) 128 := by
  intro i hi
  have hle : j * 128 + 128 ≤ n * 128 := by omega
  have := h (j * 128 + i) (by omega)
  rwa [← Nat.add_assoc] at this
end Go.Proofs.Ytfffmmnpohgniaa
