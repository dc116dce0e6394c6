/-
  What came in, read as disks, sectors, fates.
-/
import Derived.Test.YtbhjigejpdbeiaaDoorZFa
import Derived.OpenShut
import Derived.Deep.Slices
import Derived.Lib.SmallJoins
import Derived.WideShapes
set_option linter.unusedSimpArgs false
set_option linter.unusedVariables false
namespace Go.Proofs.YtbhjigejpdbeiaaDoor
open Go.ChangeShapes Go.WideShapes Go.RowKit Go.Deep
set_option linter.unusedVariables false
set_option maxRecDepth 100000

theorem flat_get {L : List (List Value)} {sz : Nat} (h : ∀ x ∈ L, x.length = sz) {j : Nat} {v : Value} (hj : L.flatten[j]? = some v) : ∃ i r cs, j = i * sz + r ∧ r < sz ∧ L[i]? = some cs ∧ cs[r]? = some v := by
  induction L generalizing j with
  | nil => simp at hj
  | cons x l ih =>
    have hx := h x (List.mem_cons_self ..)
    rw [List.flatten_cons] at hj
    by_cases c : j < x.length
    · rw [List.getElem?_append_left c] at hj
      exact ⟨0, j, x, by omega, by omega, rfl, hj⟩
    · rw [List.getElem?_append_right (by omega)] at hj
      obtain ⟨i, r, cs, h1, h2, h3, h4⟩ := ih (fun y hy => h y (List.mem_cons_of_mem _ hy)) hj
      exact ⟨i + 1, r, cs, by rw [Nat.succ_mul]; omega, h2, by simpa using h3, h4⟩

section
variable {H : Type} {enc : TypeId × Value → H} {w : World} {base : Nat} {spare : Nat → Bool} {held : Bool}

theorem rows_of_trod {α : Type} (z0 : α) (cell : α → List Value) (sz : Nat) {T e : TypeId} (hT : Tryd.prog.underlying T = some (.slice e)) (hsz : Tryd.prog.cellsOf e = sz) (h0 : 0 < sz) (hlen : ∀ a, (cell a).length = sz)
    (hel : ∀ (fuel : Nat) (cs : List Value) (x : DataW H × List MemPlace), DataW.trod enc Tryd.prog w base spare held fuel e cs = some x → ∃ a, cs = cell a)
    {fuel : Nat} {v : Value} {x : DataW H × List MemPlace} (h : DataW.trod enc Tryd.prog w base spare held fuel T [v] = some x) :
    ∃ A n c, ∃ l : List α, v = .slice A n c ∧ n = l.length ∧ RowOf w sz A n c ((l.map cell).flatten) := by
  rcases open_slice hT h with ⟨h1, _⟩ | ⟨a, len, cap, m, n, D, Pl, h1, hb, hl, hm, hmm, _, hi⟩
  · injection h1 with h1
    subst h1
    exact ⟨none, 0, 0, [], rfl, rfl, by simp, by omega, by omega, fun _ => rfl, fun x hx => by cases hx⟩
  · injection h1 with h1
    subst h1
    have hlm : len ≤ m := by rw [hmm]; split <;> omega
    have : Inhabited α := ⟨z0⟩
    obtain ⟨f, hf⟩ := choose_lt (α := α) (p := fun i z => w.cells? base (a.add (i * sz)) sz = some (cell z)) (n := len) (fun i hi' => by
      obtain ⟨cs', k1, k2⟩ := hi i (by omega)
      obtain ⟨z, rfl⟩ := hel _ _ _ k2
      rw [hsz] at k1
      exact ⟨z, k1⟩)
    refine ⟨some a, len, cap, (List.range len).map f, rfl, by simp, ?_, hl, by simpa [maxLen] using hm, (fun h => by cases h), fun y hy hp => ?_⟩
    · rw [flat_length (sz := sz)]
      · simp
      · intro y hy
        simp only [List.mem_map] at hy
        obtain ⟨z, _, rfl⟩ := hy
        exact hlen z
    · injection hy with hy
      subst hy
      have hcell : ∀ i r, i < len → r < sz → w.cell? (a.add (i * sz + r)) = (cell (f i))[r]? := fun i r h1 h2 => by
        obtain ⟨_, _, k3⟩ := World.cells?_some (hf i h1)
        rw [← k3 r h2, add_add]
      have c0 := hcell 0 0 hp h0
      rw [List.getElem?_eq_getElem (by rw [hlen]; exact h0)] at c0
      obtain ⟨b, o, sp⟩ := a
      have hspot : sp = none := by simpa [Addr.add] using World.cell?_spot c0
      subst hspot
      refine ⟨rfl, World.block_lt_of_cell? w ⟨b, o, none⟩ (by simpa [Addr.add] using c0), fun j u hu => ?_⟩
      obtain ⟨i, r, cs, rfl, k2, k3, k4⟩ := flat_get (sz := sz) (by
        intro y hy
        simp only [List.mem_map] at hy
        obtain ⟨z, _, rfl⟩ := hy
        exact hlen z) hu
      have hil : i < len := by
        have := (List.getElem?_eq_some_iff.1 k3).1
        simpa using this
      have := hcell i r hil k2
      rw [add_none] at this
      rw [this]
      have : cs = cell (f i) := by
        simp [hil] at k3
        exact k3.symm
      rw [← this, k4]

theorem fate_of_trod {fuel : Nat} {cs : List Value} {x : DataW H × List MemPlace} (h : DataW.trod enc Tryd.prog w base spare held fuel 91 cs = some x) : ∃ f : UInt8 × UInt8, cs = fateC f := by
  obtain ⟨xs, m, _, _, hl, hxl, hi⟩ := DataW.trod_struct Tryd.underlying91 h
  have hl : cs.length = 2 := hl.trans (by kernel_rfl)
  have c0 : Tryd.prog.cellsOf 5 = 1 := by kernel_rfl
  have hxl2 : xs.length = 2 := hxl
  have h0 : DataW.trod enc Tryd.prog w base spare held m 5 ((cs.drop 0).take (Tryd.prog.cellsOf 5)) = xs[0]? := hi 0 _ rfl
  have h1 : DataW.trod enc Tryd.prog w base spare held m 5 ((cs.drop 1).take (Tryd.prog.cellsOf 5)) = xs[1]? := hi 1 _ rfl
  rw [c0, List.getElem?_eq_getElem (by omega)] at h0 h1
  obtain ⟨n, q1, _, k1⟩ := DataW.trod_int Tryd.underlying5 h0
  obtain ⟨n', q2, _, k2⟩ := DataW.trod_int Tryd.underlying5 h1
  have b1 : 0 ≤ n ∧ n ≤ 255 := by simpa [Lit.wf, IntKind.min, IntKind.max, IntKind.signed, IntKind.bits] using k1
  have b2 : 0 ≤ n' ∧ n' ≤ 255 := by simpa [Lit.wf, IntKind.min, IntKind.max, IntKind.signed, IntKind.bits] using k2
  refine ⟨(UInt8.ofNat n.toNat, UInt8.ofNat n'.toNat), ?_⟩
  have e : cs = (cs.drop 0).take 1 ++ (cs.drop 1).take 1 := by
    rw [List.drop_zero, List.take_of_length_le (l := cs.drop 1) (by rw [List.length_drop]; omega), List.take_append_drop]
  have e1 : ((UInt8.ofNat n.toNat).toNat : Int) = n := by simp only [UInt8.toNat_ofNat']; omega
  have e2 : ((UInt8.ofNat n'.toNat).toNat : Int) = n' := by simp only [UInt8.toNat_ofNat']; omega
  rw [e, q1, q2]
  simp only [fateC, e1, e2]
  rfl

theorem fates_of_trod {fuel : Nat} {v : Value} {x : DataW H × List MemPlace} (h : DataW.trod enc Tryd.prog w base spare held fuel 55 [v] = some x) : ∃ l, FatesAt w v l := by
  obtain ⟨A, m, c, l, rfl, hn, hr⟩ := rows_of_trod ((0, 0) : UInt8 × UInt8) fateC 2 Tryd.underlying55 (by kernel_rfl) (by decide) (fun _ => rfl) (fun _ _ _ h => fate_of_trod h) h
  exact ⟨l, A, m, c, rfl, hn, hr⟩
end
end Go.Proofs.YtbhjigejpdbeiaaDoor
