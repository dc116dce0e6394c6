/-
  append of rows; rows that the call owns.
-/
import Derived.Test.YtbhjigejpdbeiaaDoorZKRt
import Derived.ArgAppend
import Derived.Laws.Cover3
set_option linter.unusedSimpArgs false
set_option linter.unusedVariables false
namespace Go.Proofs.YtbhjigejpdbeiaaDoor
open Go.RowKit
set_option linter.unusedVariables false

theorem info_parts {t : TypeId} {z : Value} {n b : Nat} (h : (Tryd.prog.info? t).map (fun i => (i.zero, i.size, i.bytes)) = some (some z, n, b)) : ∃ i, Tryd.prog.info? t = some i ∧ i.zero = some z ∧ i.size = n ∧ i.bytes = b := by
  cases hi : Tryd.prog.info? t with
  | none => simp [hi] at h
  | some i => simp [hi] at h; exact ⟨i, rfl, h.1, h.2.1, h.2.2⟩
def zeroWr : Wr := ⟨0, zeroSec⟩
@[go_sem] theorem zeroCells_wr : Tryd.zeroCells83 = (wrC zeroWr).toArray := by kernel_rfl
theorem infoSector : (Tryd.prog.info? 81).map (fun i => (i.zero, i.size, i.bytes)) = some (some (secV zeroSec), 128, 128) := by kernel_rfl
theorem infoWrite : (Tryd.prog.info? 83).map (fun i => (i.zero, i.size, i.bytes)) = some (some (wrV zeroWr), 129, 136) := by kernel_rfl
theorem add_none (b o j : Nat) : (⟨b, o, none⟩ : Addr).add j = ⟨b, o + j, none⟩ := by unfold Addr.add; split <;> simp_all

theorem append_row {w : World} {ops : Array Oper} {rest : List Oper} {o : Oper} {a : Act} {Q : Exit → Act → World → Prop} (hgd : o.guard = none) (s x : Operand) (T E : TypeId)
    (ho : o.op = .call { callee := .builtin .append, args := #[s, x], argTypes := #[T, T] }) (ht : Tryd.prog.underlying T = some (.slice E))
    (base : Nat) (z : Value) (size bytes : Nat) (hinf : (Tryd.prog.info? E).map (fun i => (i.zero, i.size, i.bytes)) = some (some z, size, bytes)) (hzs : z.cells.size = size) (hsz : 0 < size)
    (v : Value) (n : Nat) (xs : List Value) (hs : a.eval s = v) (hown : w.ownsRow base E size v n xs)
    (A : Option Addr) (m c : Nat) (X : List Value) (hx : a.eval x = .slice A m c) (hr : RowOf w size A m c X) (h1 : ∀ u ∈ X, u.oneCell' = true)
    (h63 : n + m ≤ 1000000) (hbytes : bytes ≤ 100000) (hbase : base ≤ w.heap.size)
    (h : ∀ v' w', w'.ownsRow base E size v' (n + m) (xs ++ X) → w.grownBy w' v.ownBlock → wpList Tryd.prog ops Q rest (a.put o.dst v') w') :
    wpList Tryd.prog ops Q (o :: rest) a w := by
  obtain ⟨i, hi, hz, hsize, hby⟩ := info_parts hinf
  obtain ⟨h2, h3, h4, h5, h6⟩ := hr
  cases A with
  | none =>
    have hc0 : c = 0 := h5 rfl
    subst hc0
    have hm0 : m = 0 := by omega
    subst hm0
    have hX : X = [] := List.eq_nil_of_length_eq_zero (by simpa using h2)
    subst hX
    refine wpList_append_own_none hgd s x T ho base E i size ht hi v n xs hs hown hx ?_
    refine h v w ?_ (World.grownBy.refl w _)
    simpa using hown
  | some ad =>
    refine wpList_append_own _ hgd s x T ho base E i z size bytes ht hi hz hsize hby hzs hsz v n xs hs hown ad m c X hx h2 ?_ h1 (by unfold maxLen; omega) (Nat.le_trans (Nat.mul_le_mul h63 hbytes) (by omega)) hbase (fun v' w' k1 k2 _ => h v' w' k1 k2)
    intro j u hj
    have hj' := (List.getElem?_eq_some_iff.1 hj).1
    have hm0 : 0 < m := by
      rcases Nat.eq_zero_or_pos m with h | h
      · subst h; simp at h2; subst h2; simp at hj'
      · exact h
    obtain ⟨k1, k2, k3⟩ := h6 ad rfl hm0
    obtain ⟨b, of, sp⟩ := ad
    obtain rfl : sp = none := k1
    rw [add_none]
    exact k3 j u hj

theorem row_of_own {w : World} {base n sz : Nat} {E : TypeId} {v : Value} {X : List Value} (h : w.ownsRow base E sz v n X) : ∃ A c, v = .slice A n c ∧ RowOf w sz A n c X ∧ ∀ x, A = some x → base ≤ x.block := by
  have hl := h.1
  rcases h.2 with ⟨rfl, h0⟩ | ⟨g, cap, cur, rfl, hb, hg, hc, hm, hs, ht⟩
  · subst h0
    exact ⟨none, 0, rfl, ⟨hl, by omega, by omega, fun _ => rfl, fun x hx _ => by cases hx⟩, fun x hx => by cases hx⟩
  · refine ⟨some ⟨g, 0, none⟩, cap, rfl, ⟨hl, hc, by simpa [maxLen] using hm, (fun h => by cases h), fun x hx _ => ?_⟩, fun x hx => by injection hx with hx; subst hx; exact hb⟩
    injection hx with hx; subst hx
    refine ⟨rfl, (Array.getElem?_eq_some_iff.1 hg).1, fun j u hu => ?_⟩
    have h1 := h.cells (g := g) rfl j u hu
    rw [add_none] at h1; exact h1

/-- What an owned row's cells allow. -/
theorem own_there {w : World} {base n sz : Nat} {E : TypeId} {A : Option Addr} {c : Nat} {X : List Value} (h : w.ownsRow base E sz (.slice A n c) n X) (hn : 0 < n) : ∃ g, A = some ⟨g, 0, none⟩ ∧ base ≤ g ∧ g < w.heap.size ∧ w.rangeAt g 0 X ∧ w.there g 0 (n * sz) := by
  rcases h.2 with ⟨_, h0⟩ | ⟨g, cap, cur, hv, hb, hg, hc, hm, hs, ht⟩
  · omega
  · injection hv with hv1 hv2 hv3
    subst hv1; subst hv3
    refine ⟨g, rfl, hb, (Array.getElem?_eq_some_iff.1 hg).1, fun j u hu => ?_, fun j hj => ?_⟩
    · have h1 := h.cells (g := g) rfl j u hu
      rw [add_none] at h1; exact h1
    · have hlt : j < X.length := by rw [h.1]; exact hj
      have h1 := h.cells (g := g) rfl j _ (List.getElem?_eq_getElem hlt)
      rw [add_none] at h1
      refine ⟨by rw [h1]; rfl, ?_⟩
      unfold World.frozen?
      dsimp only
      rw [hg]
      simp

theorem there_setCell {w : World} {b' o' n : Nat} (h : w.there b' o' n) (p : Addr) (v : Value) : (w.setCell p v).there b' o' n := by
  intro j hj
  obtain ⟨h1, h2⟩ := h j hj
  obtain ⟨u, hu⟩ := Option.isSome_iff_exists.1 h1
  refine ⟨?_, by rw [World.frozen?_setCell]; exact h2⟩
  by_cases e : p = (⟨b', o' + j, none⟩ : Addr)
  · subst e; rw [World.cell?_setCell_same _ _ _ hu]; rfl
  · rw [World.cell?_setCell_other _ _ _ _ e, hu]; rfl


/-- Where nothing is owned at the start: a new empty row. -/
theorem own_empty (w : World) (base : Nat) (hb : base ≤ w.heap.size) (E : TypeId) (size : Nat) : (w.alloc (.cells #[] E)).ownsRow base E size (.slice (some ⟨w.heap.size, 0, none⟩) 0 0) 0 [] :=
  World.ownsRow_made w #[] 0 hb (by unfold maxLen; omega) (by simp)

theorem clip_f (w : World) (A : Option Addr) (n c : Nat) (hn : n ≤ c) (hc : c ≤ 9223372036854775807) :
    Calls Tryd.prog 73 #[.slice A n c] w fun e w' => e = .returned (.slice A n n) ∧ w' = w := by
  have hcut : ∀ W, (Instr.slice 23 (.slice A n c) none (some (.int .i64 n)) (some (.int .i64 n))).run Tryd.prog W = .ok (.slice A n n) W := by
    intro W
    go_simp
  go_enter Tryd.func73, Tryd.ntmps73
  go_wp2
  go_ret
  exact ⟨rfl, rfl⟩

theorem secs_nil (A : Option Addr) (n c : Nat) (W : World) : (binOp .eql 22 (.slice A n c) (.slice none 0 0)).run Tryd.prog W = .ok (.bool A.isNone) W := by
  simp only [binOp]
  simp [run_equal_slice_nil W 22 81 A n c Tryd.underlying22]

/-- A slice value that the call made. -/
def OwnOut (E : TypeId) (sz n : Nat) (X : List Value) (w : World) (e : Ending) (w' : World) : Prop := (∃ v, e = .returned v ∧ w'.ownsRow w.heap.size E sz v n X) ∧ Below w.heap.size w w'

theorem clone_f (w : World) (A : Option Addr) (n c : Nat) (X : List Value) (h : RowOf w 128 A n c X) (h1 : ∀ u ∈ X, u.oneCell' = true) (hn : n ≤ 1000000) :
    Calls Tryd.prog 49 #[.slice A n c] w fun e w' => OwnOut 81 128 n X w e w' := by
  have HO := Lib.hid (own_empty w w.heap.size (Nat.le_refl _) 81 128)
  have HR := Lib.hid (h.kept ((Below.refl _ _).alloc (Nat.le_refl _) (.cells #[] 81)) (Nat.le_refl _))
  have HX := Lib.hid h1
  have HH := Lib.hid h
  clear h h1
  cases A with
  | none =>
    have hc : c = 0 := HH.out.2.2.2.1 rfl
    subst hc
    have hn0 : n = 0 := by have := HH.out.2.1; omega
    subst hn0
    have hnil := secs_nil none 0 0
    go_enter Tryd.func49, Tryd.ntmps49
    go_wp2
    go_ret
    refine ⟨⟨_, rfl, ?_⟩, Below.refl _ _⟩
    have : X = [] := List.eq_nil_of_length_eq_zero (by simpa using HH.out.1)
    subst this
    exact World.ownsRow_nil w _ _ _
  | some ad =>
    have hnil := secs_nil (some ad) n c
    rw [Option.isNone_some] at hnil
    go_enter Tryd.func49, Tryd.ntmps49
    go_wp2_with (at_builtin; refine append_row rfl (.tmp 5) (.tmp 6) 22 81 rfl Tryd.underlying22 w.heap.size (secV zeroSec) 128 128 infoSector (by rfl) (by decide) _ _ _ rfl HO.out (some ad) n c X rfl HR.out HX.out (by omega) (by decide) (by simp) ?_)
    intro v' w' k1 k2
    have K1 := Lib.hid k1
    have K2 := Lib.hid k2
    clear k1 k2
    go_wp2
    go_ret
    refine ⟨⟨_, rfl, ?_⟩, ?_⟩
    · simpa using K1.out
    · exact ((Below.refl _ _).alloc (Nat.le_refl _) _).grown K2.out (by simp) (fun k hk => by simp [Value.ownBlock] at hk; omega)
end Go.Proofs.YtbhjigejpdbeiaaDoor
