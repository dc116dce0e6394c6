/-
  Right, of the program and of the reference.
-/
import Derived.Test.YtfffmmnpohgniaaMem2
import Derived.Deep.QuietTactic
import Derived.BigQuiet
namespace Go.Proofs.Ytfffmmnpohgniaa
open Go.RowKit
set_option linter.unusedVariables false

theorem within_f (w : World) (A A' : Option Addr) (n c n' c' : Nat) (f i : Int) (dn : Bool) :
    Calls Try.prog 27 #[.agg #[.slice A n c, .slice A' n' c', .int .i64 f, .bool dn], .int .i64 i] w fun e w' => e = .returned (.bool (Dk.inside n i)) ∧ Below w.heap.size w w' := by
  go_enter Try.func27, Try.ntmps27
  by_cases h : 0 ≤ i
  · by_cases h2 : i < n
    · go_wp2
      go_ret
      exact ⟨by simp [Dk.inside, h, h2], (Below.refl _ _).alloc (Nat.le_refl _) _⟩
    · go_wp2
      go_ret
      exact ⟨by simp [Dk.inside, h, h2], (Below.refl _ _).alloc (Nat.le_refl _) _⟩
  · go_wp2
    go_ret
    exact ⟨by simp [Dk.inside]; omega, (Below.refl _ _).alloc (Nat.le_refl _) _⟩

theorem row_at {w : World} {sz n c : Nat} {A : Option Addr} {X : List Value} (h : RowOf w sz A n c X) (h0 : 0 < n) : ∃ b o, A = some ⟨b, o, none⟩ ∧ b < w.heap.size ∧ w.rangeAt b o X := by
  obtain ⟨_, h2, _, h4, h5⟩ := h
  cases A with
  | none => exact absurd (h4 rfl) (by omega)
  | some x =>
    obtain ⟨k1, k2, k3⟩ := h5 x rfl h0
    obtain ⟨b, o, sp⟩ := x
    obtain rfl : sp = none := k1
    exact ⟨b, o, rfl, k2, k3⟩

/-- A disk's variable. -/
structure Var (w : World) (b : Nat) (A A' : Option Addr) (n c n' c' : Nat) (f : Int) (dn : Bool) : Prop where
  lt : b < w.heap.size
  c0 : w.cell? ⟨b, 0, none⟩ = some (.slice A n c)
  c1 : w.cell? ⟨b, 1, none⟩ = some (.slice A' n' c')
  c2 : w.cell? ⟨b, 2, none⟩ = some (.int .i64 f)
  c3 : w.cell? ⟨b, 3, none⟩ = some (.bool dn)
theorem Var.below {w w' : World} {B b n c n' c' : Nat} {A A' : Option Addr} {f : Int} {dn : Bool} (h : Var w b A A' n c n' c' f dn) (hb : Below B w w') (hB : b < B) : Var w' b A A' n c n' c' f dn :=
  ⟨Nat.lt_of_lt_of_le h.lt hb.size, (hb.cell (p := ⟨b, 0, none⟩) hB).trans h.c0, (hb.cell (p := ⟨b, 1, none⟩) hB).trans h.c1, (hb.cell (p := ⟨b, 2, none⟩) hB).trans h.c2, (hb.cell (p := ⟨b, 3, none⟩) hB).trans h.c3⟩

/-- A closure that refuses what lies outside. -/
theorem right1_f (w : World) (A A' : Option Addr) (n c n' c' : Nat) (f : Int) (dn : Bool) (x : Wr) (b : Nat) (h : Var w b A A' n c n' c' f dn) :
    Calls Try.prog 34 #[wrV x, .pointer (some ⟨b, 0, none⟩)] w fun e w' => e = .returned (.bool (!Dk.inside n x.at_)) ∧ Below w.heap.size w w' := by
  obtain ⟨hb, h0, h1, h2, h3⟩ := h
  go_enter Try.func34, Try.ntmps34
  go_wp2_with fail
  refine (within_f _ A A' n c n' c' f x.at_ dn).mono ?_
  rintro e w1 ⟨rfl, hb1⟩
  have HB := Lib.hid hb1
  clear hb1
  go_wp2
  go_ret
  exact ⟨rfl, below_chain ((Below.refl _ _).alloc (Nat.le_refl _) _) HB.out⟩

theorem index_f (w : World) (A A' : Option Addr) (n c n' c' : Nat) (f : Int) (dn : Bool) (l : List Wr) (b : Nat) (h : Var w b A A' n c n' c' f dn) (hn : Hid (n' = l.length)) (hr : RowOf w 129 A' n' c' (wrsC l)) (hm : n' ≤ 1000000) :
    Calls Try.prog 39 #[.slice A' n' c', .func (.func 34) #[] #[.pointer (some ⟨b, 0, none⟩)]] w fun e w' => (∃ r, e = .returned (.int .i64 r) ∧ (0 ≤ r ↔ l.all (fun x => Dk.inside n x.at_) = false)) ∧ Below w.heap.size w w' := by
  have HR := Lib.hid hr
  have HV := Lib.hid h
  clear hr h
  go_enter Try.func39, Try.ntmps39
  go_wp2
  go_loopw [8] (fun i wr => ∃ k : Nat, k ≤ n' ∧ i = .int .i64 k ∧ (∀ j x, j < k → l[j]? = some x → Dk.inside n x.at_ = true) ∧ Below w.heap.size w wr) (fun i _ => n' - (intOf i).toNat)
  case atStart => exact ⟨0, by omega, rfl, fun j x hj _ => absurd hj (by omega), Below.refl _ _⟩
  case round =>
    obtain ⟨k, hk, rfl, hall, hbel⟩ := hrel
    rename World => wr
    have HA := Lib.hid hall
    have HB := Lib.hid hbel
    clear hall hbel
    by_cases hkn : k < n'
    · obtain ⟨b', o', rfl, hb', hx⟩ := row_at HR.out (by omega)
      obtain ⟨x, hxk⟩ : ∃ x, l[k]? = some x := ⟨_, List.getElem?_eq_getElem (by rw [← hn.out]; exact hkn)⟩
      have hld := load_wrVar (range_below (range_wrs hx hxk) HB.out hb')
      have HXK := Lib.hid hxk
      clear hx hxk
      go_wp2_with fail
      refine (right1_f wr A (some ⟨b', o', none⟩) n c n' c' f dn x b (HV.out.below HB.out HV.out.lt)).mono ?_
      rintro e w1 ⟨rfl, hb1⟩
      have HB1 := Lib.hid (below_chain HB.out hb1)
      clear hb1 hld
      cases hin : Dk.inside n x.at_ with
      | true =>
        have HI := Lib.hid hin
        clear hin
        go_wp2
        go_roundw
        case rel =>
          refine ⟨k + 1, by omega, by go_num, ?_, HB1.out⟩
          intro j y hj hy
          rcases Nat.lt_or_ge j k with h | h
          · exact HA.out j y h hy
          · obtain rfl : j = k := by omega
            rw [HXK.out] at hy
            cases hy
            exact HI.out
        case measure => simp [intOf]; omega
      | false =>
        have HI := Lib.hid hin
        clear hin
        go_wp2
        go_ret
        refine ⟨⟨_, rfl, ?_⟩, HB1.out⟩
        refine ⟨fun _ => ?_, fun _ => by omega⟩
        rw [List.all_eq_false]
        exact ⟨x, List.mem_of_getElem? HXK.out, by rw [HI.out]; decide⟩
    · go_wp2
      go_ret
      refine ⟨⟨_, rfl, ?_⟩, HB.out⟩
      refine ⟨fun h => absurd h (by decide), fun h => ?_⟩
      obtain ⟨x, hx, hf⟩ := List.all_eq_false.1 h
      obtain ⟨j, hj⟩ := List.getElem?_of_mem hx
      have hjl := (List.getElem?_eq_some_iff.1 hj).1
      exact absurd (HA.out j x (by have := hn.out; omega) hj) hf

theorem contains_f (w : World) (A A' : Option Addr) (n c n' c' : Nat) (f : Int) (dn : Bool) (l : List Wr) (b : Nat) (h : Var w b A A' n c n' c' f dn) (hn : Hid (n' = l.length)) (hr : RowOf w 129 A' n' c' (wrsC l)) (hm : n' ≤ 1000000) :
    Calls Try.prog 33 #[.slice A' n' c', .func (.func 34) #[] #[.pointer (some ⟨b, 0, none⟩)]] w fun e w' => e = .returned (.bool (!l.all (fun x => Dk.inside n x.at_))) ∧ Below w.heap.size w w' := by
  have HR := Lib.hid hr
  have HV := Lib.hid h
  clear hr h
  go_enter Try.func33, Try.ntmps33
  go_wp2_with fail
  refine (index_f w A A' n c n' c' f dn l b HV.out hn HR.out hm).mono ?_
  rintro e w1 ⟨⟨r, rfl, hr⟩, hb1⟩
  have HB := Lib.hid hb1
  have HH := Lib.hid hr
  clear hb1 hr
  by_cases h : 0 ≤ r
  · go_wp2
    go_ret
    exact ⟨by rw [HH.out.1 h]; rfl, HB.out⟩
  · have hd : decide (0 ≤ r) = false := decide_eq_false h
    have HD := Lib.hid h
    clear h
    go_wp2
    go_ret
    refine ⟨?_, HB.out⟩
    cases hq : l.all (fun x => Dk.inside n x.at_) with
    | true => simp [hd]
    | false => exact absurd (HH.out.2 hq) (by have := HD.out; omega)

theorem right_f (w : World) (v : Value) (d : Dk) (h : DiskAt w v d) : Calls Try.prog 16 #[v] w fun e w' => e = .returned (.bool d.right) ∧ Below w.heap.size w w' := by
  obtain ⟨A, n, c, A', n', c', rfl, hn, hn', h1, h2, _⟩ := h
  have H1 := Lib.hid h1
  have H2 := Lib.hid h2
  have HN := Lib.hid hn
  have HN' := Lib.hid hn'
  clear h1 h2 hn hn'
  generalize hf : d.fuse = f
  generalize hdn : d.down = dn
  go_enter Try.func16, Try.ntmps16
  by_cases a1 : n < 1
  · go_wp2
    go_ret
    refine ⟨?_, (Below.refl _ _).alloc (Nat.le_refl _) _⟩
    simp only [Dk.right, ← HN.out, ← HN'.out]
    simp; omega
  by_cases a2 : 2048 < n
  · go_wp2
    go_ret
    refine ⟨?_, (Below.refl _ _).alloc (Nat.le_refl _) _⟩
    simp only [Dk.right, ← HN.out, ← HN'.out]
    simp; omega
  by_cases a3 : 4096 < n'
  · go_wp2
    go_ret
    refine ⟨?_, (Below.refl _ _).alloc (Nat.le_refl _) _⟩
    simp only [Dk.right, ← HN.out, ← HN'.out]
    simp; omega
  have HB := Lib.hid ((Below.refl w.heap.size w).alloc (Nat.le_refl _) (Obj.cells #[.slice A n c, .slice A' n' c', .int .i64 f, .bool dn] 25))
  go_wp2_with fail
  refine (contains_f _ A A' n c n' c' f dn d.loose w.heap.size ⟨by simp, by simp [cell_of_new], by simp [cell_of_new], by simp [cell_of_new], by simp [cell_of_new]⟩ HN' (H2.out.kept HB.out (Nat.le_refl _)) (by omega)).mono ?_
  rintro e w1 ⟨rfl, hb1⟩
  have HB1 := Lib.hid (below_chain HB.out hb1)
  clear hb1
  go_wp2
  go_ret
  refine ⟨?_, HB1.out⟩
  simp only [Dk.right, ← HN.out, ← HN'.out]
  simp; omega
end Go.Proofs.Ytfffmmnpohgniaa
