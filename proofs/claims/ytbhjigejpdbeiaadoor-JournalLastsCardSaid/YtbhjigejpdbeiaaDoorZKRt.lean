import Derived.Test.YtbhjigejpdbeiaaDoorZMem2
import Derived.Deep.QuietTactic
import Derived.BigQuiet
import Derived.Test.YtbhjigejpdbeiaaDoorZKDsk
set_option linter.unusedSimpArgs false
set_option linter.unusedVariables false

section
/-
  Right, of the program and of the reference.
-/
namespace Go.Proofs.YtbhjigejpdbeiaaDoor
open Go.RowKit
set_option linter.unusedVariables false

theorem within_f (w : World) (A A' : Option Addr) (n c n' c' : Nat) (f i : Int) (dn : Bool) :
    Calls Tryd.prog 71 #[.agg #[.slice A n c, .slice A' n' c', .int .i64 f, .bool dn], .int .i64 i] w fun e w' => e = .returned (.bool (Dk.inside n i)) ∧ Below w.heap.size w w' := by
  go_enter Tryd.func71, Tryd.ntmps71
  by_cases h : 0 ≤ i
  · by_cases h2 : i < n
    · go_wp2
      go_ret
      exact ⟨by simp [Dk.inside, h, h2], (Below.refl _ _).alloc (Nat.le_refl _) _⟩
    · go_wp2
      go_ret
      exact ⟨by simp [Dk.inside, h, h2], (Below.refl _ _).alloc (Nat.le_refl _) _⟩
  · go_wp2
    go_ret
    exact ⟨by simp [Dk.inside]; omega, (Below.refl _ _).alloc (Nat.le_refl _) _⟩

theorem row_at {w : World} {sz n c : Nat} {A : Option Addr} {X : List Value} (h : RowOf w sz A n c X) (h0 : 0 < n) : ∃ b o, A = some ⟨b, o, none⟩ ∧ b < w.heap.size ∧ w.rangeAt b o X := by
  obtain ⟨_, h2, _, h4, h5⟩ := h
  cases A with
  | none => exact absurd (h4 rfl) (by omega)
  | some x =>
    obtain ⟨k1, k2, k3⟩ := h5 x rfl h0
    obtain ⟨b, o, sp⟩ := x
    obtain rfl : sp = none := k1
    exact ⟨b, o, rfl, k2, k3⟩

/-- A disk's variable. -/
structure Var (w : World) (b : Nat) (A A' : Option Addr) (n c n' c' : Nat) (f : Int) (dn : Bool) : Prop where
  lt : b < w.heap.size
  c0 : w.cell? ⟨b, 0, none⟩ = some (.slice A n c)
  c1 : w.cell? ⟨b, 1, none⟩ = some (.slice A' n' c')
  c2 : w.cell? ⟨b, 2, none⟩ = some (.int .i64 f)
  c3 : w.cell? ⟨b, 3, none⟩ = some (.bool dn)
theorem Var.below {w w' : World} {B b n c n' c' : Nat} {A A' : Option Addr} {f : Int} {dn : Bool} (h : Var w b A A' n c n' c' f dn) (hb : Below B w w') (hB : b < B) : Var w' b A A' n c n' c' f dn :=
  ⟨Nat.lt_of_lt_of_le h.lt hb.size, (hb.cell (p := ⟨b, 0, none⟩) hB).trans h.c0, (hb.cell (p := ⟨b, 1, none⟩) hB).trans h.c1, (hb.cell (p := ⟨b, 2, none⟩) hB).trans h.c2, (hb.cell (p := ⟨b, 3, none⟩) hB).trans h.c3⟩

/-- A closure that refuses what lies outside. -/
theorem right1_f (w : World) (A A' : Option Addr) (n c n' c' : Nat) (f : Int) (dn : Bool) (x : Wr) (b : Nat) (h : Var w b A A' n c n' c' f dn) :
    Calls Tryd.prog 70 #[wrV x, .pointer (some ⟨b, 0, none⟩)] w fun e w' => e = .returned (.bool (!Dk.inside n x.at_)) ∧ Below w.heap.size w w' := by
  obtain ⟨hb, h0, h1, h2, h3⟩ := h
  go_enter Tryd.func70, Tryd.ntmps70
  go_wp2_with fail
  refine (within_f _ A A' n c n' c' f x.at_ dn).mono ?_
  rintro e w1 ⟨rfl, hb1⟩
  have HB := Lib.hid hb1
  clear hb1
  go_wp2
  go_ret
  exact ⟨rfl, below_chain ((Below.refl _ _).alloc (Nat.le_refl _) _) HB.out⟩

theorem index_f (w : World) (A A' : Option Addr) (n c n' c' : Nat) (f : Int) (dn : Bool) (l : List Wr) (b : Nat) (h : Var w b A A' n c n' c' f dn) (hn : Hid (n' = l.length)) (hr : RowOf w 129 A' n' c' (wrsC l)) (hm : n' ≤ 1000000) :
    Calls Tryd.prog 84 #[.slice A' n' c', .func (.func 70) #[] #[.pointer (some ⟨b, 0, none⟩)]] w fun e w' => (∃ r, e = .returned (.int .i64 r) ∧ (0 ≤ r ↔ l.all (fun x => Dk.inside n x.at_) = false)) ∧ Below w.heap.size w w' := by
  have HR := Lib.hid hr
  have HV := Lib.hid h
  clear hr h
  go_enter Tryd.func84, Tryd.ntmps84
  go_wp2
  go_loopw [8] (fun i wr => ∃ k : Nat, k ≤ n' ∧ i = .int .i64 k ∧ (∀ j x, j < k → l[j]? = some x → Dk.inside n x.at_ = true) ∧ Below w.heap.size w wr) (fun i _ => n' - (intOf i).toNat)
  case atStart => exact ⟨0, by omega, rfl, fun j x hj _ => absurd hj (by omega), Below.refl _ _⟩
  case round =>
    obtain ⟨k, hk, rfl, hall, hbel⟩ := hrel
    rename World => wr
    have HA := Lib.hid hall
    have HB := Lib.hid hbel
    clear hall hbel
    by_cases hkn : k < n'
    · obtain ⟨b', o', rfl, hb', hx⟩ := row_at HR.out (by omega)
      obtain ⟨x, hxk⟩ : ∃ x, l[k]? = some x := ⟨_, List.getElem?_eq_getElem (by rw [← hn.out]; exact hkn)⟩
      have hld := load_wrVar (range_below (range_wrs hx hxk) HB.out hb')
      have HXK := Lib.hid hxk
      clear hx hxk
      go_wp2_with fail
      refine (right1_f wr A (some ⟨b', o', none⟩) n c n' c' f dn x b (HV.out.below HB.out HV.out.lt)).mono ?_
      rintro e w1 ⟨rfl, hb1⟩
      have HB1 := Lib.hid (below_chain HB.out hb1)
      clear hb1 hld
      cases hin : Dk.inside n x.at_ with
      | true =>
        have HI := Lib.hid hin
        clear hin
        go_wp2
        go_roundw
        case rel =>
          refine ⟨k + 1, by omega, by go_num, ?_, HB1.out⟩
          intro j y hj hy
          rcases Nat.lt_or_ge j k with h | h
          · exact HA.out j y h hy
          · obtain rfl : j = k := by omega
            rw [HXK.out] at hy
            cases hy
            exact HI.out
        case measure => simp [intOf]; omega
      | false =>
        have HI := Lib.hid hin
        clear hin
        go_wp2
        go_ret
        refine ⟨⟨_, rfl, ?_⟩, HB1.out⟩
        refine ⟨fun _ => ?_, fun _ => by omega⟩
        rw [List.all_eq_false]
        exact ⟨x, List.mem_of_getElem? HXK.out, by rw [HI.out]; decide⟩
    · go_wp2
      go_ret
      refine ⟨⟨_, rfl, ?_⟩, HB.out⟩
      refine ⟨fun h => absurd h (by decide), fun h => ?_⟩
      obtain ⟨x, hx, hf⟩ := List.all_eq_false.1 h
      obtain ⟨j, hj⟩ := List.getElem?_of_mem hx
      have hjl := (List.getElem?_eq_some_iff.1 hj).1
      exact absurd (HA.out j x (by have := hn.out; omega) hj) hf

theorem contains_f (w : World) (A A' : Option Addr) (n c n' c' : Nat) (f : Int) (dn : Bool) (l : List Wr) (b : Nat) (h : Var w b A A' n c n' c' f dn) (hn : Hid (n' = l.length)) (hr : RowOf w 129 A' n' c' (wrsC l)) (hm : n' ≤ 1000000) :
    Calls Tryd.prog 69 #[.slice A' n' c', .func (.func 70) #[] #[.pointer (some ⟨b, 0, none⟩)]] w fun e w' => e = .returned (.bool (!l.all (fun x => Dk.inside n x.at_))) ∧ Below w.heap.size w w' := by
  have HR := Lib.hid hr
  have HV := Lib.hid h
  clear hr h
  go_enter Tryd.func69, Tryd.ntmps69
  go_wp2_with fail
  refine (index_f w A A' n c n' c' f dn l b HV.out hn HR.out hm).mono ?_
  rintro e w1 ⟨⟨r, rfl, hr⟩, hb1⟩
  have HB := Lib.hid hb1
  have HH := Lib.hid hr
  clear hb1 hr
  by_cases h : 0 ≤ r
  · go_wp2
    go_ret
    exact ⟨by rw [HH.out.1 h]; rfl, HB.out⟩
  · have hd : decide (0 ≤ r) = false := decide_eq_false h
    have HD := Lib.hid h
    clear h
    go_wp2
    go_ret
    refine ⟨?_, HB.out⟩
    cases hq : l.all (fun x => Dk.inside n x.at_) with
    | true => simp [hd]
    | false => exact absurd (HH.out.2 hq) (by have := HD.out; omega)

theorem right_f (w : World) (v : Value) (d : Dk) (h : DiskAt w v d) : Calls Tryd.prog 48 #[v] w fun e w' => e = .returned (.bool d.right) ∧ Below w.heap.size w w' := by
  obtain ⟨A, n, c, A', n', c', rfl, hn, hn', h1, h2, _⟩ := h
  have H1 := Lib.hid h1
  have H2 := Lib.hid h2
  have HN := Lib.hid hn
  have HN' := Lib.hid hn'
  clear h1 h2 hn hn'
  generalize hf : d.fuse = f
  generalize hdn : d.down = dn
  go_enter Tryd.func48, Tryd.ntmps48
  by_cases a1 : n < 1
  · go_wp2
    go_ret
    refine ⟨?_, (Below.refl _ _).alloc (Nat.le_refl _) _⟩
    simp only [Dk.right, ← HN.out, ← HN'.out]
    simp; omega
  by_cases a2 : 2048 < n
  · go_wp2
    go_ret
    refine ⟨?_, (Below.refl _ _).alloc (Nat.le_refl _) _⟩
    simp only [Dk.right, ← HN.out, ← HN'.out]
    simp; omega
  by_cases a3 : 4096 < n'
  · go_wp2
    go_ret
    refine ⟨?_, (Below.refl _ _).alloc (Nat.le_refl _) _⟩
    simp only [Dk.right, ← HN.out, ← HN'.out]
    simp; omega
  have HB := Lib.hid ((Below.refl w.heap.size w).alloc (Nat.le_refl _) (Obj.cells #[.slice A n c, .slice A' n' c', .int .i64 f, .bool dn] 25))
  go_wp2_with fail
  refine (contains_f _ A A' n c n' c' f dn d.loose w.heap.size ⟨by simp, by simp [cell_of_new], by simp [cell_of_new], by simp [cell_of_new], by simp [cell_of_new]⟩ HN' (H2.out.kept HB.out (Nat.le_refl _)) (by omega)).mono ?_
  rintro e w1 ⟨rfl, hb1⟩
  have HB1 := Lib.hid (below_chain HB.out hb1)
  clear hb1
  go_wp2
  go_ret
  refine ⟨?_, HB1.out⟩
  simp only [Dk.right, ← HN.out, ← HN'.out]
  simp; omega
end Go.Proofs.YtbhjigejpdbeiaaDoor
end

section
/-
  Small functions of both sides: the reference's Right, Arm, spend, step, New.
-/
namespace Go.Proofs.YtbhjigejpdbeiaaDoor
open Go.RowKit
set_option linter.unusedVariables false

theorem var_new (w : World) (A A' : Option Addr) (n c n' c' : Nat) (f : Int) (dn : Bool) :
    Var (w.alloc (Obj.cells #[.slice A n c, .slice A' n' c', .int .i64 f, .bool dn] 25)) w.heap.size A A' n c n' c' f dn :=
  ⟨by simp, by simp [cell_of_new], by simp [cell_of_new], by simp [cell_of_new], by simp [cell_of_new]⟩

theorem rright_f (w : World) (v : Value) (d : Dk) (h : DiskAt w v d) : Calls Tryd.prog 56 #[v] w fun e w' => e = .returned (.bool d.right) ∧ Below w.heap.size w w' := by
  obtain ⟨A, n, c, A', n', c', rfl, hn, hn', h1, h2, _⟩ := h
  have H1 := Lib.hid h1
  have H2 := Lib.hid h2
  have HN := Lib.hid hn
  have HN' := Lib.hid hn'
  clear h1 h2 hn hn'
  generalize hf : d.fuse = f
  generalize hdn : d.down = dn
  have HV := Lib.hid (var_new w A A' n c n' c' f dn)
  have HB := Lib.hid ((Below.refl w.heap.size w).alloc (Nat.le_refl _) (Obj.cells #[.slice A n c, .slice A' n' c', .int .i64 f, .bool dn] 25))
  go_enter Tryd.func56, Tryd.ntmps56
  by_cases a1 : n < 1
  · go_wp2
    go_ret
    refine ⟨?_, HB.out⟩
    simp only [Dk.right, ← HN.out, ← HN'.out]
    simp; omega
  by_cases a2 : 2048 < n
  · go_wp2
    go_ret
    refine ⟨?_, HB.out⟩
    simp only [Dk.right, ← HN.out, ← HN'.out]
    simp; omega
  by_cases a3 : 4096 < n'
  · go_wp2
    go_ret
    refine ⟨?_, HB.out⟩
    simp only [Dk.right, ← HN.out, ← HN'.out]
    simp; omega
  go_wp2
  obtain ⟨w1, hw1⟩ : ∃ w1, w1 = w.alloc (Obj.cells #[.slice A n c, .slice A' n' c', .int .i64 f, .bool dn] 25) := ⟨_, rfl⟩
  rw [← hw1] at HV HB ⊢
  have HS := Lib.hid (show w1.heap.size = w.heap.size + 1 by rw [hw1]; simp)
  clear hw1
  go_loopw [3] (fun i wr => ∃ k : Nat, k ≤ n' ∧ i = .int .i64 k ∧ (∀ j x, j < k → d.loose[j]? = some x → Dk.inside n x.at_ = true) ∧ Below w1.heap.size w1 wr) (fun i _ => n' - (intOf i).toNat)
  case atStart => exact ⟨0, by omega, rfl, fun j x hj _ => absurd hj (by omega), Below.refl _ _⟩
  case round =>
    obtain ⟨k, hk, rfl, hall, hbel⟩ := hrel
    rename World => wr
    have HA := Lib.hid hall
    have HB1 := Lib.hid hbel
    clear hall hbel
    obtain ⟨z0, z1, z2, z3, z4⟩ := HV.out.below HB1.out HV.out.lt
    by_cases hkn : k < n'
    · obtain ⟨b', o', rfl, hb', hx⟩ := row_at H2.out (by omega)
      obtain ⟨x, hxk⟩ : ∃ x, d.loose[k]? = some x := ⟨_, List.getElem?_eq_getElem (by rw [← HN'.out]; exact hkn)⟩
      have hat : wr.cell? ⟨b', o' + k * 129, none⟩ = some (.int .i64 x.at_) := range_wr_at (range_below (range_below (range_wrs hx hxk) HB.out hb') HB1.out (by have := HS.out; omega))
      have HXK := Lib.hid hxk
      clear hx hxk
      have hki : (k : Int) < n' := by omega
      have hk0 : (0 : Int) ≤ k := by omega
      have HF := Lib.hid (fun (q : ¬ (0 ≤ x.at_ ∧ x.at_ < n)) => show d.right = false by
            rw [Dk.right, Bool.and_eq_false_iff]; right; rw [List.all_eq_false]
            refine ⟨x, List.mem_of_getElem? HXK.out, ?_⟩
            rw [← HN.out]; simpa [Dk.inside] using q)
      by_cases q0 : x.at_ < 0
      · go_wp2_with fail
        go_quiet (fail)
        go_wp2
        go_ret
        refine ⟨by rw [HF.out (by omega)]; simp, below_drewN (below_chain HB.out HB1.out) _⟩
      by_cases q1 : (n : Int) ≤ x.at_
      · go_wp2_with fail
        go_quiet (fail)
        go_wp2
        go_ret
        refine ⟨by rw [HF.out (by omega)]; simp, below_drewN (below_chain HB.out HB1.out) _⟩
      go_wp2_with fail
      go_quiet (fail)
      go_wp2
      go_roundw
      case rel =>
        refine ⟨k + 1, by omega, by go_num, ?_, below_drewN HB1.out _⟩
        intro j y hj hy
        rcases Nat.lt_or_ge j k with h | h
        · exact HA.out j y h hy
        · obtain rfl : j = k := by omega
          rw [HXK.out] at hy
          cases hy
          simp [Dk.inside]; omega
      case measure => simp [intOf]; omega
    · go_wp2
      go_ret
      refine ⟨?_, below_chain HB.out HB1.out⟩
      have : d.right = true := by
        simp only [Dk.right, ← HN.out, ← HN'.out, Bool.and_eq_true, decide_eq_true_eq, List.all_eq_true]
        refine ⟨by omega, fun x hx => ?_⟩
        obtain ⟨j, hj⟩ := List.getElem?_of_mem hx
        have hjl := (List.getElem?_eq_some_iff.1 hj).1
        exact HA.out j x (by have := HN'.out; omega) hj
      simp [this]

end Go.Proofs.YtbhjigejpdbeiaaDoor
end

section
/-
  Arm, spend, step, New.
-/
namespace Go.Proofs.YtbhjigejpdbeiaaDoor
open Go.RowKit
set_option linter.unusedVariables false

theorem ret_cell_tmp {fn : Func} {c e : Tmp} {t : TypeId} (h : fn.results = #[.cell c t, .tmp e]) {tmps : Array Value} {a : Addr} {u : Value} {P : Program} {w : World}
    (hc : tmps.getD c undef = .pointer (some a)) (hl : (loadVar t a).run P w = .ok u w) : (results fn tmps).run P w = .ok (.tuple #[u, tmps.getD e undef]) w := by
  have hc' : tmps[c]?.getD undef = .pointer (some a) := by simpa using hc
  simp [results, h, hc', asAddr, Sem.run_bind, hl]
theorem ret_cell {fn : Func} {c : Tmp} {t : TypeId} (h : fn.results = #[.cell c t]) {tmps : Array Value} {a : Addr} {u : Value} {P : Program} {w : World}
    (hc : tmps.getD c undef = .pointer (some a)) (hl : (loadVar t a).run P w = .ok u w) : (results fn tmps).run P w = .ok u w := by
  have hc' : tmps[c]?.getD undef = .pointer (some a) := by simpa using hc
  simp [results, h, hc', asAddr, Sem.run_bind, hl]

theorem sizeDisk : (Tryd.prog.info? 25).map (·.size) = some 4 := by kernel_rfl
theorem load_var {w : World} {b n c n' c' : Nat} {A A' : Option Addr} {f : Int} {dn : Bool} (h : Var w b A A' n c n' c' f dn) :
    (loadVar 25 ⟨b, 0, none⟩).run Tryd.prog w = .ok (.agg #[.slice A n c, .slice A' n' c', .int .i64 f, .bool dn]) w :=
  run_loadVar_mid w b 0 25 [.slice A n c, .slice A' n' c', .int .i64 f, .bool dn] _ (by
    intro j v hv
    match j, hv with
    | 0, hv => simp at hv; subst hv; exact h.c0
    | 1, hv => simp at hv; subst hv; exact h.c1
    | 2, hv => simp at hv; subst hv; exact h.c2
    | 3, hv => simp at hv; subst hv; exact h.c3
    | j + 4, hv => simp at hv) Tryd.underlying25 rfl sizeDisk

/-- The disk's rows don't lie in block b. -/
def Clear (b : Nat) (v : Value) : Prop := ∀ A n c A' n' c' f dn, v = .agg #[.slice A n c, .slice A' n' c', f, dn] → (∀ x, A = some x → 0 < n → x.block ≠ b) ∧ (∀ x, A' = some x → 0 < n' → x.block ≠ b)
theorem clear_mk {b n c n' c' : Nat} {A A' : Option Addr} {f dn : Value} (h1 : ∀ x, A = some x → 0 < n → x.block ≠ b) (h2 : ∀ x, A' = some x → 0 < n' → x.block ≠ b) : Clear b (.agg #[.slice A n c, .slice A' n' c', f, dn]) := by
  intro B m e B' m' e' g dm h
  injection h with h
  injection h with h
  injection h with q1 h
  injection h with q2 h
  injection q1 with q11 q12
  injection q2 with q21 q22
  subst q11; subst q12; subst q21; subst q22
  exact ⟨h1, h2⟩
theorem Clear.same {b n c n' c' : Nat} {A A' : Option Addr} {f dn g dm : Value} (h : Clear b (.agg #[.slice A n c, .slice A' n' c', f, dn])) : Clear b (.agg #[.slice A n c, .slice A' n' c', g, dm]) := by
  obtain ⟨h1, h2⟩ := h _ _ _ _ _ _ _ _ rfl
  exact clear_mk h1 h2
theorem DiskAt.clear {w : World} {v : Value} {d : Dk} (h : DiskAt w v d) {b : Nat} (hb : w.heap.size ≤ b) : Clear b v := by
  obtain ⟨A, n, c, A', n', c', rfl, _, _, h1, h2, _⟩ := h
  exact clear_mk (fun x hx h0 => by have := (h1.2.2.2.2 x hx h0).2.1; omega) (fun x hx h0 => by have := (h2.2.2.2.2 x hx h0).2.1; omega)

/-- A disk comes back: where its rows may lie, given that of v. -/
def DiskGot (v : Value) (d : Dk) (w : World) (u : Value) (w' : World) : Prop := DiskAt w' u d ∧ (∀ b, b < w.heap.size → Clear b v → Clear b u)
def DiskOut (v : Value) (d : Dk) (w : World) (e : Ending) (w' : World) : Prop := (∃ u, e = .returned u ∧ DiskGot v d w u w') ∧ Below w.heap.size w w'
def DiskOut2 (v : Value) (d : Dk) (r : Value) (w : World) (e : Ending) (w' : World) : Prop := (∃ u, e = .returned (.tuple #[u, r]) ∧ DiskGot v d w u w') ∧ Below w.heap.size w w'
def SpendPost (v : Value) (d : Dk) (w : World) (e : Ending) (w' : World) : Prop := DiskOut2 v d.step.1 (.int .i64 (if d.step.2 then 0 else 9)) w e w'
def StepPost (v : Value) (d : Dk) (w : World) (e : Ending) (w' : World) : Prop := DiskOut2 v d.step.1 (.bool d.step.2) w e w'

theorem disk_of {w : World} {d : Dk} {A A' : Option Addr} {n c n' c' : Nat} {f : Int} {dn : Bool} (hn : n = d.secs.length) (hn' : n' = d.loose.length) (h1 : RowOf w 128 A n c (secsC d.secs)) (h2 : RowOf w 129 A' n' c' (wrsC d.loose))
    (hf : f = d.fuse) (hdn : dn = d.down) (f0 : -9223372036854775808 ≤ d.fuse) (f1 : d.fuse < 9223372036854775808) : DiskAt w (.agg #[.slice A n c, .slice A' n' c', .int .i64 f, .bool dn]) d := by
  subst hf; subst hdn
  exact ⟨A, n, c, A', n', c', rfl, hn, hn', h1, h2, f0, f1⟩

theorem size_alloc (w : World) (o : Obj) : (w.alloc o).heap.size = w.heap.size + 1 := by simp
theorem var_new2 (w : World) (o : Obj) (A A' : Option Addr) (n c n' c' : Nat) (f : Int) (dn : Bool) :
    Var ((w.alloc o).alloc (Obj.cells #[.slice A n c, .slice A' n' c', .int .i64 f, .bool dn] 25)) (w.heap.size + 1) A A' n c n' c' f dn := by
  have h := var_new (w.alloc o) A A' n c n' c' f dn
  rwa [size_alloc] at h
theorem below_two (w : World) (o p : Obj) : Below w.heap.size w ((w.alloc o).alloc p) := ((Below.refl w.heap.size w).alloc (Nat.le_refl _) o).alloc (by simp) p

theorem arm_f (w : World) (v : Value) (d : Dk) (f : Int) (f0 : -9223372036854775808 ≤ f) (f1 : f < 9223372036854775808) (h : DiskAt w v d) :
    Calls Tryd.prog 19 #[v, .int .i64 f] w fun e w' => DiskOut v (d.arm f) w e w' := by
  obtain ⟨A, n, c, A', n', c', rfl, hn, hn', h1, h2, h3⟩ := h
  have H1 := Lib.hid h1
  have H2 := Lib.hid h2
  have HN := Lib.hid hn
  have HN' := Lib.hid hn'
  clear h1 h2 hn hn' h3
  generalize hdn : d.down = dn
  generalize hf : d.fuse = g
  have HDN := Lib.hid hdn
  clear hdn hf
  go_enter Tryd.func19, Tryd.ntmps19
  by_cases q : -1 ≤ f
  · go_wp2
    refine bodyPost_ret (ret_cell rfl rfl (load_var (var_new2 _ _ _ _ _ _ _ _ _ _))) rfl ?_
    exact ⟨⟨_, rfl, ⟨disk_of (d := d.arm f) HN.out HN'.out (H1.out.kept (below_two _ _ _) (Nat.le_refl _)) (H2.out.kept (below_two _ _ _) (Nat.le_refl _)) (by simp [Dk.arm]; omega) HDN.out.symm (by simp [Dk.arm]; omega) (by simp [Dk.arm]; omega), fun b hb hc => hc.same⟩⟩, below_two _ _ _⟩
  · go_wp2
    refine bodyPost_ret (ret_cell rfl rfl (load_var (var_new2 _ _ _ _ _ _ _ _ _ _))) rfl ?_
    exact ⟨⟨_, rfl, ⟨disk_of (d := d.arm f) HN.out HN'.out (H1.out.kept (below_two _ _ _) (Nat.le_refl _)) (H2.out.kept (below_two _ _ _) (Nat.le_refl _)) (by simp [Dk.arm]; omega) HDN.out.symm (by simp [Dk.arm]; omega) (by simp [Dk.arm]; omega), fun b hb hc => hc.same⟩⟩, below_two _ _ _⟩

theorem spend_f (w : World) (v : Value) (d : Dk) (h : DiskAt w v d) : Calls Tryd.prog 72 #[v] w fun e w' => SpendPost v d w e w' := by
  obtain ⟨A, n, c, A', n', c', rfl, hn, hn', h1, h2, h3⟩ := h
  have H1 := Lib.hid h1
  have H2 := Lib.hid h2
  have HN := Lib.hid hn
  have HN' := Lib.hid hn'
  have hg0 : -9223372036854775808 ≤ d.fuse := h3.1
  have hg1 : d.fuse < 9223372036854775808 := h3.2
  have HF := Lib.hid h3
  clear h1 h2 hn hn' h3
  generalize hdn : d.down = dn
  generalize hf : d.fuse = g at hg0 hg1
  have HDN := Lib.hid hdn
  have HFU := Lib.hid hf
  clear hdn hf
  go_enter Tryd.func72, Tryd.ntmps72
  cases dn with
  | true =>
    go_wp2
    refine bodyPost_ret (ret_cell_tmp rfl rfl (load_var (var_new2 _ _ _ _ _ _ _ _ _ _))) rfl ?_
    have hs : d.step = ({ d with down := true }, false) := by rw [Dk.step]; simp [HFU.out, HDN.out]
    refine ⟨⟨_, by rw [hs]; rfl, ?_⟩, below_two _ _ _⟩
    rw [hs]
    exact ⟨disk_of HN.out HN'.out (H1.out.kept (below_two _ _ _) (Nat.le_refl _)) (H2.out.kept (below_two _ _ _) (Nat.le_refl _)) (by simp [HFU.out]) (by simp [HDN.out]) (by have := HF.out; have := HFU.out; simp; omega) (by have := HF.out; have := HFU.out; simp; omega), fun b hb hc => hc.same⟩
  | false =>
    by_cases q0 : g = 0
    · subst q0
      go_wp2
      refine bodyPost_ret (ret_cell_tmp rfl rfl (load_var (var_new2 _ _ _ _ _ _ _ _ _ _))) rfl ?_
      have hs : d.step = ({ d with down := true }, false) := by rw [Dk.step]; simp [HFU.out, HDN.out]
      refine ⟨⟨_, by rw [hs]; rfl, ?_⟩, below_two _ _ _⟩
      rw [hs]
      exact ⟨disk_of HN.out HN'.out (H1.out.kept (below_two _ _ _) (Nat.le_refl _)) (H2.out.kept (below_two _ _ _) (Nat.le_refl _)) (by simp [HFU.out]) (by simp [HDN.out]) (by have := HF.out; have := HFU.out; simp; omega) (by have := HF.out; have := HFU.out; simp; omega), fun b hb hc => hc.same⟩
    by_cases q1 : 0 < g
    · go_wp2
      refine bodyPost_ret (ret_cell_tmp rfl rfl (load_var (var_new2 _ _ _ _ _ _ _ _ _ _))) rfl ?_
      have hs : d.step = ({ d with fuse := d.fuse - 1 }, true) := by rw [Dk.step, if_neg (by simp [HDN.out, HFU.out]; omega), if_pos (by rw [HFU.out]; exact q1)]
      refine ⟨⟨_, by rw [hs]; rfl, ?_⟩, below_two _ _ _⟩
      rw [hs]
      exact ⟨disk_of HN.out HN'.out (H1.out.kept (below_two _ _ _) (Nat.le_refl _)) (H2.out.kept (below_two _ _ _) (Nat.le_refl _)) (by simp [HFU.out]) (by simp [HDN.out]) (by have := HF.out; have := HFU.out; simp; omega) (by have := HF.out; have := HFU.out; simp; omega), fun b hb hc => hc.same⟩
    · have q2 : g < 0 := by omega
      have q1 : ¬ 0 < g := by omega
      have Q1 := Lib.hid q1
      clear q1
      go_wp2
      refine bodyPost_ret (ret_cell_tmp rfl rfl (load_var (var_new2 _ _ _ _ _ _ _ _ _ _))) rfl ?_
      have hs : d.step = (d, true) := by rw [Dk.step, if_neg (by simp [HDN.out, HFU.out]; omega), if_neg (by rw [HFU.out]; have := Q1.out; omega)]
      refine ⟨⟨_, by rw [hs]; rfl, ?_⟩, below_two _ _ _⟩
      rw [hs]
      exact ⟨disk_of HN.out HN'.out (H1.out.kept (below_two _ _ _) (Nat.le_refl _)) (H2.out.kept (below_two _ _ _) (Nat.le_refl _)) (by simp [HFU.out]) (by simp [HDN.out]) (by have := HF.out; have := HFU.out; simp; omega) (by have := HF.out; have := HFU.out; simp; omega), fun b hb hc => hc.same⟩

theorem step_f (w : World) (v : Value) (d : Dk) (h : DiskAt w v d) : Calls Tryd.prog 76 #[v] w fun e w' => StepPost v d w e w' := by
  obtain ⟨A, n, c, A', n', c', rfl, hn, hn', h1, h2, h3⟩ := h
  have H1 := Lib.hid h1
  have H2 := Lib.hid h2
  have HN := Lib.hid hn
  have HN' := Lib.hid hn'
  have hg0 : -9223372036854775808 ≤ d.fuse := h3.1
  have hg1 : d.fuse < 9223372036854775808 := h3.2
  have HF := Lib.hid h3
  clear h1 h2 hn hn' h3
  generalize hdn : d.down = dn
  generalize hf : d.fuse = g at hg0 hg1
  have HDN := Lib.hid hdn
  have HFU := Lib.hid hf
  clear hdn hf
  go_enter Tryd.func76, Tryd.ntmps76
  cases dn with
  | true =>
    go_wp2
    refine bodyPost_ret (ret_cell_tmp rfl rfl (load_var (var_new2 _ _ _ _ _ _ _ _ _ _))) rfl ?_
    have hs : d.step = ({ d with down := true }, false) := by rw [Dk.step]; simp [HFU.out, HDN.out]
    refine ⟨⟨_, by rw [hs]; rfl, ?_⟩, below_two _ _ _⟩
    rw [hs]
    exact ⟨disk_of HN.out HN'.out (H1.out.kept (below_two _ _ _) (Nat.le_refl _)) (H2.out.kept (below_two _ _ _) (Nat.le_refl _)) (by simp [HFU.out]) (by simp [HDN.out]) (by have := HF.out; have := HFU.out; simp; omega) (by have := HF.out; have := HFU.out; simp; omega), fun b hb hc => hc.same⟩
  | false =>
    by_cases q0 : g = 0
    · subst q0
      go_wp2
      refine bodyPost_ret (ret_cell_tmp rfl rfl (load_var (var_new2 _ _ _ _ _ _ _ _ _ _))) rfl ?_
      have hs : d.step = ({ d with down := true }, false) := by rw [Dk.step]; simp [HFU.out, HDN.out]
      refine ⟨⟨_, by rw [hs]; rfl, ?_⟩, below_two _ _ _⟩
      rw [hs]
      exact ⟨disk_of HN.out HN'.out (H1.out.kept (below_two _ _ _) (Nat.le_refl _)) (H2.out.kept (below_two _ _ _) (Nat.le_refl _)) (by simp [HFU.out]) (by simp [HDN.out]) (by have := HF.out; have := HFU.out; simp; omega) (by have := HF.out; have := HFU.out; simp; omega), fun b hb hc => hc.same⟩
    by_cases q1 : 0 < g
    · go_wp2
      refine bodyPost_ret (ret_cell_tmp rfl rfl (load_var (var_new2 _ _ _ _ _ _ _ _ _ _))) rfl ?_
      have hs : d.step = ({ d with fuse := d.fuse - 1 }, true) := by rw [Dk.step, if_neg (by simp [HDN.out, HFU.out]; omega), if_pos (by rw [HFU.out]; exact q1)]
      refine ⟨⟨_, by rw [hs]; rfl, ?_⟩, below_two _ _ _⟩
      rw [hs]
      exact ⟨disk_of HN.out HN'.out (H1.out.kept (below_two _ _ _) (Nat.le_refl _)) (H2.out.kept (below_two _ _ _) (Nat.le_refl _)) (by simp [HFU.out]) (by simp [HDN.out]) (by have := HF.out; have := HFU.out; simp; omega) (by have := HF.out; have := HFU.out; simp; omega), fun b hb hc => hc.same⟩
    · have q2 : g < 0 := by omega
      have q1 : ¬ 0 < g := by omega
      have Q1 := Lib.hid q1
      clear q1
      go_wp2
      refine bodyPost_ret (ret_cell_tmp rfl rfl (load_var (var_new2 _ _ _ _ _ _ _ _ _ _))) rfl ?_
      have hs : d.step = (d, true) := by rw [Dk.step, if_neg (by simp [HDN.out, HFU.out]; omega), if_neg (by rw [HFU.out]; have := Q1.out; omega)]
      refine ⟨⟨_, by rw [hs]; rfl, ?_⟩, below_two _ _ _⟩
      rw [hs]
      exact ⟨disk_of HN.out HN'.out (H1.out.kept (below_two _ _ _) (Nat.le_refl _)) (H2.out.kept (below_two _ _ _) (Nat.le_refl _)) (by simp [HFU.out]) (by simp [HDN.out]) (by have := HF.out; have := HFU.out; simp; omega) (by have := HF.out; have := HFU.out; simp; omega), fun b hb hc => hc.same⟩

end Go.Proofs.YtbhjigejpdbeiaaDoor
end

section
/-
  look and Read of the reference.
-/
namespace Go.Proofs.YtbhjigejpdbeiaaDoor
open Go.RowKit
set_option linter.unusedVariables false

def SecOut (s : Sec) (w : World) (e : Ending) (w' : World) : Prop := e = .returned (secV s) ∧ Below w.heap.size w w'
def SecOut2 (s : Sec × Int) (w : World) (e : Ending) (w' : World) : Prop := e = .returned (.tuple #[secV s.1, .int .i64 s.2]) ∧ Below w.heap.size w w'
theorem secVar_run {w : World} {a : Addr} {v : Value} (h : (secVar a).run Tryd.prog w = .ok v w) : (loadVar 81 a).run Tryd.prog w = .ok v w := by
  unfold secVar at h; exact h

def ReadPost (d : Dk) (i : Int) (w : World) (e : Ending) (w' : World) : Prop := SecOut2 (d.read i) w e w'
theorem right_bounds {d : Dk} (h : d.right = true) : 1 ≤ d.secs.length ∧ d.secs.length ≤ 2048 ∧ d.loose.length ≤ 4096 := by
  rw [Dk.right, Bool.and_eq_true, decide_eq_true_eq] at h; exact h.1
end Go.Proofs.YtbhjigejpdbeiaaDoor
end
