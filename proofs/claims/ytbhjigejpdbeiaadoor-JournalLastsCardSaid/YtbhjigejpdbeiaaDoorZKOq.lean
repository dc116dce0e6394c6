import Derived.Test.YtbhjigejpdbeiaaDoorZOp
import Derived.Test.YtbhjigejpdbeiaaDoorZKBs
import Derived.Test.YtbhjigejpdbeiaaDoorZKSd
set_option linter.unusedSimpArgs false
set_option linter.unusedVariables false

section
/-
  What came in, read as logs, bytes, records, acts, falls.
-/
namespace Go.Proofs.YtbhjigejpdbeiaaDoor
open Go.ChangeShapes Go.WideShapes Go.RowKit Go.Deep
set_option linter.unusedVariables false
set_option maxRecDepth 100000

section
variable {H : Type} {enc : TypeId × Value → H} {w : World} {base : Nat} {spare : Nat → Bool} {held : Bool}

theorem byte_cell {fuel : Nat} {cs : List Value} {x : DataW H × List MemPlace} (h : DataW.trod enc Tryd.prog w base spare held fuel 5 cs = some x) : ∃ u : UInt8, cs = [.int .u8 u.toNat] := by
  obtain ⟨n, q1, _, k1⟩ := DataW.trod_int Tryd.underlying5 h
  have b1 : 0 ≤ n ∧ n ≤ 255 := by simpa [Lit.wf, IntKind.min, IntKind.max, IntKind.signed, IntKind.bits] using k1
  refine ⟨UInt8.ofNat n.toNat, ?_⟩
  have e1 : ((UInt8.ofNat n.toNat).toNat : Int) = n := by simp only [UInt8.toNat_ofNat']; omega
  rw [q1, e1]
/-- A slice that reads as bytes. -/
structure BytesAt (w : World) (v : Value) (l : List UInt8) : Prop where
  at_ : ∃ A n c, v = .slice A n c ∧ n = l.length ∧ RowOf w 1 A n c (Lib.byteCells l)
theorem flat_bytes (l : List UInt8) : (l.map fun u : UInt8 => [Value.int .u8 (u.toNat : Int)]).flatten = Lib.byteCells l := by
  induction l with
  | nil => rfl
  | cons a r ih => rw [List.map_cons, List.flatten_cons, ih]; rfl
theorem bytes_of_trod {fuel : Nat} {v : Value} {x : DataW H × List MemPlace} (h : DataW.trod enc Tryd.prog w base spare held fuel 28 [v] = some x) : ∃ l, BytesAt w v l := by
  obtain ⟨A, m, c, l, rfl, hn, hr⟩ := rows_of_trod (0 : UInt8) (fun u : UInt8 => [Value.int .u8 (u.toNat : Int)]) 1 Tryd.underlying28 (by kernel_rfl) (by decide) (fun _ => rfl) (fun _ _ _ h => byte_cell h) h
  rw [flat_bytes] at hr
  exact ⟨l, ⟨A, m, c, rfl, hn, hr⟩⟩
theorem bytes_cell {fuel : Nat} {cs : List Value} {x : DataW H × List MemPlace} (h : DataW.trod enc Tryd.prog w base spare held fuel 28 cs = some x) : ∃ v l, cs = [v] ∧ BytesAt w v l := by
  have h1 : ∃ v, cs = [v] := by
    cases fuel with
    | zero => simp [DataW.trod] at h
    | succ m =>
      unfold DataW.trod at h
      rw [Tryd.underlying28] at h
      split at h <;> simp_all
  obtain ⟨v, rfl⟩ := h1
  obtain ⟨l, hl⟩ := bytes_of_trod h
  exact ⟨v, l, rfl, hl⟩
theorem nil_bytes : BytesAt w (.slice none 0 0) [] := ⟨none, 0, 0, rfl, rfl, ⟨rfl, by omega, by omega, fun _ => rfl, fun x hx => by cases hx⟩⟩
end
end Go.Proofs.YtbhjigejpdbeiaaDoor
end

section
/-
  What came in, read as acts on a journal, and as falls.
-/
namespace Go.Proofs.YtbhjigejpdbeiaaDoor
open Go.ChangeShapes Go.WideShapes Go.RowKit Go.Deep
set_option linter.unusedVariables false
set_option maxRecDepth 100000

structure A15 where
  fold : Bool
  record : List UInt8
structure F15 where
  fuse : UInt8
  fates : List (UInt8 × UInt8)
  again : UInt8
  more : List (UInt8 × UInt8)
def actC15 (a : A15 × Value) : List Value := [.bool a.1.fold, a.2]
def fallC15 (a : F15 × Value × Value) : List Value := [.int .u8 a.1.fuse.toNat, a.2.1, .int .u8 a.1.again.toNat, a.2.2]
/-- A slice that reads as acts; each record's row with its act. -/
def Acts15At (w : World) (v : Value) (l : List A15) : Prop :=
  ∃ (A : Option Addr) (n c : Nat) (L : List (A15 × Value)), v = .slice A n c ∧ n = L.length ∧ L.map (·.1) = l ∧ RowOf w 2 A n c ((L.map actC15).flatten) ∧ ∀ a ∈ L, BytesAt w a.2 a.1.record
def Falls15At (w : World) (v : Value) (l : List F15) : Prop :=
  ∃ (A : Option Addr) (n c : Nat) (L : List (F15 × Value × Value)), v = .slice A n c ∧ n = L.length ∧ L.map (·.1) = l ∧ RowOf w 4 A n c ((L.map fallC15).flatten) ∧ ∀ a ∈ L, FatesAt w a.2.1 a.1.fates ∧ FatesAt w a.2.2 a.1.more
theorem range_flat {α : Type} {w : World} {b o sz : Nat} {l : List α} {f : α → List Value} (hf : ∀ a, (f a).length = sz) (h : w.rangeAt b o ((l.map f).flatten)) {j : Nat} {s : α} (hj : l[j]? = some s) : w.rangeAt b (o + j * sz) (f s) := by
  obtain ⟨P, Q, h1, h2, _⟩ := flat_split (L := l.map f) (sz := sz) (fun x hx => by obtain ⟨a, _, rfl⟩ := List.mem_map.1 hx; exact hf a) (j := j) (cs := f s) (by rw [List.getElem?_map, hj]; rfl)
  rw [h1] at h
  rw [← h2]
  exact range_sub h
/-- An act's cells, in each later world. -/
theorem act_cells {w : World} {A : Option Addr} {n c : Nat} {L : List (A15 × Value)} (hn : n = L.length) (h : RowOf w 2 A n c ((L.map actC15).flatten)) {k : Nat} {a : A15 × Value} (ha : L[k]? = some a) :
    ∃ b o, A = some ⟨b, o, none⟩ ∧ ∀ W, Below w.heap.size w W → W.cell? ⟨b, o + k * 2, none⟩ = some (.bool a.1.fold) ∧ W.cell? ⟨b, o + k * 2 + 1, none⟩ = some a.2 := by
  have hk := (List.getElem?_eq_some_iff.1 ha).1
  obtain ⟨b, o, rfl, hb, hX⟩ := row_at h (by omega)
  refine ⟨b, o, rfl, fun W hW => ?_⟩
  have hr := range_flat (f := actC15) (sz := 2) (fun _ => rfl) (range_below hX hW hb) ha
  exact ⟨hr 0 _ rfl, hr 1 _ rfl⟩
/-- A fall's cells, in each later world. -/
theorem fall_cells {w : World} {A : Option Addr} {n c : Nat} {L : List (F15 × Value × Value)} (hn : n = L.length) (h : RowOf w 4 A n c ((L.map fallC15).flatten)) {k : Nat} {a : F15 × Value × Value} (ha : L[k]? = some a) :
    ∃ b o, A = some ⟨b, o, none⟩ ∧ ∀ W, Below w.heap.size w W → W.cell? ⟨b, o + k * 4, none⟩ = some (.int .u8 a.1.fuse.toNat) ∧ W.cell? ⟨b, o + k * 4 + 1, none⟩ = some a.2.1 ∧ W.cell? ⟨b, o + k * 4 + 2, none⟩ = some (.int .u8 a.1.again.toNat) ∧ W.cell? ⟨b, o + k * 4 + 3, none⟩ = some a.2.2 := by
  have hk := (List.getElem?_eq_some_iff.1 ha).1
  obtain ⟨b, o, rfl, hb, hX⟩ := row_at h (by omega)
  refine ⟨b, o, rfl, fun W hW => ?_⟩
  have hr := range_flat (f := fallC15) (sz := 4) (fun _ => rfl) (range_below hX hW hb) ha
  exact ⟨hr 0 _ rfl, hr 1 _ rfl, hr 2 _ rfl, hr 3 _ rfl⟩
section
variable {H : Type} {enc : TypeId × Value → H} {w : World} {base : Nat} {spare : Nat → Bool} {held : Bool}
theorem fates_cell {fuel : Nat} {cs : List Value} {x : DataW H × List MemPlace} (h : DataW.trod enc Tryd.prog w base spare held fuel 55 cs = some x) : ∃ v l, cs = [v] ∧ FatesAt w v l := by
  have h1 : ∃ v, cs = [v] := by
    cases fuel with
    | zero => simp [DataW.trod] at h
    | succ m =>
      unfold DataW.trod at h
      rw [Tryd.underlying55] at h
      split at h <;> simp_all
  obtain ⟨v, rfl⟩ := h1
  obtain ⟨l, hl⟩ := fates_of_trod h
  exact ⟨v, l, rfl, hl⟩
theorem nil_fates : FatesAt w (.slice none 0 0) [] := ⟨none, 0, 0, rfl, rfl, ⟨rfl, by omega, by omega, fun _ => rfl, fun x hx => by cases hx⟩⟩
theorem act15_of_trod {fuel : Nat} {cs : List Value} {x : DataW H × List MemPlace} (h : DataW.trod enc Tryd.prog w base spare held fuel 59 cs = some x) : ∃ a : A15 × Value, cs = actC15 a ∧ BytesAt w a.2 a.1.record := by
  obtain ⟨xs, m, _, _, hl, hxl, hi⟩ := DataW.trod_struct Tryd.underlying59 h
  have hl : cs.length = 2 := hl.trans (by kernel_rfl)
  have c0 : Tryd.prog.cellsOf 4 = 1 := by kernel_rfl
  have c1 : Tryd.prog.cellsOf 28 = 1 := by kernel_rfl
  have hxl2 : xs.length = 2 := hxl
  have h0 : DataW.trod enc Tryd.prog w base spare held m 4 ((cs.drop 0).take (Tryd.prog.cellsOf 4)) = xs[0]? := hi 0 _ rfl
  have h1 : DataW.trod enc Tryd.prog w base spare held m 28 ((cs.drop 1).take (Tryd.prog.cellsOf 28)) = xs[1]? := hi 1 _ rfl
  rw [c0, List.getElem?_eq_getElem (by omega)] at h0
  rw [c1, List.getElem?_eq_getElem (by omega)] at h1
  obtain ⟨b, q0, _⟩ := DataW.trod_bool Tryd.underlying4 h0
  obtain ⟨v, l, q1, hb⟩ := bytes_cell h1
  refine ⟨(⟨b, l⟩, v), ?_, hb⟩
  have e : cs = (cs.drop 0).take 1 ++ (cs.drop 1).take 1 := by
    match cs, hl with
    | [x, y], _ => rfl
  rw [e, q0, q1]
  rfl
theorem fall15_of_trod {fuel : Nat} {cs : List Value} {x : DataW H × List MemPlace} (h : DataW.trod enc Tryd.prog w base spare held fuel 57 cs = some x) : ∃ a : F15 × Value × Value, cs = fallC15 a ∧ FatesAt w a.2.1 a.1.fates ∧ FatesAt w a.2.2 a.1.more := by
  obtain ⟨xs, m, _, _, hl, hxl, hi⟩ := DataW.trod_struct Tryd.underlying57 h
  have hl : cs.length = 4 := hl.trans (by kernel_rfl)
  have c0 : Tryd.prog.cellsOf 5 = 1 := by kernel_rfl
  have c1 : Tryd.prog.cellsOf 55 = 1 := by kernel_rfl
  have hxl2 : xs.length = 4 := hxl
  have h0 : DataW.trod enc Tryd.prog w base spare held m 5 ((cs.drop 0).take (Tryd.prog.cellsOf 5)) = xs[0]? := hi 0 _ rfl
  have h1 : DataW.trod enc Tryd.prog w base spare held m 55 ((cs.drop 1).take (Tryd.prog.cellsOf 55)) = xs[1]? := hi 1 _ rfl
  have h2 : DataW.trod enc Tryd.prog w base spare held m 5 ((cs.drop 2).take (Tryd.prog.cellsOf 5)) = xs[2]? := hi 2 _ rfl
  have h3 : DataW.trod enc Tryd.prog w base spare held m 55 ((cs.drop 3).take (Tryd.prog.cellsOf 55)) = xs[3]? := hi 3 _ rfl
  rw [c0, List.getElem?_eq_getElem (by omega)] at h0 h2
  rw [c1, List.getElem?_eq_getElem (by omega)] at h1 h3
  obtain ⟨a, q0⟩ := byte_cell h0
  obtain ⟨v1, l1, q1, f1⟩ := fates_cell h1
  obtain ⟨b, q2⟩ := byte_cell h2
  obtain ⟨v2, l2, q3, f2⟩ := fates_cell h3
  refine ⟨(⟨a, l1, b, l2⟩, v1, v2), ?_, f1, f2⟩
  have e : cs = (cs.drop 0).take 1 ++ (cs.drop 1).take 1 ++ (cs.drop 2).take 1 ++ (cs.drop 3).take 1 := by
    match cs, hl with
    | [x, y, z, t], _ => rfl
  rw [e, q0, q1, q2, q3]
  rfl
theorem acts15_of_Trod {b0 : Nat} {v : Value} {d : DataW H} {p : List MemPlace} (hv : Value.okWide Tryd.prog w .any b0 52 v) (h : DataW.Trod enc Tryd.prog w base spare held 52 v d p) : ∃ l, Acts15At w v l := by
  obtain ⟨A, n, c, rfl⟩ := okWide_slice Tryd.underlying52 hv
  obtain ⟨fuel, hf⟩ := h
  obtain ⟨A, m, c, l, h1, hn, hr⟩ := rows_of_trod (α := { a : A15 × Value // BytesAt w a.2 a.1.record }) ⟨(⟨false, []⟩, .slice none 0 0), nil_bytes⟩ (fun a => actC15 a.1) 2 Tryd.underlying52 (by kernel_rfl) (by decide) (fun _ => rfl)
    (fun _ _ _ h => by
      obtain ⟨a, e, hb⟩ := act15_of_trod h
      exact ⟨⟨a, hb⟩, e⟩) (v := .slice A n c) (by simpa [Value.cells] using hf)
  refine ⟨(l.map fun a => a.1).map (·.1), A, m, c, l.map fun a => a.1, h1, by rw [List.length_map]; exact hn, rfl, ?_, fun a ha => ?_⟩
  · rw [List.map_map]; exact hr
  · obtain ⟨b, _, rfl⟩ := List.mem_map.1 ha
    exact b.2
theorem falls_of_Trod {b0 : Nat} {v : Value} {d : DataW H} {p : List MemPlace} (hv : Value.okWide Tryd.prog w .any b0 53 v) (h : DataW.Trod enc Tryd.prog w base spare held 53 v d p) : ∃ l, Falls15At w v l := by
  obtain ⟨A, n, c, rfl⟩ := okWide_slice Tryd.underlying53 hv
  obtain ⟨fuel, hf⟩ := h
  obtain ⟨A, m, c, l, h1, hn, hr⟩ := rows_of_trod (α := { a : F15 × Value × Value // FatesAt w a.2.1 a.1.fates ∧ FatesAt w a.2.2 a.1.more }) ⟨(⟨0, [], 0, []⟩, .slice none 0 0, .slice none 0 0), nil_fates, nil_fates⟩ (fun a => fallC15 a.1) 4 Tryd.underlying53 (by kernel_rfl) (by decide) (fun _ => rfl)
    (fun _ _ _ h => by
      obtain ⟨a, e, hb⟩ := fall15_of_trod h
      exact ⟨⟨a, hb⟩, e⟩) (v := .slice A n c) (by simpa [Value.cells] using hf)
  refine ⟨(l.map fun a => a.1).map (·.1), A, m, c, l.map fun a => a.1, h1, by rw [List.length_map]; exact hn, rfl, ?_, fun a ha => ?_⟩
  · rw [List.map_map]; exact hr
  · obtain ⟨b, _, rfl⟩ := List.mem_map.1 ha
    exact b.2
end
end Go.Proofs.YtbhjigejpdbeiaaDoor
end

section
/-
  many, and last, of the journal's laws.
-/
namespace Go.Proofs.YtbhjigejpdbeiaaDoor
open Go.RowKit Go.Shelf
set_option linter.unusedVariables false
set_option maxRecDepth 8000

/-- Not many: few acts, of few bytes. -/
def ManyPost (l : List A15) (w : World) (e : Ending) (w' : World) : Prop := ∃ b, e = .returned (.bool b) ∧ Below w.heap.size w w' ∧ (b = false → l.length ≤ 60 ∧ ∀ a ∈ l, a.record.length ≤ 5000)
set_option maxHeartbeats 4000000 in
theorem many_f (w : World) (v : Value) (l : List A15) (h : Acts15At w v l) : Calls Tryd.prog 28 #[v] w fun e w' => ManyPost l w e w' := by
  obtain ⟨A, n, c, L, rfl, hn, hl, hrow, hby⟩ := h
  have HN := Lib.hid hn
  have HLL := Lib.hid hl
  have HROW := Lib.hid hrow
  have HBY := Lib.hid hby
  have hN63 : (n : Int) ≤ 9223372036854775807 := by have := hrow.2.1; have := hrow.2.2.1; omega
  clear hn hl hrow hby
  go_enter Tryd.func28, Tryd.ntmps28
  go_wp2_with fail
  go_loopw [3, 4] (fun us ix wr => ∃ k q : Nat, us = .int .i64 (q : Int) ∧ ix = .int .i64 (k : Int) ∧ k ≤ n ∧ n ≤ q ∧ (q ≤ n ∨ q ≤ 8000) ∧ Hid (q ≤ 3000 → ∀ i a, i < k → L[i]? = some a → a.1.record.length ≤ 5000) ∧ wr = w) (fun us ix wr => n - (intOf ix).toNat)
  case atStart => exact ⟨0, n, rfl, rfl, by omega, by omega, by omega, Lib.hid (fun _ i r hi => by omega), rfl⟩
  case round =>
    obtain ⟨k, q, rfl, rfl, hk, hnq, hq, HALL, rfl⟩ := hrel
    by_cases hlt : k < n ∧ q ≤ 3000
    case pos =>
      have hdn : decide (k < n) = true := by simp; omega
      have hdq : decide ((q : Int) ≤ 3000) = true := by simp; omega
      obtain ⟨a, ha⟩ : ∃ a, L[k]? = some a := ⟨_, List.getElem?_eq_getElem (by have := HN.out; omega)⟩
      obtain ⟨b, o, rfl, hcell⟩ := act_cells HN.out HROW.out ha
      obtain ⟨B, m, kk, hv, hm, hrowB⟩ := (HBY.out a (List.mem_of_getElem? ha)).at_
      have hc0 : wr.cell? ⟨b, o + k * 2 + 1, none⟩ = some (.slice B m kk) := by rw [← hv]; exact (hcell wr (Below.refl _ _)).2
      have HM := Lib.hid hm
      have HA := Lib.hid ha
      have hm63 : (m : Int) ≤ 9223372036854775807 := by have := hrowB.2.1; have := hrowB.2.2.1; omega
      clear hcell hv hm hrowB ha
      by_cases hlong : m < 5000
      case pos =>
        have hdl : decide ((m : Int) < 5000) = true := by simp; omega
        have hmin : min (m : Int) 5000 = (m : Int) := by omega
        have hs2 : IntKind.i64.wrap ((q : Int) + (m : Int)) = (q : Int) + (m : Int) := IntWalk.i64_in _ (by omega)
        have hs3 : IntKind.i64.wrap ((k : Int) + 1) = (k : Int) + 1 := IntWalk.i64_in _ (by omega)
        go_wp2_with fail
        refine ⟨⟨k + 1, q + m, by simp, by simp, by omega, by omega, by omega, Lib.hid (fun h9 i r' hi hr' => ?_), trivial⟩, by simp [intOf]; omega⟩
        by_cases hik : i = k
        · subst hik
          rw [HA.out] at hr'
          injection hr' with hr'
          rw [← hr', ← HM.out]; omega
        · exact HALL.out (by omega) i r' (by omega) hr'
      case neg =>
        have hdl : decide ((m : Int) < 5000) = false := by simp; omega
        have hmin : min (m : Int) 5000 = 5000 := by omega
        have hs2 : IntKind.i64.wrap ((q : Int) + 5000) = (q : Int) + 5000 := IntWalk.i64_in _ (by omega)
        have hs3 : IntKind.i64.wrap ((k : Int) + 1) = (k : Int) + 1 := IntWalk.i64_in _ (by omega)
        go_wp2_with fail
        have e : (if (5000 : Int) < (m : Int) then 5000 else (m : Int)) = 5000 := by split <;> omega
        rw [e]
        exact ⟨⟨k + 1, q + 5000, by simp, by simp, by omega, by omega, by omega, Lib.hid (fun h9 => by omega), trivial⟩, by simp [intOf]; omega⟩
    have HEND := Lib.hid (show ¬ (3000 < q) → ¬ (60 < n) → l.length ≤ 60 ∧ ∀ a ∈ l, a.record.length ≤ 5000 from fun h1 h2 => by
      refine ⟨by rw [← HLL.out, List.length_map]; have := HN.out; omega, fun x hx => ?_⟩
      rw [← HLL.out] at hx
      obtain ⟨a, ha, rfl⟩ := List.mem_map.1 hx
      obtain ⟨i, hi⟩ := List.getElem?_of_mem ha
      have hlt2 := (List.getElem?_eq_some_iff.1 hi).1
      exact HALL.out (by omega) i a (by have := HN.out; omega) hi)
    obtain ⟨kb, hkb⟩ : ∃ kb, kb = decide (k < n) := ⟨_, rfl⟩
    cases kb
    case true =>
      have hkn : k < n := by simpa using hkb.symm
      have hdn : decide (k < n) = true := hkb.symm
      have hdq : decide ((q : Int) ≤ 3000) = false := by simp; omega
      have hdq2 : decide (3000 < (q : Int)) = true := by simp; omega
      clear hkb
      go_wp2_with fail
      go_ret
      exact ⟨true, rfl, Below.refl _ _, fun h => by cases h⟩
    have hkn : ¬ k < n := by simpa using hkb.symm
    have hdn : decide (k < n) = false := hkb.symm
    clear hkb
    by_cases h9 : 3000 < q
    case pos =>
      have hdq2 : decide (3000 < (q : Int)) = true := by simp; omega
      go_wp2_with fail
      go_ret
      exact ⟨true, rfl, Below.refl _ _, fun h => by cases h⟩
    have hdq2 : decide (3000 < (q : Int)) = false := by simp; omega
    by_cases h60 : 60 < n
    case pos =>
      have hd60 : decide (60 < (n : Int)) = true := by simp; omega
      go_wp2_with fail
      go_ret
      exact ⟨true, rfl, Below.refl _ _, fun h => by cases h⟩
    have hd60 : decide (60 < (n : Int)) = false := by simp; omega
    go_wp2_with fail
    go_ret
    exact ⟨false, rfl, Below.refl _ _, fun _ => HEND.out h9 h60⟩
theorem row_drop1 {w : World} {A : Option Addr} {n c : Nat} {l : List Value} (h : RowOf w 1 A n c l) (k : Nat) (hk : k < c) (hkn : k ≤ n) : RowOf w 1 (A.map fun a => ⟨a.block, a.off + k, a.spot⟩) (n - k) (c - k) (l.drop k) := by
  obtain ⟨h1, h2, h3, h4, h5⟩ := h
  rw [Nat.mul_one] at h1
  refine ⟨by rw [List.length_drop]; omega, by omega, by omega, fun h => ?_, fun x hx h0 => ?_⟩
  · cases A with
    | none => have := h4 rfl; omega
    | some a => cases h
  · cases A with
    | none => cases hx
    | some a =>
      injection hx with hx
      subst hx
      obtain ⟨k1, k2, k3⟩ := h5 a rfl (by omega)
      refine ⟨k1, k2, fun j v hv => ?_⟩
      dsimp only
      rw [Nat.add_assoc]
      rw [List.getElem?_drop] at hv
      exact k3 (k + j) v hv
theorem RowSet.drop {w : World} {base : Nat} {g : Option Nat} {vs : List Value} {rs : List (List UInt8)} (h : RowSet w base g vs rs) (k : Nat) : RowSet w base g (vs.drop k) (rs.drop k) :=
  ⟨by rw [List.length_drop, List.length_drop, h.len], fun i r hr => by
    rw [List.getElem?_drop] at hr
    obtain ⟨B, m, kk, e1, e2, e3, e4⟩ := h.row _ r hr
    exact ⟨B, m, kk, by rw [List.getElem?_drop]; exact e1, e2, e3, e4⟩⟩
/-- The records that a compaction leaves. -/
theorem last_f (w : World) (A : Option Addr) (n c : Nat) (rs : List (List UInt8)) (h : RecsAt w (.slice A n c) rs) :
    Calls Tryd.prog 29 #[.slice A n c] w fun e w' => e = .returned (.slice (if c = n / 2 then A else A.map fun a => ⟨a.block, a.off + n / 2, a.spot⟩) (n - n / 2) (c - n / 2)) ∧ w' = w := by
  obtain ⟨A', n', c', vs, e, hn, hrow, hset⟩ := h
  injection e with e1 e2 e3
  subst e1 e2 e3
  obtain ⟨k, hk⟩ : ∃ k, k = n / 2 := ⟨_, rfl⟩
  rw [← hk]
  have hkn : k ≤ n := by omega
  have hnc : n ≤ c := hrow.2.1
  have hcc : c ≤ 9223372036854775807 := hrow.2.2.1
  have hd2 : (n : Int) / 2 = (k : Int) := by omega
  obtain ⟨B, hB⟩ : ∃ B, B = (if c = k then A else A.map fun a => ⟨a.block, a.off + k, a.spot⟩) := ⟨_, rfl⟩
  have hcut : (Instr.slice 38 (.slice A n c) (some (.int .i64 (k : Int))) none none).run Tryd.prog w = .ok (.slice B (n - k) (c - k)) w := by
    have hAB : (if c = k then A else A.map fun a => a.add k) = B := by
      rw [hB]
      by_cases hc : c = k
      · rw [if_pos hc, if_pos hc]
      · rw [if_neg hc, if_neg hc]
        cases A with
        | none => rfl
        | some a =>
          by_cases h0 : 0 < n
          · obtain ⟨k1, k2, k3⟩ := hrow.2.2.2.2 a rfl h0
            obtain ⟨b, o, sp⟩ := a
            obtain rfl : sp = none := k1
            rw [Option.map_some, Option.map_some, add_none]
          · obtain rfl : k = 0 := by omega
            rw [Option.map_some, Option.map_some, Addr.add]
            rfl
    rw [← hAB]
    have q1 : (k : Int) ≤ (n : Int) := by omega
    have q2 : (0 : Int) ≤ (k : Int) := by omega
    clear hn hk hd2 hB hrow hset
    go_simp
  rw [← hB]
  clear hB hk hrow hset hn
  go_enter Tryd.func29, Tryd.ntmps29
  go_wp2
  go_ret
  exact ⟨rfl, rfl⟩
end Go.Proofs.YtbhjigejpdbeiaaDoor
end
