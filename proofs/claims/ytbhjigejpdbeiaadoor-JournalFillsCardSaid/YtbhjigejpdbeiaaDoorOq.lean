/-
  What came in, read as logs, bytes, records, acts, falls.
-/
import Derived.Test.YtbhjigejpdbeiaaDoorOp
import Derived.Test.YtbhjigejpdbeiaaDoorKBs
set_option linter.unusedSimpArgs false
set_option linter.unusedVariables false
namespace Go.Proofs.YtbhjigejpdbeiaaDoor
open Go.ChangeShapes Go.WideShapes Go.RowKit Go.Deep
set_option linter.unusedVariables false
set_option maxRecDepth 100000

section
variable {H : Type} {enc : TypeId × Value → H} {w : World} {base : Nat} {spare : Nat → Bool} {held : Bool}

theorem log_of_trod {b0 : Nat} {v : Value} {d : DataW H} {p : List MemPlace} (hv : Value.okWide Tryd.prog w .any b0 27 v) (h : DataW.Trod enc Tryd.prog w base spare held 27 v d p) :
    ∃ a b c : Int, v = .agg #[.int .i64 a, .int .i64 b, .int .i64 c] := by
  have hu := Tryd.underlying27
  simp only [Value.okWide, hu] at hv
  obtain ⟨cs, rfl, hsz⟩ := hv
  obtain ⟨fuel, hf⟩ := h
  obtain ⟨xs, m, _, _, hl, hxl, hi⟩ := DataW.trod_struct Tryd.underlying27 hf
  have hc : Tryd.prog.cellsOf 3 = 1 := by kernel_rfl
  have hl : cs.toList.length = 3 := hl.trans (by kernel_rfl)
  have hxl2 : xs.length = 3 := hxl
  have h0 : DataW.trod enc Tryd.prog w base spare held m 3 ((cs.toList.drop 0).take (Tryd.prog.cellsOf 3)) = xs[0]? := hi 0 _ rfl
  have h1 : DataW.trod enc Tryd.prog w base spare held m 3 ((cs.toList.drop 1).take (Tryd.prog.cellsOf 3)) = xs[1]? := hi 1 _ rfl
  have h2 : DataW.trod enc Tryd.prog w base spare held m 3 ((cs.toList.drop 2).take (Tryd.prog.cellsOf 3)) = xs[2]? := hi 2 _ rfl
  rw [hc, List.getElem?_eq_getElem (by omega)] at h0 h1 h2
  obtain ⟨a, q1, _, _⟩ := DataW.trod_int Tryd.underlying3 h0
  obtain ⟨b, q2, _, _⟩ := DataW.trod_int Tryd.underlying3 h1
  obtain ⟨c, q3, _, _⟩ := DataW.trod_int Tryd.underlying3 h2
  refine ⟨a, b, c, ?_⟩
  have e : cs.toList = (cs.toList.drop 0).take 1 ++ (cs.toList.drop 1).take 1 ++ (cs.toList.drop 2).take 1 := by
    generalize cs.toList = l at *
    match l, hl with
    | [x, y, z], _ => rfl
  congr 1
  apply Array.toList_inj.1
  rw [e, q1, q2, q3]
  rfl
theorem byte_cell {fuel : Nat} {cs : List Value} {x : DataW H × List MemPlace} (h : DataW.trod enc Tryd.prog w base spare held fuel 5 cs = some x) : ∃ u : UInt8, cs = [.int .u8 u.toNat] := by
  obtain ⟨n, q1, _, k1⟩ := DataW.trod_int Tryd.underlying5 h
  have b1 : 0 ≤ n ∧ n ≤ 255 := by simpa [Lit.wf, IntKind.min, IntKind.max, IntKind.signed, IntKind.bits] using k1
  refine ⟨UInt8.ofNat n.toNat, ?_⟩
  have e1 : ((UInt8.ofNat n.toNat).toNat : Int) = n := by simp only [UInt8.toNat_ofNat']; omega
  rw [q1, e1]
/-- A slice that reads as bytes. -/
structure BytesAt (w : World) (v : Value) (l : List UInt8) : Prop where
  at_ : ∃ A n c, v = .slice A n c ∧ n = l.length ∧ RowOf w 1 A n c (Lib.byteCells l)
theorem flat_bytes (l : List UInt8) : (l.map fun u : UInt8 => [Value.int .u8 (u.toNat : Int)]).flatten = Lib.byteCells l := by
  induction l with
  | nil => rfl
  | cons a r ih => rw [List.map_cons, List.flatten_cons, ih]; rfl
theorem bytes_of_trod {fuel : Nat} {v : Value} {x : DataW H × List MemPlace} (h : DataW.trod enc Tryd.prog w base spare held fuel 28 [v] = some x) : ∃ l, BytesAt w v l := by
  obtain ⟨A, m, c, l, rfl, hn, hr⟩ := rows_of_trod (0 : UInt8) (fun u : UInt8 => [Value.int .u8 (u.toNat : Int)]) 1 Tryd.underlying28 (by kernel_rfl) (by decide) (fun _ => rfl) (fun _ _ _ h => byte_cell h) h
  rw [flat_bytes] at hr
  exact ⟨l, ⟨A, m, c, rfl, hn, hr⟩⟩
theorem bytes_of_Trod {b0 : Nat} {v : Value} {d : DataW H} {p : List MemPlace} (hv : Value.okWide Tryd.prog w .any b0 28 v) (h : DataW.Trod enc Tryd.prog w base spare held 28 v d p) : ∃ l, BytesAt w v l := by
  obtain ⟨A, n, c, rfl⟩ := okWide_slice Tryd.underlying28 hv
  obtain ⟨fuel, hf⟩ := h
  exact bytes_of_trod (by simpa [Value.cells] using hf)
theorem bytes_cell {fuel : Nat} {cs : List Value} {x : DataW H × List MemPlace} (h : DataW.trod enc Tryd.prog w base spare held fuel 28 cs = some x) : ∃ v l, cs = [v] ∧ BytesAt w v l := by
  have h1 : ∃ v, cs = [v] := by
    cases fuel with
    | zero => simp [DataW.trod] at h
    | succ m =>
      unfold DataW.trod at h
      rw [Tryd.underlying28] at h
      split at h <;> simp_all
  obtain ⟨v, rfl⟩ := h1
  obtain ⟨l, hl⟩ := bytes_of_trod h
  exact ⟨v, l, rfl, hl⟩
theorem nil_bytes : BytesAt w (.slice none 0 0) [] := ⟨none, 0, 0, rfl, rfl, ⟨rfl, by omega, by omega, fun _ => rfl, fun x hx => by cases hx⟩⟩
theorem flat_ones {α : Type} (f : α → Value) (l : List α) : (l.map fun a => [f a]).flatten = l.map f := by
  induction l with
  | nil => rfl
  | cons a r ih => rw [List.map_cons, List.flatten_cons, ih]; rfl
theorem recs_of_trod {fuel : Nat} {v : Value} {x : DataW H × List MemPlace} (h : DataW.trod enc Tryd.prog w base spare held fuel 38 [v] = some x) : ∃ rs, RecsAt w v rs := by
  obtain ⟨A, m, c, l, rfl, hn, hr⟩ := rows_of_trod (α := { a : Value × List UInt8 // BytesAt w a.1 a.2 }) ⟨(.slice none 0 0, []), nil_bytes⟩ (fun a => [a.1.1]) 1 Tryd.underlying38 (by kernel_rfl) (by decide) (fun _ => rfl)
    (fun _ _ _ h => by
      obtain ⟨v, l, e, hl⟩ := bytes_cell h
      exact ⟨⟨(v, l), hl⟩, e⟩) h
  rw [flat_ones (fun a : { a : Value × List UInt8 // BytesAt w a.1 a.2 } => a.1.1)] at hr
  refine ⟨l.map fun a => a.1.2, A, m, c, _, rfl, by rw [List.length_map]; exact hn, hr, ⟨by simp, fun i r hi => ?_⟩⟩
  rw [List.getElem?_map, Option.map_eq_some_iff] at hi
  obtain ⟨a, ha, rfl⟩ := hi
  obtain ⟨B, k, kk, e, hk, hrow⟩ := a.2.at_
  exact ⟨B, k, kk, by rw [List.getElem?_map, ha, Option.map_some, e], hk, hrow, fun x _ _ => ⟨Nat.zero_le _, fun q => by cases q⟩⟩
theorem recs_of_Trod {b0 : Nat} {v : Value} {d : DataW H} {p : List MemPlace} (hv : Value.okWide Tryd.prog w .any b0 38 v) (h : DataW.Trod enc Tryd.prog w base spare held 38 v d p) : ∃ rs, RecsAt w v rs := by
  obtain ⟨A, n, c, rfl⟩ := okWide_slice Tryd.underlying38 hv
  obtain ⟨fuel, hf⟩ := h
  exact recs_of_trod (by simpa [Value.cells] using hf)
end
end Go.Proofs.YtbhjigejpdbeiaaDoor
