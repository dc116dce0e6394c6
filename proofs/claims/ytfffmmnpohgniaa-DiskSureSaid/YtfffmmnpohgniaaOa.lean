/-
  Acts in memory; arrays of eight bytes, of eight integers.
-/
import Derived.Test.YtfffmmnpohgniaaOp
import Derived.Test.YtfffmmnpohgniaaPs
namespace Go.Proofs.Ytfffmmnpohgniaa
open Go.ChangeShapes Go.WideShapes Go.RowKit Go.Deep
set_option linter.unusedVariables false

def actC (x : Ac) : List Value := [.bool x.sync, .int .u8 x.at_.toNat, .int .u8 x.byte.toNat]
def actsC (l : List Ac) : List Value := (l.map actC).flatten
theorem acts_len (l : List Ac) : ∀ x ∈ l.map actC, x.length = 3 := by
  intro x hx; obtain ⟨s, _, rfl⟩ := List.mem_map.1 hx; rfl
theorem range_acts {w : World} {b o : Nat} {l : List Ac} (h : w.rangeAt b o (actsC l)) {j : Nat} {s : Ac} (hj : l[j]? = some s) : w.rangeAt b (o + j * 3) (actC s) := by
  obtain ⟨P, Q, h1, h2, _⟩ := flat_split (acts_len l) (j := j) (cs := actC s) (by rw [List.getElem?_map, hj]; rfl)
  rw [actsC, h1] at h
  rw [← h2]
  exact range_sub h
def ActsAt (w : World) (v : Value) (l : List Ac) : Prop := ∃ A n c, v = .slice A n c ∧ n = l.length ∧ RowOf w 3 A n c (actsC l)
theorem ActsAt.step {w w' : World} {v : Value} {l : List Ac} (h : ActsAt w v l) (hb : Below w.heap.size w w') : ActsAt w' v l := by
  obtain ⟨A, n, c, h1, h2, h3⟩ := h
  exact ⟨A, n, c, h1, h2, h3.kept hb (Nat.le_refl _)⟩
section
variable {H : Type} {enc : TypeId × Value → H} {w : World} {base : Nat} {spare : Nat → Bool} {held : Bool}
theorem act_of_trod {fuel : Nat} {cs : List Value} {x : DataW H × List MemPlace} (h : DataW.trod enc Try.prog w base spare held fuel 51 cs = some x) : ∃ f : Ac, cs = actC f := by
  obtain ⟨xs, m, _, _, hl, hxl, hi⟩ := DataW.trod_struct Try.underlying51 h
  have hl : cs.length = 3 := hl.trans (by kernel_rfl)
  have c0 : Try.prog.cellsOf 5 = 1 := by kernel_rfl
  have c1 : Try.prog.cellsOf 4 = 1 := by kernel_rfl
  have hxl2 : xs.length = 3 := hxl
  have h0 : DataW.trod enc Try.prog w base spare held m 4 ((cs.drop 0).take (Try.prog.cellsOf 4)) = xs[0]? := hi 0 _ rfl
  have h1 : DataW.trod enc Try.prog w base spare held m 5 ((cs.drop 1).take (Try.prog.cellsOf 5)) = xs[1]? := hi 1 _ rfl
  have h2 : DataW.trod enc Try.prog w base spare held m 5 ((cs.drop 2).take (Try.prog.cellsOf 5)) = xs[2]? := hi 2 _ rfl
  rw [c1, List.getElem?_eq_getElem (by omega)] at h0
  rw [c0, List.getElem?_eq_getElem (by omega)] at h1 h2
  obtain ⟨b, q0, _⟩ := DataW.trod_bool Try.underlying4 h0
  obtain ⟨n, q1, _, k1⟩ := DataW.trod_int Try.underlying5 h1
  obtain ⟨n', q2, _, k2⟩ := DataW.trod_int Try.underlying5 h2
  have b1 : 0 ≤ n ∧ n ≤ 255 := by simpa [Lit.wf, IntKind.min, IntKind.max, IntKind.signed, IntKind.bits] using k1
  have b2 : 0 ≤ n' ∧ n' ≤ 255 := by simpa [Lit.wf, IntKind.min, IntKind.max, IntKind.signed, IntKind.bits] using k2
  refine ⟨⟨b, UInt8.ofNat n.toNat, UInt8.ofNat n'.toNat⟩, ?_⟩
  have e : cs = (cs.drop 0).take 1 ++ ((cs.drop 1).take 1 ++ (cs.drop 2).take 1) := by
    match cs, hl with
    | [a, b, c], _ => rfl
  have e1 : ((UInt8.ofNat n.toNat).toNat : Int) = n := by simp only [UInt8.toNat_ofNat']; omega
  have e2 : ((UInt8.ofNat n'.toNat).toNat : Int) = n' := by simp only [UInt8.toNat_ofNat']; omega
  rw [e, q0, q1, q2]
  simp only [actC, e1, e2]
  rfl
theorem acts_of_Trod {b0 : Nat} {v : Value} {d : DataW H} {p : List MemPlace} (hv : Value.okWide Try.prog w .any b0 47 v) (h : DataW.Trod enc Try.prog w base spare held 47 v d p) : ∃ l, ActsAt w v l := by
  obtain ⟨A, n, c, rfl⟩ := okWide_slice Try.underlying47 hv
  obtain ⟨fuel, hf⟩ := h
  obtain ⟨A, m, c, l, h1, hn, hr⟩ := rows_of_trod (⟨false, 0, 0⟩ : Ac) actC 3 Try.underlying47 (by kernel_rfl) (by decide) (fun _ => rfl) (fun _ _ _ h => act_of_trod h) (v := .slice A n c) (by simpa [Value.cells] using hf)
  exact ⟨l, A, m, c, h1, hn, hr⟩
end

/-! ### Arrays of eight -/
def natC (l : List Nat) : List Value := l.map fun (n : Nat) => Value.int .i64 (n : Int)
@[irreducible] def b8Var (a : Addr) : Sem Value := loadVar 48 a
@[irreducible] def b8Set (a : Addr) (v : Value) : Sem Unit := storeVar 48 a v
@[irreducible] def i8Set (a : Addr) (v : Value) : Sem Unit := storeVar 49 a v
@[go_sem ↓] theorem b8Var_def (a : Addr) : loadVar 48 a = b8Var a := by unfold b8Var; rfl
@[go_sem ↓] theorem b8Set_def (a : Addr) (v : Value) : storeVar 48 a v = b8Set a v := by unfold b8Set; rfl
@[go_sem ↓] theorem i8Set_def (a : Addr) (v : Value) : storeVar 49 a v = i8Set a v := by unfold i8Set; rfl
theorem load_b8 {w : World} {b : Nat} {l : List UInt8} (h : w.rangeAt b 0 (Lib.byteCells l)) (hl : l.length = 8) : (b8Var ⟨b, 0, none⟩).run Try.prog w = .ok (.agg (Lib.byteCells l).toArray) w := by
  unfold b8Var
  exact run_loadVar_mid w b 0 48 (Lib.byteCells l) _ h Try.underlying48 rfl (by rw [Lib.byteCells_length, hl]; kernel_rfl)
theorem bytes_one (l : List UInt8) : ∀ v ∈ Lib.byteCells l, v.oneCell' = true := by
  intro v hv
  simp only [Lib.byteCells, List.mem_map] at hv
  obtain ⟨u, _, rfl⟩ := hv
  rfl
theorem nats_one (l : List Nat) : ∀ v ∈ natC l, v.oneCell' = true := by
  intro v hv
  simp only [natC, List.mem_map] at hv
  obtain ⟨u, _, rfl⟩ := hv
  rfl
theorem store_b8 {w : World} {b : Nat} {l : List UInt8} (h : w.there b 0 8) (hl : l.length = 8) : (b8Set ⟨b, 0, none⟩ (.agg (Lib.byteCells l).toArray)).run Try.prog w = .ok () (w.setCells b 0 (Lib.byteCells l)) := by
  unfold b8Set
  have := run_storeVar_mid (P := Try.prog) w b 0 48 (Lib.byteCells l).toArray (by simpa [Lib.byteCells_length, hl] using h) (by
    have : (Try.prog.info? 48).map (·.size) = some 8 := by kernel_rfl
    rw [this]; simp [Lib.byteCells_length, hl]) (all_oneCell_toArray (bytes_one l))
  exact this
theorem store_i8 {w : World} {b : Nat} {l : List Nat} (h : w.there b 0 8) (hl : l.length = 8) : (i8Set ⟨b, 0, none⟩ (.agg (natC l).toArray)).run Try.prog w = .ok () (w.setCells b 0 (natC l)) := by
  unfold i8Set
  have := run_storeVar_mid (P := Try.prog) w b 0 49 (natC l).toArray (by simpa [natC, hl] using h) (by
    have : (Try.prog.info? 49).map (·.size) = some 8 := by kernel_rfl
    rw [this]; simp [natC, hl]) (all_oneCell_toArray (nats_one l))
  exact this
/-- The variable at block b holds these cells, and may be written. -/
structure Arr (w : World) (b : Nat) (cs : List Value) : Prop where
  lt : b < w.heap.size
  range : w.rangeAt b 0 cs
  there : w.there b 0 cs.length
theorem Arr.step {w w' : World} {b : Nat} {cs : List Value} (h : Arr w b cs) (hb : Below w.heap.size w w') : Arr w' b cs :=
  ⟨Nat.lt_of_lt_of_le h.lt hb.size, range_below h.range hb h.lt, there_below h.there hb h.lt⟩
theorem Arr.keepb {w w' : World} {b : Nat} {cs : List Value} (h : Arr w b cs) (hs : w.heap.size ≤ w'.heap.size) (hk : w'.heap[b]? = w.heap[b]?) : Arr w' b cs :=
  ⟨Nat.lt_of_lt_of_le h.lt hs, range_keepb h.range hk, there_keepb h.there hk⟩
theorem arr_new (w : World) (cs : List Value) (t : TypeId) : Arr (w.alloc (.cells cs.toArray t)) w.heap.size cs := ⟨by simp, range_new w cs t, there_new w cs t⟩
theorem Arr.set {w : World} {b : Nat} {cs : List Value} (h : Arr w b cs) (j : Nat) (v : Value) (hj : j < cs.length) : Arr (w.setCell ⟨b, j, none⟩ v) b (cs.set j v) :=
  ⟨by rw [size_set]; exact h.lt, by have := range_setCell h.range j v hj; rwa [Nat.zero_add] at this, by rw [List.length_set]; exact there_setCell h.there _ _⟩
theorem Arr.all {w : World} {b : Nat} {cs ds : List Value} (h : Arr w b cs) (hl : ds.length = cs.length) : Arr (w.setCells b 0 ds) b ds :=
  ⟨by rw [size_setCells]; exact h.lt, World.rangeAt_setCells_same w b 0 ds (by rw [hl]; exact h.there), by rw [hl]; exact World.there_setCells h.there _ _ _⟩
theorem Arr.cell {w : World} {b : Nat} {cs : List Value} (h : Arr w b cs) {j : Nat} {v : Value} (hj : cs[j]? = some v) : w.cell? ⟨b, j, none⟩ = some v := by
  have := h.range j v hj; rwa [Nat.zero_add] at this
theorem Arr.free {w : World} {b : Nat} {cs : List Value} (h : Arr w b cs) {j : Nat} (hj : j < cs.length) : w.frozen? ⟨b, j, none⟩ = false := by
  have := (h.there j hj).2; rwa [Nat.zero_add] at this
end Go.Proofs.Ytfffmmnpohgniaa
