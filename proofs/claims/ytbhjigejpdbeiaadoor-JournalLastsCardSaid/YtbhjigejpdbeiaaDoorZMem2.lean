/-
  Rows of sectors and of writes in memory; a disk's value; stores of sectors; sameness of sectors and of writes.
-/
import Derived.Test.YtbhjigejpdbeiaaDoorZMem
import Derived.ChangeKeysEq
import Derived.Laws.AppendOwnNone
set_option linter.unusedSimpArgs false
set_option linter.unusedVariables false
namespace Go.Proofs.YtbhjigejpdbeiaaDoor
open Go.RowKit
set_option linter.unusedVariables false

/-! ### Lists of lists -/
theorem flat_split {L : List (List Value)} {sz : Nat} (h : ∀ x ∈ L, x.length = sz) {j : Nat} {cs : List Value} (hj : L[j]? = some cs) :
    ∃ P Q, L.flatten = P ++ cs ++ Q ∧ P.length = j * sz ∧ ∀ ds, (L.set j ds).flatten = P ++ ds ++ Q := by
  induction L generalizing j with
  | nil => simp at hj
  | cons x r ih =>
    cases j with
    | zero =>
      simp at hj; subst hj
      exact ⟨[], r.flatten, by simp, by simp, fun ds => by simp⟩
    | succ j =>
      obtain ⟨P, Q, h1, h2, h3⟩ := ih (fun y hy => h y (List.mem_cons_of_mem _ hy)) (by simpa using hj)
      refine ⟨x ++ P, Q, by simp [h1], ?_, fun ds => by simp [h3]⟩
      rw [List.length_append, h x (List.mem_cons_self ..), h2, Nat.succ_mul]; omega
theorem flat_length {L : List (List Value)} {sz : Nat} (h : ∀ x ∈ L, x.length = sz) : L.flatten.length = L.length * sz := by
  induction L with
  | nil => simp
  | cons x r ih => rw [List.flatten_cons, List.length_append, h x (List.mem_cons_self ..), ih (fun y hy => h y (List.mem_cons_of_mem _ hy)), List.length_cons, Nat.succ_mul]; omega

def secsC (l : List Sec) : List Value := (l.map secC).flatten
def wrsC (l : List Wr) : List Value := (l.map wrC).flatten
theorem secs_len (l : List Sec) : ∀ x ∈ l.map secC, x.length = 128 := by
  intro x hx; obtain ⟨s, _, rfl⟩ := List.mem_map.1 hx; exact secC_length s
theorem wrs_len (l : List Wr) : ∀ x ∈ l.map wrC, x.length = 129 := by
  intro x hx; obtain ⟨s, _, rfl⟩ := List.mem_map.1 hx; exact wrC_length s
theorem secsC_length (l : List Sec) : (secsC l).length = l.length * 128 := by rw [secsC, flat_length (secs_len l), List.length_map]
theorem wrsC_append (a b : List Wr) : wrsC (a ++ b) = wrsC a ++ wrsC b := by simp [wrsC]
theorem secsC_one (l : List Sec) : ∀ v ∈ secsC l, v.oneCell' = true := by
  intro v hv
  obtain ⟨x, hx, h⟩ := List.mem_flatten.1 hv
  obtain ⟨s, _, rfl⟩ := List.mem_map.1 hx
  exact secC_one s v h
theorem wrsC_one (l : List Wr) : ∀ v ∈ wrsC l, v.oneCell' = true := by
  intro v hv
  obtain ⟨x, hx, h⟩ := List.mem_flatten.1 hv
  obtain ⟨s, _, rfl⟩ := List.mem_map.1 hx
  exact wrC_one s v h
theorem range_secs {w : World} {b o : Nat} {l : List Sec} (h : w.rangeAt b o (secsC l)) {j : Nat} {s : Sec} (hj : l[j]? = some s) : w.rangeAt b (o + j * 128) (secC s) := by
  obtain ⟨P, Q, h1, h2, _⟩ := flat_split (secs_len l) (j := j) (cs := secC s) (by rw [List.getElem?_map, hj]; rfl)
  rw [secsC, h1] at h
  rw [← h2]
  exact range_sub h
theorem range_wrs {w : World} {b o : Nat} {l : List Wr} (h : w.rangeAt b o (wrsC l)) {j : Nat} {s : Wr} (hj : l[j]? = some s) : w.rangeAt b (o + j * 129) (wrC s) := by
  obtain ⟨P, Q, h1, h2, _⟩ := flat_split (wrs_len l) (j := j) (cs := wrC s) (by rw [List.getElem?_map, hj]; rfl)
  rw [wrsC, h1] at h
  rw [← h2]
  exact range_sub h
theorem range_wr_at {w : World} {b o : Nat} {x : Wr} (h : w.rangeAt b o (wrC x)) : w.cell? ⟨b, o, none⟩ = some (.int .i64 x.at_) := h 0 _ rfl
theorem range_wr_data {w : World} {b o : Nat} {x : Wr} (h : w.rangeAt b o (wrC x)) : w.rangeAt b (o + 1) (secC x.data) := by
  have := range_sub (w := w) (b := b) (o := o) (xs := [.int .i64 x.at_]) (ys := secC x.data) (zs := []) (by simpa [wrC] using h)
  simpa using this
theorem range_lt {w : World} {b o : Nat} {cs : List Value} (h : w.rangeAt b o cs) (h0 : 0 < cs.length) : b < w.heap.size :=
  World.block_lt_of_cell? w ⟨b, o + 0, none⟩ (h 0 _ (List.getElem?_eq_getElem h0))

theorem below_chain {a b c : World} (h : Below a.heap.size a b) (k : Below b.heap.size b c) : Below a.heap.size a c := h.trans (k.mono h.size)
theorem below_drewN {B : Nat} {a b : World} (h : Below B a b) (n : Nat) : Below B a (b.drewN n) := ⟨h.os, h.tape, h.output, h.size, h.block⟩

/-! ### Rows -/
/-- The slice's cells lie there. -/
def RowOf (w : World) (sz : Nat) (A : Option Addr) (n c : Nat) (X : List Value) : Prop :=
  X.length = n * sz ∧ n ≤ c ∧ c ≤ 9223372036854775807 ∧ (A = none → c = 0) ∧ ∀ x, A = some x → 0 < n → x.spot = none ∧ x.block < w.heap.size ∧ w.rangeAt x.block x.off X

theorem RowOf.below {w w' : World} {B sz n c : Nat} {A : Option Addr} {X : List Value} (h : RowOf w sz A n c X) (hb : Below B w w') (hB : ∀ x, A = some x → 0 < n → x.block < B) : RowOf w' sz A n c X := by
  obtain ⟨h1, h2, h3, h4, h5⟩ := h
  refine ⟨h1, h2, h3, h4, fun x hx hn => ?_⟩
  obtain ⟨k1, k2, k3⟩ := h5 x hx hn
  exact ⟨k1, Nat.lt_of_lt_of_le k2 hb.size, range_below k3 hb (hB x hx hn)⟩
theorem RowOf.kept {w w' : World} {B sz n c : Nat} {A : Option Addr} {X : List Value} (h : RowOf w sz A n c X) (hb : Below B w w') (hB : w.heap.size ≤ B) : RowOf w' sz A n c X :=
  h.below hb (fun x hx hn => Nat.lt_of_lt_of_le (h.2.2.2.2 x hx hn).2.1 hB)

/-- A disk's value reads as d. -/
def DiskAt (w : World) (v : Value) (d : Dk) : Prop :=
  ∃ A n c A' n' c', v = .agg #[.slice A n c, .slice A' n' c', .int .i64 d.fuse, .bool d.down] ∧ n = d.secs.length ∧ n' = d.loose.length ∧ RowOf w 128 A n c (secsC d.secs) ∧ RowOf w 129 A' n' c' (wrsC d.loose) ∧ -9223372036854775808 ≤ d.fuse ∧ d.fuse < 9223372036854775808
theorem DiskAt.kept {w w' : World} {B : Nat} {v : Value} {d : Dk} (h : DiskAt w v d) (hb : Below B w w') (hB : w.heap.size ≤ B) : DiskAt w' v d := by
  obtain ⟨A, n, c, A', n', c', h1, h2, h3, h4, h5, h6⟩ := h
  exact ⟨A, n, c, A', n', c', h1, h2, h3, h4.kept hb hB, h5.kept hb hB, h6⟩

/-! ### A sector's variable -/
def putSec (w : World) (b o : Nat) (s : Sec) : World := w.setCells b o (secC s)
theorem store_sec {w : World} {b o : Nat} (h : w.there b o 128) (s : Sec) : (secSet ⟨b, o, none⟩ (secV s)).run Tryd.prog w = .ok () (putSec w b o s) := by
  unfold secSet; exact run_storeVar_mid w b o 81 (secC s).toArray (by simpa [secC_length] using h) (by rw [sizeSector]; simp [secC_length]) (all_oneCell_toArray (secC_one s))
theorem range_putSec {w : World} {b o : Nat} (h : w.there b o 128) (s : Sec) : (putSec w b o s).rangeAt b o (secC s) :=
  World.rangeAt_setCells_same w b o (secC s) (by simpa [secC_length] using h)
theorem size_setCells (b : Nat) : ∀ (vs : List Value) (o : Nat) (w : World), (w.setCells b o vs).heap.size = w.heap.size
  | [], _, _ => rfl
  | v :: r, o, w => by rw [World.setCells, size_setCells b r]; simp [World.setCell]
theorem below_setCells {B : Nat} {a : World} (b : Nat) (hb : B ≤ b) : ∀ (vs : List Value) (o : Nat) (w : World), Below B a w → Below B a (w.setCells b o vs)
  | [], _, _, h => h
  | v :: r, o, w, h => by rw [World.setCells]; exact below_setCells b hb r (o + 1) _ (h.setCell (p := ⟨b, o, none⟩) hb v)
theorem size_putSec (w : World) (b o : Nat) (s : Sec) : (putSec w b o s).heap.size = w.heap.size := size_setCells _ _ _ _
theorem below_putSec {B : Nat} {a w : World} (h : Below B a w) {b : Nat} (hb : B ≤ b) (o : Nat) (s : Sec) : Below B a (putSec w b o s) := below_setCells b hb _ _ _ h
theorem there_putSec {w : World} {b o b' o' n : Nat} (h : w.there b' o' n) (s : Sec) : (putSec w b o s).there b' o' n := World.there_setCells h b o _
theorem load_put {w : World} {b o : Nat} (h : w.there b o 128) (s : Sec) : (secVar ⟨b, o, none⟩).run Tryd.prog (putSec w b o s) = .ok (secV s) (putSec w b o s) :=
  load_secVar (range_putSec h s)

theorem cell_of_new (w : World) (C : Array Value) (t : TypeId) (j : Nat) : (w.alloc (.cells C t)).cell? ⟨w.heap.size, j, none⟩ = C[j]? :=
  cell_of_row _ _ _ C t (0, 0) (heap_alloc_new w _)
theorem range_new (w : World) (cs : List Value) (t : TypeId) : (w.alloc (.cells cs.toArray t)).rangeAt w.heap.size 0 cs := by
  intro j v hv
  rw [Nat.zero_add, cell_of_new]
  simpa using hv
theorem there_new (w : World) (cs : List Value) (t : TypeId) : (w.alloc (.cells cs.toArray t)).there w.heap.size 0 cs.length := by
  intro j hj
  refine ⟨by rw [Nat.zero_add, cell_of_new]; simp [hj], ?_⟩
  have h := heap_alloc_new w (.cells cs.toArray t)
  unfold World.frozen?
  dsimp only
  rw [h]
  simp
theorem there_below {w w' : World} {B b o n : Nat} (h : w.there b o n) (hb : Below B w w') (hB : b < B) : w'.there b o n := by
  intro j hj
  rw [hb.cell (p := ⟨b, o + j, none⟩) hB, hb.frozen (p := ⟨b, o + j, none⟩) hB]
  exact h j hj

@[go_sem] theorem run_secMade0 (w : World) : (secMade #[]).run Tryd.prog w = .ok (secV zeroSec) w := by
  rw [secMade]
  exact run_build w 81 _ _ (by kernel_rfl)
@[go_sem] theorem run_secsMade0 (w : World) : (secsMade 0 #[]).run Tryd.prog w = .ok (.slice (some ⟨w.heap.size, 0, none⟩) 0 0) (w.alloc (.cells #[] 81)) := by
  rw [secsMade]; simp [Instr.buildSlice, Sem.run_bind, run_underlying Tryd.underlying22, Tryd.sizeOf81, Instr.fill, newRow, newObj, Array.range_zero']; rfl
@[go_sem] theorem run_wrsMade0 (w : World) : (wrsMade 0 #[]).run Tryd.prog w = .ok (.slice (some ⟨w.heap.size, 0, none⟩) 0 0) (w.alloc (.cells #[] 83)) := by
  rw [wrsMade]; simp [Instr.buildSlice, Sem.run_bind, run_underlying Tryd.underlying23, Tryd.sizeOf83, Instr.fill, newRow, newObj, Array.range_zero']; rfl

/-! ### Sameness -/
theorem eqItems_refl (e : TypeId) (P : Program) (xs : Array Value) (w : World) (hp : ∀ d i, i < xs.size → ∃ v, (part e xs i).run P w = .ok v w ∧ (Op.equalIn (d + 1) e v v).run P w = .ok true w) (d : Nat) :
    ∀ is : List Nat, (∀ i ∈ is, i < xs.size) → (Op.eqItems (d + 1) e 1 xs xs is).run P w = .ok true w
  | [], _ => by simp [Op.eqItems]
  | i :: is, h => by
    obtain ⟨v, h1, h2⟩ := hp d i (h i (List.mem_cons_self ..))
    have ih := eqItems_refl e P xs w hp d is (fun j hj => h j (List.mem_cons_of_mem _ hj))
    simp [Op.eqItems, Sem.run_bind, Nat.mul_one, h1, h2, ih]
theorem eq_secIn (d : Nat) (s : Sec) (w : World) : (Op.equalIn (d + 2) 81 (secV s) (secV s)).run Tryd.prog w = .ok true w := by
  obtain ⟨i, hi⟩ : ∃ i, Tryd.prog.info? 5 = some i := Option.isSome_iff_exists.1 (by kernel_rfl)
  have hc : Tryd.prog.cellsOf 5 = 1 := by kernel_rfl
  rw [run_equalIn_array w (d + 1) _ _ Tryd.underlying81 hi, hc]
  refine eqItems_refl 5 Tryd.prog _ w ?_ d _ ?_
  · intro d i hi
    have hi' : i < s.1.length := by simpa [secC, Lib.byteCells_length] using hi
    refine ⟨.int .u8 (s.1[i]).toNat, run_part_plain w (by kernel_rfl) ?_, ?_⟩
    · simp [secC, Lib.byteCells, hi']
    · rw [run_equalIn_int w d 5 .u8 .u8 _ _ Tryd.underlying5]; simp
  · intro i hi
    simp only [List.mem_range] at hi
    simp [secC_length, hi]
@[irreducible] def secEql (x y : Value) : Sem Value := binOp .eql 81 x y
@[irreducible] def secNeq (x y : Value) : Sem Value := binOp .neq 81 x y
@[go_sem ↓] theorem secEql_def (x y : Value) : binOp .eql 81 x y = secEql x y := by unfold secEql; rfl
@[go_sem ↓] theorem secNeq_def (x y : Value) : binOp .neq 81 x y = secNeq x y := by unfold secNeq; rfl
@[go_sem] theorem eql_sec (s : Sec) (w : World) : (secEql (secV s) (secV s)).run Tryd.prog w = .ok (.bool true) w := by
  rw [secEql, run_eql_struct, eq_secIn 9998 s w]; rfl
@[go_sem] theorem neq_sec (s : Sec) (w : World) : (secNeq (secV s) (secV s)).run Tryd.prog w = .ok (.bool false) w := by
  rw [secNeq, run_neq_struct, eq_secIn 9998 s w]; rfl
theorem run_isAgg_sec (w : World) : (isAgg 81).run Tryd.prog w = .ok true w := by
  unfold isAgg; rw [Sem.run_bind, run_underlying Tryd.underlying81 w]; rfl
theorem part_data (x : Wr) (w : World) : (part 81 (wrC x).toArray 1).run Tryd.prog w = .ok (secV x.data) w := by
    obtain ⟨i, hi⟩ : ∃ i, Tryd.prog.info? 81 = some i := Option.isSome_iff_exists.1 (by kernel_rfl)
    have hc : Tryd.prog.cellsOf 81 = 128 := by kernel_rfl
    unfold part
    rw [Sem.run_bind, run_isAgg_sec, Result.andThen_ok, if_pos rfl, Sem.run_bind, run_sizeOf w hi, hc, Result.andThen_ok, Sem.run_pure]
    have e : (wrC x).toArray.extract 1 (1 + 128) = (secC x.data).toArray := by
      apply Array.toList_inj.1
      rw [Array.toList_extract, List.extract_eq_take_drop]
      show List.take (1 + 128 - 1) (secC x.data) = secC x.data
      exact List.take_of_length_le (by rw [secC_length]; omega)
    rw [e]
theorem eq_wr_fields (d : Nat) (C : Array Value) (V : Value) (a : Int) (w : World) (h1 : (part 3 C 0).run Tryd.prog w = .ok (.int .i64 a) w) (h2 : (part 81 C 1).run Tryd.prog w = .ok V w)
    (h4 : (Op.equalIn (d + 2) 81 V V).run Tryd.prog w = .ok true w) : (Op.eqFields (d + 2) C C (Tryd.prog.fieldsOf 83).toList).run Tryd.prog w = .ok true w := by
  have h3 := run_equalIn_int w (d + 1) 3 .i64 .i64 a a Tryd.underlying3
  rw [beq_self_eq_true] at h3
  have n1 : ¬ ("At" = "_") := by decide
  have n2 : ¬ ("Data" = "_") := by decide
  simp only [Program.fieldsOf, Tryd.underlying83]
  simp only [Op.eqFields, ne_eq, n1, n2, not_false_eq_true, if_true, Sem.run_bind, h1, h2, h3, h4, Result.andThen_ok, Bool.not_true, Bool.false_eq_true, if_false, Sem.run_pure]
theorem fields_wr : Tryd.prog.underlying 83 = some (.struct (Tryd.prog.fieldsOf 83)) := by simp only [Program.fieldsOf, Tryd.underlying83]
theorem eq_wrIn (d : Nat) (x : Wr) (w : World) : (Op.equalIn (d + 3) 83 (wrV x) (wrV x)).run Tryd.prog w = .ok true w :=
  (run_equalIn_agg w (d + 2) 83 (wrC x).toArray (wrC x).toArray fields_wr Tryd.stoodInHeld83).trans
    (eq_wr_fields d (wrC x).toArray (secV x.data) x.at_ w (run_part_plain w (by kernel_rfl) rfl) (part_data x w) (eq_secIn d x.data w))
@[irreducible] def wrNeq (x y : Value) : Sem Value := binOp .neq 83 x y
@[go_sem ↓] theorem wrNeq_def (x y : Value) : binOp .neq 83 x y = wrNeq x y := by unfold wrNeq; rfl
@[go_sem] theorem neq_wr (x : Wr) (w : World) : (wrNeq (wrV x) (wrV x)).run Tryd.prog w = .ok (.bool false) w := by
  rw [wrNeq, run_neq_struct, eq_wrIn 9997 x w]; rfl
/-- The guard of '==' on sectors and writes. -/
@[go_sem] theorem guard_sec (op : BinOp) (a b : Operand) (s t : Sec) (w : World) : (eqGuard op 81 a b (secV s) (secV t)).run Tryd.prog w = .ok () w :=
  run_eqGuard_agg w op 81 a b _ _ Tryd.eqGuardType81
@[go_sem] theorem guard_wr (op : BinOp) (a b : Operand) (s t : Wr) (w : World) : (eqGuard op 83 a b (wrV s) (wrV t)).run Tryd.prog w = .ok () w :=
  run_eqGuard_agg w op 83 a b _ _ Tryd.eqGuardType83
end Go.Proofs.YtbhjigejpdbeiaaDoor
