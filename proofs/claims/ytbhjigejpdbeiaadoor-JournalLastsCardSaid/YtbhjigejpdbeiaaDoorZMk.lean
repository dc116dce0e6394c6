/-
  How writes and rows of one write are made.
-/
import Derived.Test.YtbhjigejpdbeiaaDoorZMem3
set_option linter.unusedSimpArgs false
set_option linter.unusedVariables false
namespace Go.Proofs.YtbhjigejpdbeiaaDoor
open Go.RowKit
set_option linter.unusedVariables false

theorem fill_seg : ∀ (cs : List Value) (off k : Nat) (A : Array Value), off + k + cs.length ≤ A.size →
    ((cs.zipIdx k).foldl (fun (a : Array Value) (x : Value × Nat) => a.setIfInBounds (off + x.2) x.1) A).toList = A.toList.take (off + k) ++ cs ++ A.toList.drop (off + k + cs.length)
  | [], off, k, A, _ => by simp
  | c :: r, off, k, A, h => by
    rw [List.zipIdx_cons, List.foldl_cons]
    have hl : (A.setIfInBounds (off + k) c).size = A.size := by simp
    rw [List.length_cons] at h
    have e1 : List.take (off + (k + 1)) (A.toList.set (off + k) c) = A.toList.take (off + k) ++ [c] := by
      rw [← Nat.add_assoc, List.take_add_one, List.take_set_of_le (Nat.le_refl _)]
      congr 1
      rw [List.getElem?_set_self (by simp; omega)]
      rfl
    have e2 : List.drop (off + (k + 1) + r.length) (A.toList.set (off + k) c) = A.toList.drop (off + (k + 1) + r.length) := List.drop_set_of_lt (by omega)
    rw [fill_seg r off (k + 1) _ (by rw [hl]; omega)]
    rw [Array.toList_setIfInBounds, e1, e2, List.length_cons, show off + (k + 1) + r.length = off + k + (r.length + 1) by omega]
    simp

theorem fill_seg' (cs : List Value) (off : Nat) (A : Array Value) (h : off + cs.length ≤ A.size) :
    cs.toArray.zipIdx.foldl (fun (a : Array Value) (x : Value × Nat) => match x with | (c, j) => a.setIfInBounds (off + j) c) A = (A.toList.take off ++ cs ++ A.toList.drop (off + cs.length)).toArray := by
  apply Array.toList_inj.1
  have h1 := fill_seg cs off 0 A (by simpa using h)
  simp only [Nat.add_zero] at h1
  have h2 : cs.toArray.zipIdx = (cs.zipIdx 0).toArray := by
    apply Array.toList_inj.1
    simp
  rw [h2]
  simp only [List.foldl_toArray']
  exact h1

theorem run_build_two (P : Program) (w : World) (t : TypeId) (fs : Array Field) (z : Value) (a b : Value) (o1 s1 o2 s2 : Nat) (C : Array Value)
    (hz : (zeroValue t).run P w = .ok z w) (hu : P.underlying t = some (.struct fs)) (hp : (fs.mapM fun (f : Field) => do pure (f.offset, ← sizeOf f.type)).run P w = .ok #[(o1, s1), (o2, s2)] w)
    (hf : Instr.fill (#[(o1, s1), (o2, s2)][·]?) z.cells [(0, a), (1, b)] = some C) : (Instr.build t #[(0, a), (1, b)]).run P w = .ok (.agg C) w := by
  unfold Instr.build
  rw [Sem.run_bind, hz, Result.andThen_ok]
  simp only [Sem.run_bind, run_underlying hu, Result.andThen_ok, hp, hf, Sem.run_pure]

theorem zeroValue_wr (w : World) : (zeroValue 83).run Tryd.prog w = .ok (wrV zeroWr) w := by
  obtain ⟨i, hi, hz, _⟩ := info_parts infoWrite
  simp [zeroValue, typeInfo, hi, hz]
@[go_sem] theorem run_wrMade (i : Int) (s : Sec) (w : World) : (wrMade #[(0, .int .i64 i), (1, secV s)]).run Tryd.prog w = .ok (wrV ⟨i, s⟩) w := by
  unfold wrMade
  refine run_build_two Tryd.prog w 83 _ (wrV zeroWr) _ _ 0 1 1 128 _ (zeroValue_wr w) Tryd.underlying83 ?_ ?_
  · simp [Sem.run_bind, Tryd.sizeOf3, Tryd.sizeOf81]
  · have hl := secC_length s
    have hz := secC_length zeroSec
    have e1 : (Value.int IntKind.i64 i).cells = #[.int .i64 i] := rfl
    have e2 : (secV s).cells = (secC s).toArray := rfl
    have e3 : (wrV zeroWr).cells = (wrC zeroWr).toArray := rfl
    rw [e3]
    have f1 : ((#[Value.int .i64 i] : Array Value).zipIdx.foldl (fun (a : Array Value) (x : Value × Nat) => match x with | (c, j) => a.setIfInBounds (0 + j) c) (wrC zeroWr).toArray) = (Value.int .i64 i :: secC zeroSec).toArray := by
      rw [fill_seg' [.int .i64 i] 0 _ (by simp [wrC_length])]
      simp [wrC]
      rfl
    have f2 : ((secC s).toArray.zipIdx.foldl (fun (a : Array Value) (x : Value × Nat) => match x with | (c, j) => a.setIfInBounds (1 + j) c) (Value.int .i64 i :: secC zeroSec).toArray) = (wrC ⟨i, s⟩).toArray := by
      rw [fill_seg' (secC s) 1 _ (by simp [hl, hz])]
      simp only [hl]
      have d1 : List.drop (1 + 128) (Value.int .i64 i :: secC zeroSec) = [] := List.drop_eq_nil_of_le (by rw [List.length_cons, hz]; omega)
      show (List.take 1 (Value.int .i64 i :: secC zeroSec) ++ secC s ++ List.drop (1 + 128) (Value.int .i64 i :: secC zeroSec)).toArray = _
      rw [d1, List.append_nil]
      rfl
    simp only [Instr.fill, e1, e2]
    simp only [List.getElem?_toArray, List.getElem?_cons_zero, List.getElem?_cons_succ]
    rw [if_neg (by simp [wrC_length])]
    rw [f1]
    rw [if_neg (by simp [hl, hz])]
    rw [f2]
@[go_sem] theorem run_wrsMade1 (w : World) (x : Wr) : (wrsMade 1 #[(0, wrV x)]).run Tryd.prog w = .ok (.slice (some ⟨w.heap.size, 0, none⟩) 1 1) (w.alloc (wrO x)) := by
  unfold wrsMade
  have e3 : (wrV x).cells = (wrC x).toArray := rfl
  have e4 : (wrV zeroWr).cells = (wrC zeroWr).toArray := rfl
  have hl : ((Array.range (1 * 129)).map fun k => (wrC zeroWr).toArray[k % (wrC zeroWr).toArray.size]!).size = 129 := by simp
  generalize hA : ((Array.range (1 * 129)).map fun k => (wrC zeroWr).toArray[k % (wrC zeroWr).toArray.size]!) = A at hl
  have f1 : ((wrC x).toArray.zipIdx.foldl (fun (a : Array Value) (x : Value × Nat) => match x with | (c, j) => a.setIfInBounds (0 * 129 + j) c) A) = (wrC x).toArray := by
    rw [fill_seg' (wrC x) (0 * 129) _ (by rw [wrC_length, hl]; omega)]
    congr 1
    rw [wrC_length]
    rw [List.drop_eq_nil_of_le (by simp [hl])]
    simp
  unfold Instr.buildSlice
  rw [Sem.run_bind, run_underlying Tryd.underlying23 w, Result.andThen_ok]
  simp only [Sem.run_bind, Tryd.sizeOf83, Result.andThen_ok, Sem.run_pure, zeroValue_wr, e4]
  rw [if_neg (by decide), if_neg (by decide)]
  simp only [Sem.run_bind, Sem.run_pure, Result.andThen_ok, zeroValue_wr, e4, hA]
  simp only [Instr.fill, e3]
  rw [if_neg (by simp [wrC_length, hl]), f1]
  simp [newRow, newObj]
  rfl
end Go.Proofs.YtbhjigejpdbeiaaDoor
