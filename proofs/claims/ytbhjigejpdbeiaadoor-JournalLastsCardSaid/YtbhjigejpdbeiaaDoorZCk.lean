/-
  slices.Chunk of bytes: what its loop's body is handed.
-/
import Derived.Test.YtbhjigejpdbeiaaDoorZBk
import Derived.Test.YtbhjigejpdbeiaaDoorZUw
import Derived.Sort.QuietIn
set_option linter.unusedSimpArgs false
set_option linter.unusedVariables false
namespace Go.Proofs.YtbhjigejpdbeiaaDoor
open Go.RowKit Go.Shelf
set_option linter.unusedVariables false
attribute [local go_sem] Oper.semAt_some

/-- The chunks that have come. -/
def chunks (cnt k : Nat) : List (Fin cnt) := (List.finRange cnt).take k
theorem chunks_succ (cnt k : Nat) (h : k < cnt) : chunks cnt (k + 1) = chunks cnt k ++ [⟨k, h⟩] := by
  rw [chunks, chunks, List.take_succ_eq_append_getElem (by simpa using h)]
  simp
theorem chunks_length (cnt k : Nat) (h : k ≤ cnt) : (chunks cnt k).length = k := by simp [chunks, h]
theorem chunks_all (cnt : Nat) : chunks cnt cnt = List.finRange cnt := by rw [chunks, List.take_of_length_le (by simp)]
/-- The two boxes of Chunk are as they were. -/
def KBox (Bs Bn : Nat) (W W' : World) : Prop := W'.cell? ⟨Bs, 0, none⟩ = W.cell? ⟨Bs, 0, none⟩ ∧ W'.cell? ⟨Bn, 0, none⟩ = W.cell? ⟨Bn, 0, none⟩
theorem kbox_t {Bs Bn : Nat} {A B C : World} (h : KBox Bs Bn A B) (k : KBox Bs Bn B C) : KBox Bs Bn A C := ⟨k.1.trans h.1, k.2.trans h.2⟩
theorem kbox_b {Bs Bn : Nat} {w : World} (hs : Bs < w.heap.size) (hn : Bn < w.heap.size) (W : World) (l : Nat) (o o' : Obj) (hl : w.heap.size ≤ l) (h : W.heap[l]? = some o) (_ : o.isCells = false) (_ : o.isWalk = false) : KBox Bs Bn W (W.putObj l o') := by
  have hb : Below w.heap.size W (W.putObj l o') := (Below.refl _ W).grown (grownBy_putObj' W l o') (by have := (Array.getElem?_eq_some_iff.1 h).1; omega) (fun k e => by cases e; omega)
  exact ⟨hb.cell (p := ⟨Bs, 0, none⟩) hs, hb.cell (p := ⟨Bn, 0, none⟩) hn⟩
set_option maxRecDepth 100000 in
set_option maxHeartbeats 2000000 in
theorem chunk1_in (n : Nat) (hn : 1 ≤ n) (bl Bs Bn b off len cap m cnt : Nat) (hm : 1 ≤ m) (hm1 : m ≤ 1000000) (hcap : len ≤ cap) (hcap2 : cap ≤ 9223372036854775807) (hreach : len ≤ 1000000) (hcnt : ∀ k, k < cnt ↔ k * m < len) (J Jx : List (Fin cnt) → World → Prop)
    (hY : ∀ pre x W, J pre W → pre.length < cnt → YieldAt Fence.wide (n - 1) Tryd.prog bl #[.slice (some ⟨b, off + x.1 * m, none⟩) (min m (len - x.1 * m)) (min m (len - x.1 * m))] W fun e W' =>
      (e = .returned (.bool true) ∧ J (pre ++ [x]) W' ∧ KBox Bs Bn W W') ∨ (e = .returned (.bool false) ∧ Jx (pre ++ [x]) W'))
    (hdrew : ∀ pre W q, J pre W → J pre (W.drewN q))
    (W : World) (hBs : W.cell? ⟨Bs, 0, none⟩ = some (.slice (some ⟨b, off, none⟩) len cap)) (hBn : W.cell? ⟨Bn, 0, none⟩ = some (.int .i64 (m : Int))) (h0 : J [] W) :
    CallsIn Fence.wide n Tryd.prog 75 #[.func (.yield bl) #[] #[], .pointer (some ⟨Bs, 0, none⟩), .pointer (some ⟨Bn, 0, none⟩)] W fun e W' => (∃ v, e = .returned v) ∧
      ((∃ ys, ys = chunks cnt cnt ∧ J ys W') ∨ (∃ pre, (∃ k, k ≤ cnt ∧ pre = chunks cnt k) ∧ Jx pre W')) := by
  refine callsIn_of_wp Tryd.func75 rfl trivial ?_ rfl
  simp only [Tryd.ntmps75, List.size_toArray, List.length_cons, List.length_nil, Nat.reduceAdd, Nat.reduceSub, Array.replicate_succ, Array.replicate_zero, List.push_toArray, List.append_toArray, List.nil_append, List.cons_append]
  gi_wp2
  gi_loopw [4] (fun i wr => ∃ k : Nat, k ≤ cnt ∧ i = .int .i64 ((k * m : Nat) : Int) ∧ J (chunks cnt k) wr ∧ KBox Bs Bn W wr)
    (fun i _ => len + m - (intOf i).toNat)
  case atStart => exact ⟨0, Nat.zero_le _, by simp, h0, ⟨rfl, rfl⟩⟩
  case round =>
    obtain ⟨k, hk, rfl, hJs, hkb⟩ := hrel
    have hbs := hkb.1.trans hBs
    have hbn := hkb.2.trans hBn
    by_cases hlt : k < cnt
    · have hkm := (hcnt k).1 hlt
      have hsucc := chunks_succ cnt k hlt
      generalize hi : k * m = i at *
      have w1 : IntKind.i64.wrap ((len : Int) - (i : Int)) = (len : Int) - i := IntWalk.i64_in _ (by omega)
      have w2 : (0 : Int) ≤ i := by omega
      have w3 : (i : Int) ≤ len := by omega
      have w4 : (i : Int) ≤ cap := by omega
      have w5 : (len : Int) ≤ cap := by omega
      gi_wp2_with fail
      gi_quiet (fail)
      obtain ⟨c, hc⟩ : ∃ c, c = min m (len - i) := ⟨_, rfl⟩
      have hcv : (if len - i < m then ((len - i : Nat) : Int) else (m : Int)) = (c : Int) := by rw [hc, Nat.min_def]; split <;> split <;> omega
      have hcl : i + c ≤ len := by omega
      have HC := Lib.hid hc
      clear hc
      rw [hcv]
      obtain ⟨fn, tmps, assign, body, hy, hR⟩ := hY _ ⟨k, hlt⟩ _ (hdrew _ _ nq hJs) (by rw [chunks_length _ _ hk]; exact hlt)
      dsimp only at hy
      rw [hi, ← HC.out] at hy
      have a1 : IntKind.i64.wrap ((i : Int) + (c : Int)) = (i : Int) + c := IntWalk.i64_in _ (by omega)
      have a2 : (0 : Int) ≤ (i : Int) + c := by omega
      have a3 : (i : Int) ≤ (i : Int) + c := by omega
      have a4 : (i : Int) + c ≤ cap := by omega
      have a5 : ((i : Int) + c).toNat = i + c := by omega
      have a6 : i + c - i = c := by omega
      have a7 : IntKind.i64.wrap ((i : Int) + (m : Int)) = (i : Int) + m := IntWalk.i64_in _ (by omega)
      gi_wp2
      refine hR.mono ?_
      rintro e W3 (⟨rfl, hJ3, hk3⟩ | ⟨rfl, hJx3⟩)
      · have hbn3 := hk3.2.trans hbn
        gi_wp2
        go_roundw
        case rel => exact ⟨k + 1, by omega, by rw [Nat.add_mul, Nat.one_mul, hi]; congr 1, by rw [hsucc]; exact hJ3, hkb.1 ▸ hk3.1 |>.trans rfl, hk3.2.trans hkb.2⟩
        case measure => simp [intOf] <;> omega
      · gi_wp2
        refine bodyPost_ret (results_none rfl _ _ _) rfl ?_
        exact ⟨⟨_, rfl⟩, .inr ⟨_, ⟨k + 1, by omega, hsucc.symm⟩, hJx3⟩⟩
    · obtain rfl : k = cnt := by omega
      have hkm : ¬ (k * m < len) := fun h => hlt ((hcnt k).2 h)
      generalize k * m = i at *
      gi_wp2
      go_end0
      exact ⟨⟨_, rfl⟩, .inl ⟨_, rfl, hJs⟩⟩

set_option maxRecDepth 8000 in
set_option maxHeartbeats 1000000 in
theorem chunk_in (n : Nat) (a : Option Addr) (len cap m : Nat) (hm : 1 ≤ m) (w : World) :
    CallsIn Fence.wide n Tryd.prog 55 #[.slice a len cap, .int .i64 (m : Int)] w fun e w' => e = .returned (.func (.func 75) #[] #[.pointer (some ⟨w.heap.size, 0, none⟩), .pointer (some ⟨w.heap.size + 1, 0, none⟩)]) ∧ w' = (w.alloc (.cells #[.slice a len cap] 28)).alloc (.cells #[.int .i64 (m : Int)] 3) := by
  refine callsIn_of_wp Tryd.func55 rfl trivial ?_ rfl
  simp only [Tryd.ntmps55, List.size_toArray, List.length_cons, List.length_nil, Nat.reduceAdd, Nat.reduceSub, Array.replicate_succ, Array.replicate_zero, List.push_toArray, List.append_toArray, List.nil_append, List.cons_append]
  have h1 : ¬ ((m : Int) < 1) := by omega
  gi_wp2
  go_ret
  exact ⟨rfl, rfl⟩

theorem chunk_stops (n : Nat) (hn : 1 ≤ n) (Bs Bn b off len cap m cnt : Nat) (hm : 1 ≤ m) (hm1 : m ≤ 1000000) (hcap : len ≤ cap) (hcap2 : cap ≤ 9223372036854775807) (hreach : len ≤ 1000000) (hcnt : ∀ k, k < cnt ↔ k * m < len) (w : World) (hB1 : Bs < w.heap.size) (hB2 : Bn < w.heap.size)
    (hBs : w.cell? ⟨Bs, 0, none⟩ = some (.slice (some ⟨b, off, none⟩) len cap)) (hBn : w.cell? ⟨Bn, 0, none⟩ = some (.int .i64 (m : Int))) :
    SeqStopsK Fence.wide n Tryd.prog 75 #[.pointer (some ⟨Bs, 0, none⟩), .pointer (some ⟨Bn, 0, none⟩)] (fun x : Fin cnt => #[Value.slice (some ⟨b, off + x.1 * m, none⟩) (min m (len - x.1 * m)) (min m (len - x.1 * m))]) (KBox Bs Bn) (fun ys => ys = chunks cnt cnt)
      (fun pre => ∃ k, k ≤ cnt ∧ pre = chunks cnt k) cnt w := fun l J Jx W hW hJa _ hY h0 =>
  chunk1_in n hn l Bs Bn b off len cap m cnt hm hm1 hcap hcap2 hreach hcnt J Jx hY (fun pre W' q h => hJa pre W' (W'.drewN q) none h ⟨rfl, rfl, rfl, Nat.le_refl _, fun _ _ _ => rfl⟩ (fun _ e => by cases e)) W
    ((hW.cell (p := ⟨Bs, 0, none⟩) hB1).trans hBs) ((hW.cell (p := ⟨Bn, 0, none⟩) hB2).trans hBn) h0
end Go.Proofs.YtbhjigejpdbeiaaDoor
