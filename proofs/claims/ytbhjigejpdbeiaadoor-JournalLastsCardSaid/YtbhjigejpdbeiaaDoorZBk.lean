/-
  slices.Backward over a row of writes: what its loop's body is handed.
-/
import Derived.RangeFuncNested
import Derived.RangeFuncBound
import Derived.RangeFuncCalls
import Derived.RangeFuncLeaves
import Derived.Shelf.Abstract
import Derived.Shelf.RegionOpen
import Derived.WalkKit
import Derived.OwnWalkIn
import Derived.TacticsInMore
import Derived.LoopNIn
import Derived.LoopIn
import Derived.Test.YtbhjigejpdbeiaaDoorZKRt
set_option linter.unusedSimpArgs false
set_option linter.unusedVariables false
namespace Go.Proofs.YtbhjigejpdbeiaaDoor
open Go.RowKit Go.Shelf
set_option linter.unusedVariables false
attribute [local go_sem] Oper.semAt_some

def zeroW : Wr := ⟨0, zeroSec⟩
/-- What has come when k rounds are over. -/
def back (l : List Wr) (k : Nat) : List (Nat × Wr) := (List.range k).map fun j => (l.length - 1 - j, l[l.length - 1 - j]?.getD zeroW)
theorem back_succ (l : List Wr) (k : Nat) : back l (k + 1) = back l k ++ [(l.length - 1 - k, l[l.length - 1 - k]?.getD zeroW)] := by simp [back, List.range_succ]
theorem back_length (l : List Wr) (k : Nat) : (back l k).length = k := by simp [back]

set_option maxRecDepth 100000 in
set_option maxHeartbeats 2000000 in
theorem back1_in (F : Fence) (n : Nat) (h8 : F.fn 106) (hro : F.round = none) (hn : 1 ≤ n) (bl Bs n₀ b off len cap : Nat) (zs : List Wr) (hlen : Hid (len = zs.length)) (hreach : len ≤ 1000000) (hb : b < n₀) (J Jx : List (Nat × Wr) → World → Prop)
    (hY : ∀ pre x W, J pre W → pre.length < len → YieldAt F (n - 1) Tryd.prog bl #[.int .i64 (x.1 : Int), wrV x.2] W fun e W' =>
      (e = .returned (.bool true) ∧ J (pre ++ [x]) W' ∧ Below n₀ W W') ∨ (e = .returned (.bool false) ∧ Jx (pre ++ [x]) W'))
    (W : World) (hBs0 : Bs < n₀) (hBs : W.cell? ⟨Bs, 0, none⟩ = some (.slice (some ⟨b, off, none⟩) len cap)) (hc : W.rangeAt b off (wrsC zs)) (h0 : J [] W) :
    CallsIn F n Tryd.prog 106 #[.func (.yield bl) #[] #[], .pointer (some ⟨Bs, 0, none⟩)] W fun e W' => (∃ v, e = .returned v) ∧
      ((∃ ys, ys = back zs len ∧ J ys W') ∨ (∃ pre, (∃ k, k ≤ len ∧ pre = back zs k) ∧ Jx pre W')) := by
  have HC := Lib.hid hc
  clear hc
  refine callsIn_of_wp Tryd.func106 rfl h8 ?_ hro
  simp only [Tryd.ntmps106, List.size_toArray, List.length_cons, List.length_nil, Nat.reduceAdd, Nat.reduceSub, Array.replicate_succ, Array.replicate_zero, List.push_toArray, List.append_toArray, List.nil_append, List.cons_append]
  gi_wp2
  gi_loopw [3] (fun i wr => ∃ k : Nat, k ≤ len ∧ i = .int .i64 ((len : Int) - 1 - k) ∧ J (back zs k) wr ∧ Below n₀ W wr)
    (fun i _ => (intOf i + 1).toNat)
  case atStart => exact ⟨0, Nat.zero_le _, by simp, h0, Below.refl _ _⟩
  case round =>
    obtain ⟨k, hk, rfl, hJs, hnx⟩ := hrel
    have HNX := Lib.hid hnx
    have hbs := (hnx.cell (p := ⟨Bs, 0, none⟩) hBs0).trans hBs
    clear hnx
    by_cases hlt : k < len
    · obtain ⟨m, hm⟩ : ∃ m : Nat, len = m + 1 + k := ⟨len - 1 - k, by omega⟩
      have hm1 : (len : Int) - 1 - k = (m : Int) := by omega
      have hm2 : zs.length - 1 - k = m := by have := hlen.out; omega
      obtain ⟨x, hx⟩ : ∃ x, zs[m]? = some x := ⟨_, List.getElem?_eq_getElem (by have := hlen.out; omega)⟩
      obtain ⟨fn, tmps, assign, body, hy, hR⟩ := hY _ (m, x) wr hJs (by rw [back_length]; exact hlt)
      dsimp only at hy
      have hld := load_wrVar (range_below (range_wrs HC.out hx) HNX.out hb)
      have HSUCC := Lib.hid (show back zs (k + 1) = back zs k ++ [(m, x)] by rw [back_succ, hm2, hx]; rfl)
      have hml : m < len := by omega
      rw [hm1]
      have HM := Lib.hid hm
      clear hx hm hm1 hm2
      gi_wp2
      refine hR.mono ?_
      rintro e W3 (⟨rfl, hJ3, hk3⟩ | ⟨rfl, hJx3⟩)
      · have HK3 := Lib.hid hk3
        clear hk3
        gi_wp2
        go_roundw
        case rel => exact ⟨k + 1, by omega, by have := HM.out; congr 1; omega, by rw [HSUCC.out]; exact hJ3, HNX.out.trans HK3.out⟩
        case measure => simp [intOf] <;> omega
      · gi_wp2
        refine bodyPost_ret (results_none rfl _ _ _) rfl ?_
        exact ⟨⟨_, rfl⟩, .inr ⟨_, ⟨k + 1, by omega, HSUCC.out.symm⟩, hJx3⟩⟩
    · obtain rfl : k = len := by omega
      have hm1 : (k : Int) - 1 - k = -1 := by omega
      rw [hm1]
      gi_wp2
      go_end0
      exact ⟨⟨_, rfl⟩, .inl ⟨_, rfl, hJs⟩⟩

set_option maxRecDepth 100000 in
set_option maxHeartbeats 1000000 in
theorem back0_in (F : Fence) (n : Nat) (h8 : F.fn 106) (hro : F.round = none) (bl Bs : Nat) (A : Option Addr) (cap : Nat) (J : List (Nat × Wr) → World → Prop) (W : World) (hBs : W.cell? ⟨Bs, 0, none⟩ = some (.slice A 0 cap)) (h0 : J [] W) :
    CallsIn F n Tryd.prog 106 #[.func (.yield bl) #[] #[], .pointer (some ⟨Bs, 0, none⟩)] W fun e W' => (∃ v, e = .returned v) ∧ J [] W' := by
  refine callsIn_of_wp Tryd.func106 rfl h8 ?_ hro
  simp only [Tryd.ntmps106, List.size_toArray, List.length_cons, List.length_nil, Nat.reduceAdd, Nat.reduceSub, Array.replicate_succ, Array.replicate_zero, List.push_toArray, List.append_toArray, List.nil_append, List.cons_append]
  gi_wp2
  gi_loopw [3] (fun i wr => i = .int .i64 (-1) ∧ J [] wr) (fun _ _ => 0)
  case atStart => exact ⟨rfl, h0⟩
  case round =>
    obtain ⟨rfl, hJs⟩ := hrel
    gi_wp2
    go_end0
    exact ⟨⟨_, rfl⟩, hJs⟩

set_option maxHeartbeats 1000000 in
theorem back_in (F : Fence) (n : Nat) (h6 : F.fn 95) (hro : F.round = none) (a : Option Addr) (len cap : Nat) (w : World) :
    CallsIn F n Tryd.prog 95 #[.slice a len cap] w fun e w' => e = .returned (.func (.func 106) #[] #[.pointer (some ⟨w.heap.size, 0, none⟩)]) ∧ w' = w.alloc (.cells #[.slice a len cap] 23) := by
  refine callsIn_of_wp Tryd.func95 rfl h6 ?_ hro
  simp only [Tryd.ntmps95, List.size_toArray, List.length_cons, List.length_nil, Nat.reduceAdd, Nat.reduceSub, Array.replicate_succ, Array.replicate_zero, List.push_toArray, List.append_toArray, List.nil_append, List.cons_append]
  gi_wp2
  go_ret
  exact ⟨rfl, rfl⟩

theorem back_stops (F : Fence) (n : Nat) (h8 : F.fn 106) (hro : F.round = none) (hn : 1 ≤ n) (Bs n₀ : Nat) (A : Option Addr) (m c : Nat) (zs : List Wr) (hm : m = zs.length) (hreach : m ≤ 1000000) (w : World) (hBs : Bs < n₀) (hn₀ : n₀ ≤ w.heap.size)
    (hc : w.cell? ⟨Bs, 0, none⟩ = some (.slice A m c)) (hr : RowOf w 129 A m c (wrsC zs)) (hlow : ∀ x, A = some x → 0 < m → x.block < n₀) :
    SeqStopsK F n Tryd.prog 106 #[.pointer (some ⟨Bs, 0, none⟩)] (fun x : Nat × Wr => #[Value.int .i64 (x.1 : Int), wrV x.2]) (Below n₀) (fun ys => ys = back zs m)
      (fun pre => ∃ k, k ≤ m ∧ pre = back zs k) m w := fun l J Jx W hW _ _ hY h0 => by
  have hc' := (hW.cell (p := ⟨Bs, 0, none⟩) (show Bs < w.heap.size by omega)).trans hc
  by_cases h : m = 0
  · subst h
    exact (back0_in F n h8 hro l Bs A c J W hc' h0).mono fun e W' ⟨he, hj⟩ => ⟨he, .inl ⟨_, rfl, hj⟩⟩
  · obtain ⟨b, o, rfl, hb, hx⟩ := row_at hr (by omega)
    exact back1_in F n h8 hro hn l Bs n₀ b o m c zs hm hreach (hlow _ rfl (by omega)) J Jx hY W hBs hc' (range_below hx hW (by omega)) h0
end Go.Proofs.YtbhjigejpdbeiaaDoor
