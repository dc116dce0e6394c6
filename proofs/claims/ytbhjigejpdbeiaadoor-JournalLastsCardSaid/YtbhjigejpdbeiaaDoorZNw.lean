/-
  New of both sides; great; kept.
-/
import Derived.Test.YtbhjigejpdbeiaaDoorZKCp
import Derived.OwnWalk
set_option linter.unusedSimpArgs false
set_option linter.unusedVariables false
namespace Go.Proofs.YtbhjigejpdbeiaaDoor
open Go.RowKit
set_option linter.unusedVariables false

def NewPost (n : Int) (w : World) (e : Ending) (w' : World) : Prop :=
  (∃ u, e = .returned (.tuple #[u, .int .i64 (Dk.new n).2]) ∧ DiskAt w' u (Dk.new n).1 ∧ ∀ b, b < w.heap.size → Clear b u) ∧ Below w.heap.size w w'
theorem row_nil (w : World) (sz : Nat) : RowOf w sz none 0 0 [] := ⟨by simp, by omega, by omega, fun _ => rfl, fun x hx _ => by cases hx⟩
theorem secC_zero : secC zeroSec = List.replicate 128 (.int .u8 0) := by
  simp [secC, zeroSec, Lib.byteCells]
theorem rep_flat {α : Type} (n m : Nat) (x : α) : (List.replicate n (List.replicate m x)).flatten = List.replicate (n * m) x := by simp
theorem made_rep (m k : Nat) (x : Value) (h : 0 < m) : (madeCells (List.replicate m x).toArray k).toList = List.replicate k x := by
  apply List.ext_getElem
  · simp [madeCells]
  · intro i h1 h2
    simp [madeCells, Nat.mod_lt i h]
theorem secsC_zero (n : Nat) : secsC (List.replicate n zeroSec) = List.replicate (n * 128) (.int .u8 0) := by
  rw [secsC, List.map_replicate, secC_zero, rep_flat]
theorem made_zero (k : Nat) : (madeCells (secC zeroSec).toArray (k * 128)).toList = secsC (List.replicate k zeroSec) := by
  rw [secsC_zero, secC_zero, made_rep _ _ _ (by decide)]
@[go_sem] theorem run_diskMade0 (w : World) : (Instr.build 25 #[]).run Tryd.prog w = .ok (.agg #[.slice none 0 0, .slice none 0 0, .int .i64 0, .bool false]) w := run_build w 25 _ _ (by kernel_rfl)
@[go_sem] theorem run_diskMade2 (A : Option Addr) (n c : Nat) (f : Int) (w : World) : (Instr.build 25 #[(0, .slice A n c), (2, .int .i64 f)]).run Tryd.prog w = .ok (.agg #[.slice A n c, .slice none 0 0, .int .i64 f, .bool false]) w := run_build w 25 _ _ (by kernel_rfl)

theorem new_f (n : Int) (w : World) : Calls Tryd.prog 25 #[.int .i64 n] w fun e w' => NewPost n w e w' := by
  obtain ⟨i0, hi0, hz0, hz1, hz2⟩ := info_parts infoSector
  have HVN := Lib.hid (var_new w none none 0 0 0 0 0 false)
  have HFN := Lib.hid (free_new w #[.slice none 0 0, .slice none 0 0, .int .i64 0, .bool false] 25)
  have hbad : ∀ (q : ¬ (1 ≤ n ∧ n ≤ 2048)), NewPost n w (.returned (.tuple #[.agg #[.slice none 0 0, .slice none 0 0, .int .i64 0, .bool false], .int .i64 1])) (w.alloc (Obj.cells #[.slice none 0 0, .slice none 0 0, .int .i64 0, .bool false] 25)) := by
    intro q
    have e : Dk.new n = (⟨[], [], 0, false⟩, 1) := by rw [Dk.new, if_neg q]
    refine ⟨⟨_, by rw [e], ?_, fun b hb => clear_mk (fun x hx => by cases hx) (fun x hx => by cases hx)⟩, (Below.refl _ _).alloc (Nat.le_refl _) _⟩
    rw [e]
    exact disk_of rfl rfl (row_nil _ _) (row_nil _ _) rfl rfl (by decide) (by decide)
  have HBAD := Lib.hid hbad
  clear hbad
  go_enter Tryd.func25, Tryd.ntmps25
  by_cases q0 : n < 1
  · go_wp2
    refine bodyPost_ret (ret_cell_tmp rfl rfl (load_var HVN.out)) rfl ?_
    exact HBAD.out (by omega)
  by_cases q1 : 2048 < n
  · go_wp2
    refine bodyPost_ret (ret_cell_tmp rfl rfl (load_var HVN.out)) rfl ?_
    exact HBAD.out (by omega)
  obtain ⟨k, rfl⟩ : ∃ k : Nat, n = k := ⟨n.toNat, by omega⟩
  have hk : k ≤ 2048 := by omega
  go_wp2_with (at_make; refine wpList_make_full _ rfl _ _ 22 rfl (w.heap.size + 1) 81 i0 (secV zeroSec) 128 Tryd.underlying22 hi0 hz0 hz1 _ _ _ _ k rfl rfl rfl rfl (by rw [hz2]; omega) (by unfold maxLen; omega) (by simp) ?_)
  intro w2 k1 k2
  have hb2 : Below (w.heap.size + 1) (w.alloc (Obj.cells #[.slice none 0 0, .slice none 0 0, .int .i64 0, .bool false] 25)) w2 := (Below.refl _ _).grown k2 (by simp) (fun k hk => by cases hk)
  rw [made_zero] at k1
  obtain ⟨A, c, hA, r1, r2⟩ := row_of_own k1
  injection hA with hA1 hA2 hA3
  subst hA1; subst hA3
  have R1 := Lib.hid r1
  have HB := Lib.hid (show Below w.heap.size w w2 from ((Below.refl _ _).alloc (Nat.le_refl _) _).trans (hb2.mono (by omega)))
  obtain ⟨y0, y1, y2, y3, y4⟩ := HVN.out.below hb2 (by omega)
  obtain ⟨u0, u1, u2, u3⟩ := HFN.out.below hb2 (by omega)
  clear k1 k2 hb2 r1 r2
  go_wp2
  refine bodyPost_ret (ret_cell_tmp rfl rfl (load_var (Var.set ⟨y0, y1, y2, y3, y4⟩ _ _ _ _ _ _ _ _))) rfl ?_
  have e : Dk.new (k : Int) = (⟨List.replicate k zeroSec, [], -1, false⟩, 0) := by rw [Dk.new, if_pos (by omega)]; rfl
  refine ⟨⟨_, (by rw [e]; try rfl), ?_, ?_⟩, below_set4 HB.out (Nat.le_refl _) _ _ _ _ _ _ _ _⟩
  rotate_left
  · intro b hb
    exact clear_mk (fun x hx _ => by injection hx with hx; subst hx; show w.heap.size + 1 ≠ b; omega) (fun x hx => by cases hx)
  rw [e]
  refine disk_of (by simp) rfl ?_ (row_nil _ _) rfl rfl (show (-9223372036854775808 : Int) ≤ -1 by decide) (show (-1 : Int) < 9223372036854775808 by decide)
  exact R1.out.set4 (fun x hx _ => by injection hx with hx; subst hx; show w.heap.size + 1 ≠ w.heap.size; omega) _ _ _ _ _ _ _ _

end Go.Proofs.YtbhjigejpdbeiaaDoor
