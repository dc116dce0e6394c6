/-
  The reference's Read: what a sector says.
-/
import Derived.Test.YtbhjigejpdbeiaaDoorZUn
import Derived.Test.YtbhjigejpdbeiaaDoorZKRs
set_option linter.unusedSimpArgs false
set_option linter.unusedVariables false
namespace Go.Proofs.YtbhjigejpdbeiaaDoor
open Go.RowKit Go.Shelf
set_option linter.unusedVariables false
set_option maxRecDepth 8000

/-- What the reference's Read gives. -/
def RSaysPost (s : Sec) (w : World) (e : Ending) (w' : World) : Prop := ∃ v p, e = .returned (.tuple #[v, .bool (goodS s)]) ∧ PartAt w' v p ∧ PartNew w v ∧ (goodS s = true → p = rawP s) ∧ p.data.length ≤ 100 ∧ Below w.heap.size w w'
theorem SaysPost.imp {s : Sec} {w : World} {e : Ending} {w' : World} (h : SaysPost s w e w') : RSaysPost s w e w' := by
  obtain ⟨v, p, h1, h2, hn, h3, h4, h5⟩ := h
  refine ⟨v, p, h1, h2, hn, fun hg => h3 ?_, h4, h5⟩
  unfold goodS at hg
  simp at hg
  exact hg.1.1
theorem toldB_lt (l : List UInt8) : toldB l < 256 ^ l.length := by
  induction l with
  | nil => simp [toldB]
  | cons x r ih =>
    have hx := x.toNat_lt
    rw [toldB, List.length_cons, Nat.pow_succ]
    omega
theorem sizePart2 : (Tryd.prog.info? 94).map (·.size) = some 4 := by kernel_rfl
theorem load_Part {w : World} {b o : Nat} {g i m : Int} {A : Option Addr} {n c : Nat} (h : w.rangeAt b o (partC g i m A n c)) : (loadVar 94 ⟨b, o, none⟩).run Tryd.prog w = .ok (.agg #[.int .i64 g, .int .i64 i, .int .u8 m, .slice A n c]) w :=
  run_loadVar_mid w b o 94 (partC g i m A n c) _ h Tryd.underlying94 rfl (by rw [sizePart2]; rfl)
/-- The reference's part while it is laid: what lies in its four cells. -/
structure RvAt (w3 : World) (b : Nat) (g i m : Int) (A : Option Addr) (n c : Nat) (W : World) : Prop where
  range : W.rangeAt b 0 (partC g i m A n c)
  there : W.there b 0 4
  grown : w3.grownBy W (some b)
theorem there4 {W : World} {b : Nat} (h : W.there b 0 4) : (∃ u, W.cell? ⟨b, 0, none⟩ = some u) ∧ (∃ u, W.cell? ⟨b, 1, none⟩ = some u) ∧ (∃ u, W.cell? ⟨b, 2, none⟩ = some u) ∧ (∃ u, W.cell? ⟨b, 3, none⟩ = some u) ∧ W.frozen? ⟨b, 0, none⟩ = false ∧ W.frozen? ⟨b, 1, none⟩ = false ∧ W.frozen? ⟨b, 2, none⟩ = false ∧ W.frozen? ⟨b, 3, none⟩ = false := by
  have k : ∀ j, j < 4 → (∃ u, W.cell? ⟨b, j, none⟩ = some u) ∧ W.frozen? ⟨b, j, none⟩ = false := fun j hj => by
    obtain ⟨h1, h2⟩ := h j hj
    rw [Nat.zero_add] at h1 h2
    exact ⟨Option.isSome_iff_exists.1 h1, h2⟩
  exact ⟨(k 0 (by omega)).1, (k 1 (by omega)).1, (k 2 (by omega)).1, (k 3 (by omega)).1, (k 0 (by omega)).2, (k 1 (by omega)).2, (k 2 (by omega)).2, (k 3 (by omega)).2⟩
theorem neq_secs (s t : Sec) (w : World) : (secNeq (secV s) (secV t)).run Tryd.prog w = .ok (.bool (!decide (s = t))) w := by
  rw [secNeq, run_neq_struct, eq_secsIn 9998 s t w]; rfl
theorem RvAt.cells {w3 W : World} {b : Nat} {g i m : Int} {A : Option Addr} {n c : Nat} (h : RvAt w3 b g i m A n c W) :
    (W.cell? ⟨b, 0, none⟩ = some (.int .i64 g) ∧ W.cell? ⟨b, 1, none⟩ = some (.int .i64 i) ∧ W.cell? ⟨b, 2, none⟩ = some (.int .u8 m) ∧ W.cell? ⟨b, 3, none⟩ = some (.slice A n c)) ∧ ∀ j, j < 4 → W.frozen? ⟨b, j, none⟩ = false := by
  have hk : ∀ j u, (partC g i m A n c)[j]? = some u → W.cell? ⟨b, j, none⟩ = some u := fun j u hu => by have := h.range j u hu; rwa [Nat.zero_add] at this
  exact ⟨⟨hk 0 _ rfl, hk 1 _ rfl, hk 2 _ rfl, hk 3 _ rfl⟩, fun j hj => by have := (h.there j hj).2; rwa [Nat.zero_add] at this⟩
theorem RvAt.put {w3 W : World} {b : Nat} {g i m : Int} {A : Option Addr} {n c : Nat} (h : RvAt w3 b g i m A n c W) (j : Nat) (hj : j < 4) (v : Value) {g' i' m' : Int} {A' : Option Addr} {n' c' : Nat}
    (e : (partC g i m A n c).take j ++ [v] ++ (partC g i m A n c).drop (j + 1) = partC g' i' m' A' n' c') : RvAt w3 b g' i' m' A' n' c' (W.setCell ⟨b, j, none⟩ v) := by
  have k := range_setCells h.range j [v] (by simp [partC]; omega)
  rw [Nat.zero_add, List.length_singleton, e] at k
  exact ⟨k, World.there_setCells h.there b j [v], grown_set h.grown _ _⟩
theorem RvAt.belowB {w3 W W' : World} {b B : Nat} {g i m : Int} {A : Option Addr} {n c : Nat} (h : RvAt w3 b g i m A n c W) (hb : Below B W W') (hB : b < B) (h3 : w3.heap.size ≤ B) : RvAt w3 b g i m A n c W' :=
  ⟨range_below h.range hb hB, there_below h.there hb hB, ⟨hb.os.trans h.grown.os, hb.tape.trans h.grown.tape, hb.output.trans h.grown.output, Nat.le_trans h.grown.size hb.size,
    fun k hk hne => (hb.block k (Nat.lt_of_lt_of_le hk h3)).trans (h.grown.block k hk hne)⟩⟩
theorem RvAt.lt {w3 W : World} {b : Nat} {g i m : Int} {A : Option Addr} {n c : Nat} (h : RvAt w3 b g i m A n c W) : b < W.heap.size := range_lt h.range (by simp [partC])
theorem RvAt.below {w3 W W' : World} {b : Nat} {g i m : Int} {A : Option Addr} {n c : Nat} (h : RvAt w3 b g i m A n c W) (hb : Below W.heap.size W W') : RvAt w3 b g i m A n c W' :=
  h.belowB hb h.lt h.grown.size
theorem RvAt.drew {w3 W : World} {b : Nat} {g i m : Int} {A : Option Addr} {n c : Nat} (h : RvAt w3 b g i m A n c W) : RvAt w3 b g i m A n c W.drew := h.below (Below.refl _ _).drew
theorem told_cut (X : List UInt8) (k : Nat) (h : k < X.length) : toldB (X.drop k) = (X.getD k 0).toNat + 256 * toldB (X.drop (k + 1)) := by
  rw [List.drop_eq_getElem_cons h, toldB, List.getD_eq_getElem?_getD, List.getElem?_eq_getElem h]; rfl
set_option maxHeartbeats 2000000 in
theorem rsays_f (w : World) (s : Sec) (hL : LaidR w) : Calls Tryd.prog 47 #[secV s] w fun e w' => RSaysPost s w e w' := by
  have HL := Lib.hid hL
  clear hL
  obtain ⟨w3, hw3⟩ : ∃ w3, w3 = ((w.alloc (secO s)).alloc (.cells #[.int .i64 0, .int .i64 0, .int .u8 0, .slice none 0 0] 94)).alloc (.cells #[.int .i64 0, .int .i64 0, .int .u8 0, .slice none 0 0] 94) := ⟨_, rfl⟩
  obtain ⟨b, hb⟩ : ∃ b, b = w.heap.size + 1 + 1 := ⟨_, rfl⟩
  have HB3 := Lib.hid (show Below w.heap.size w w3 by rw [hw3]; exact (below_two _ _ _).alloc (by simp; omega) _)
  have HS3 := Lib.hid (show w3.heap.size = w.heap.size + 3 by rw [hw3]; simp)
  have HR3 := Lib.hid (show w3.rangeAt w.heap.size 0 (secC s) by
    rw [hw3]; exact range_below (range_new w (secC s) 81) (((Below.refl (w.heap.size + 1) _).alloc (by simp) _).alloc (by simp) _) (by omega))
  have HP3 := Lib.hid (show w3.rangeAt (w.heap.size + 1) 0 (partC 0 0 0 none 0 0) ∧ w3.there (w.heap.size + 1) 0 4 by
    have h1 := range_new (w.alloc (secO s)) (partC 0 0 0 none 0 0) 94
    have h2 := there_new (w.alloc (secO s)) (partC 0 0 0 none 0 0) 94
    rw [size_alloc] at h1 h2
    rw [hw3]
    exact ⟨range_below h1 ((Below.refl (w.heap.size + 2) _).alloc (by simp) _) (by omega), there_below h2 ((Below.refl (w.heap.size + 2) _).alloc (by simp) _) (by omega)⟩)
  have R0 := Lib.hid (show RvAt w3 b 0 0 0 none 0 0 w3 by
    have h1 := range_new ((w.alloc (secO s)).alloc (.cells #[.int .i64 0, .int .i64 0, .int .u8 0, .slice none 0 0] 94)) (partC 0 0 0 none 0 0) 94
    have h2 := there_new ((w.alloc (secO s)).alloc (.cells #[.int .i64 0, .int .i64 0, .int .u8 0, .slice none 0 0] 94)) (partC 0 0 0 none 0 0) 94
    rw [size_alloc, size_alloc] at h1 h2
    rw [hb, hw3]
    exact ⟨h1, h2, World.grownBy.refl _ _⟩)
  have HBD := Lib.hid hb
  have hcell : ∀ W, w3.grownBy W (some b) → ∀ j, j < 128 → W.cell? ⟨w.heap.size, j, none⟩ = some (.int .u8 (s.1.getD j 0).toNat) := fun W hW j hj => by
    refine (World.cell?_of_block (a := ⟨w.heap.size, j, none⟩) (hW.block w.heap.size (by have := HS3.out; omega) (by rw [hb]; simp; omega))).trans ?_
    have := HR3.out j (.int .u8 (s.1.getD j 0).toNat) (by
      rw [secC, Lib.byteCells, List.getElem?_map, List.getElem?_eq_getElem (by rw [s.2]; exact hj), List.getD_eq_getElem?_getD, List.getElem?_eq_getElem (by rw [s.2]; exact hj)]; rfl)
    rwa [Nat.zero_add] at this
  have HC := Lib.hid hcell
  have c6 := hcell w3 R0.out.grown 6 (by omega)
  have c7 := hcell w3 R0.out.grown 7 (by omega)
  have c12 := hcell w3 R0.out.grown 12 (by omega)
  have hfit : fitS s = (!(decide (100 < (s.1.getD 12 0).toNat) || decide (3 < (s.1.getD 13 0).toNat) || !(s.1.getD 6 0 ||| s.1.getD 7 0 == 0))) := rfl
  have hor : (s.1.getD 6 0 ||| s.1.getD 7 0 == 0) = (decide ((s.1.getD 6 0).toNat = 0) && decide ((s.1.getD 7 0).toNat = 0)) := by
    generalize s.1.getD 6 0 = x
    generalize s.1.getD 7 0 = y
    rw [Bool.eq_iff_iff, beq_iff_eq, Bool.and_eq_true, decide_eq_true_eq, decide_eq_true_eq, ← UInt8.toNat_inj, UInt8.toNat_or]
    show x.toNat ||| y.toNat = 0 ↔ _
    exact Nat.or_eq_zero_iff
  rw [hor] at hfit
  clear hor hcell
  rw [hw3] at c6 c7 c12
  have HW := Lib.hid hw3
  clear hw3 hb
  obtain ⟨x6, hx6⟩ : ∃ x, x = s.1.getD 6 0 := ⟨_, rfl⟩
  obtain ⟨x7, hx7⟩ : ∃ x, x = s.1.getD 7 0 := ⟨_, rfl⟩
  obtain ⟨x12, hx12⟩ : ∃ x, x = s.1.getD 12 0 := ⟨_, rfl⟩
  obtain ⟨x13, hx13⟩ : ∃ x, x = s.1.getD 13 0 := ⟨_, rfl⟩
  rw [← hx6, ← hx7, ← hx12, ← hx13] at hfit
  rw [← hx6] at c6
  rw [← hx7] at c7
  rw [← hx12] at c12
  have HFIT := Lib.hid hfit
  have HX12 := Lib.hid hx12
  have HX13 := Lib.hid hx13
  clear hfit hx6 hx7 hx12 hx13
  have HEND := Lib.hid (show goodS s = false → RSaysPost s w (.returned (.tuple #[.agg #[.int .i64 0, .int .i64 0, .int .u8 0, .slice none 0 0], .bool false])) w3 from fun hg =>
    ⟨_, ⟨0, 0, 0, []⟩, by rw [hg], part_zero _, partNew_zero _, fun h => absurd h (by rw [hg]; decide), by decide, HB3.out⟩)
  by_cases h7 : x7.toNat = 0
  case neg =>
    have hd7 : ((x7.toNat : Int) != 0) = true := by rw [bne_iff_ne]; omega
    have HG := Lib.hid (show goodS s = false by rw [goodS, HFIT.out]; simp [h7])
    go_enter Tryd.func47, Tryd.ntmps47
    go_wp2_with fail
    refine bodyPost_ret (ret_cell_tmp rfl rfl (load_Part (by rw [← HW.out]; exact HP3.out.1))) rfl ?_
    rw [← HW.out]
    exact HEND.out HG.out
  have hd7 : ((x7.toNat : Int) != 0) = false := by rw [h7]; rfl
  by_cases h6 : x6.toNat = 0
  case neg =>
    have hd6 : ((x6.toNat : Int) != 0) = true := by rw [bne_iff_ne]; omega
    have HG := Lib.hid (show goodS s = false by rw [goodS, HFIT.out]; simp [h6])
    go_enter Tryd.func47, Tryd.ntmps47
    go_wp2_with fail
    refine bodyPost_ret (ret_cell_tmp rfl rfl (load_Part (by rw [← HW.out]; exact HP3.out.1))) rfl ?_
    rw [← HW.out]
    exact HEND.out HG.out
  have hd6 : ((x6.toNat : Int) != 0) = false := by rw [h6]; rfl
  by_cases h12 : 100 < x12.toNat
  · have hd12 : decide ((100 : Int) < (x12.toNat : Int)) = true := by simp; omega
    have HG := Lib.hid (show goodS s = false by rw [goodS, HFIT.out]; simp [h12])
    go_enter Tryd.func47, Tryd.ntmps47
    go_wp2_with fail
    refine bodyPost_ret (ret_cell_tmp rfl rfl (load_Part (by rw [← HW.out]; exact HP3.out.1))) rfl ?_
    rw [← HW.out]
    exact HEND.out HG.out
  have hd12 : decide ((100 : Int) < (x12.toNat : Int)) = false := by simp; omega
  go_enter Tryd.func47, Tryd.ntmps47
  go_wp2_with fail
  rw [← HW.out, ← HBD.out]
  clear c6 c7 c12 hd7 hd6 hd12
  go_loopw [5] (fun i wr => ∃ (k : Nat) (i0 : Int), k ≤ 6 ∧ i = .int .i64 i0 ∧ i0 = (k : Int) - 1 ∧ Hid (RvAt w3 b (toldB ((s.1.take 6).drop k) : Int) 0 0 none 0 0 wr)) (fun i _ => (intOf i + 1).toNat)
  case atStart => exact ⟨6, 5, by omega, rfl, rfl, by rw [List.drop_eq_nil_of_le (by rw [List.length_take, s.2]; omega)]; exact R0⟩
  case round =>
    obtain ⟨k, i0, hk, rfl, hi0, HR⟩ := hrel
    by_cases hk0 : k = 0
    case neg =>
      obtain ⟨k, rfl⟩ : ∃ j, k = j + 1 := ⟨k - 1, by omega⟩
      obtain rfl : i0 = (k : Int) := by omega
      clear hi0 hk0
      obtain ⟨⟨p0, p1, p2, p3⟩, fz⟩ := HR.out.cells
      have f0 := fz 0 (by omega)
      have hc := HC.out wr HR.out.grown k (by omega)
      have htc := told_cut (s.1.take 6) k (by rw [List.length_take, s.2]; omega)
      have hlt := toldB_lt ((s.1.take 6).drop (k + 1))
      have hpw : 256 ^ ((s.1.take 6).drop (k + 1)).length ≤ 256 ^ 5 := Nat.pow_le_pow_right (by decide) (by rw [List.length_drop, List.length_take, s.2]; omega)
      have hgd : (s.1.take 6).getD k 0 = s.1.getD k 0 := by
        rw [List.getD_eq_getElem?_getD, List.getElem?_take_of_lt (by omega), List.getD_eq_getElem?_getD]
      rw [hgd] at htc
      have hx := (s.1.getD k 0).toNat_lt
      generalize toldB ((s.1.take 6).drop (k + 1)) = n at *
      generalize (s.1.getD k 0).toNat = z at *
      have hn : n < 1099511627776 := by omega
      clear hlt hpw hgd fz
      have HT := Lib.hid htc
      clear htc
      have hor := or_i64 n z (by omega) hx
      have hs1 : IntKind.i64.wrap ((n : Int) * 256) = (n : Int) * 256 := IntWalk.i64_in _ (by omega)
      have hs2 : IntKind.i64.wrap (z : Int) = (z : Int) := IntWalk.i64_in _ (by omega)
      have k0 : (0 : Int) ≤ k := by omega
      have k1 : (k : Int) < 128 := by omega
      have R1 := Lib.hid ((HR.out.drew.put 0 (by omega) (.int .i64 ((n * 256 + z : Nat) : Int)) (g' := ((n * 256 + z : Nat) : Int)) rfl))
      go_wp2_with fail
      go_still_tail 9, (by kernel_rfl)
      go_wp2
      go_roundw
      case rel =>
        refine ⟨k, _, by omega, rfl, by omega, ?_⟩
        rw [HT.out, Nat.add_comm, Nat.mul_comm]
        exact R1
      case measure => simp [intOf]
    case pos =>
    subst hk0
    obtain rfl : i0 = -1 := by omega
    clear hi0
    go_wp2_with fail
    have HR1 := HR
    clear HR
    go_loopw [6] (fun i wr => ∃ (k : Nat) (i0 : Int), k ≤ 4 ∧ i = .int .i64 i0 ∧ i0 = (k : Int) - 1 ∧ Hid (RvAt w3 b (toldB (s.1.take 6) : Int) (toldB (((s.1.drop 8).take 4).drop k) : Int) 0 none 0 0 wr)) (fun i _ => (intOf i + 1).toNat)
    case atStart => exact ⟨4, 3, by omega, rfl, rfl, by rw [List.drop_eq_nil_of_le (by rw [List.length_take, List.length_drop, s.2]; omega)]; exact HR1⟩
    case round =>
      clear HR1
      rename World => wr
      obtain ⟨k, i0, hk, rfl, hi0, HR⟩ := hrel
      by_cases hk0 : k = 0
      case neg =>
        obtain ⟨k, rfl⟩ : ∃ j, k = j + 1 := ⟨k - 1, by omega⟩
        obtain rfl : i0 = (k : Int) := by omega
        clear hi0 hk0
        obtain ⟨⟨p0, p1, p2, p3⟩, fz⟩ := HR.out.cells
        have f0 := fz 1 (by omega)
        have hc := HC.out wr HR.out.grown (8 + k) (by omega)
        have htc := told_cut ((s.1.drop 8).take 4) k (by rw [List.length_take, List.length_drop, s.2]; omega)
        have hlt := toldB_lt (((s.1.drop 8).take 4).drop (k + 1))
        have hpw : 256 ^ (((s.1.drop 8).take 4).drop (k + 1)).length ≤ 256 ^ 5 := Nat.pow_le_pow_right (by decide) (by rw [List.length_drop, List.length_take, List.length_drop, s.2]; omega)
        have hgd : ((s.1.drop 8).take 4).getD k 0 = s.1.getD (8 + k) 0 := by
          rw [List.getD_eq_getElem?_getD, List.getElem?_take_of_lt (by omega), List.getElem?_drop, List.getD_eq_getElem?_getD]
        rw [hgd] at htc
        have hx := (s.1.getD (8 + k) 0).toNat_lt
        generalize toldB (((s.1.drop 8).take 4).drop (k + 1)) = n at *
        generalize (s.1.getD (8 + k) 0).toNat = z at *
        have hn : n < 1099511627776 := by omega
        clear hlt hpw hgd fz
        have HT := Lib.hid htc
        clear htc
        have hor := or_i64 n z (by omega) hx
        have hs1 : IntKind.i64.wrap ((n : Int) * 256) = (n : Int) * 256 := IntWalk.i64_in _ (by omega)
        have hs2 : IntKind.i64.wrap (z : Int) = (z : Int) := IntWalk.i64_in _ (by omega)
        have k0 : (0 : Int) ≤ k := by omega
        have k1 : 8 + (k : Int) < 128 := by omega
        have k2 : (0 : Int) ≤ 8 + (k : Int) := by omega
        have k3 : (8 + (k : Int)).toNat = 8 + k := by omega
        have k4 : IntKind.i64.wrap (8 + (k : Int)) = 8 + (k : Int) := IntWalk.i64_in _ (by omega)
        have R1 := Lib.hid ((HR.out.drew.put 1 (by omega) (.int .i64 ((n * 256 + z : Nat) : Int)) (i' := ((n * 256 + z : Nat) : Int)) rfl))
        go_wp2_with fail
        go_still_tail 10, (by kernel_rfl)
        go_wp2
        go_roundw
        case rel =>
          refine ⟨k, _, by omega, rfl, by omega, ?_⟩
          rw [HT.out, Nat.add_comm, Nat.mul_comm]
          exact R1
        case measure => simp [intOf]
      case pos =>
      subst hk0
      obtain rfl : i0 = -1 := by omega
      clear hi0
      rw [List.drop_zero] at HR
      obtain ⟨⟨p0, p1, p2, p3⟩, fz⟩ := HR.out.cells
      have f2 := fz 2 (by omega)
      have f3 := fz 3 (by omega)
      have c13 := HC.out wr HR.out.grown 13 (by omega)
      have c12 := HC.out wr HR.out.grown 12 (by omega)
      rw [← HX13.out] at c13
      rw [← HX12.out] at c12
      have s1 : IntKind.i64.wrap (14 + (x12.toNat : Int)) = 14 + (x12.toNat : Int) := IntWalk.i64_in _ (by omega)
      have s2 : (0 : Int) ≤ 14 + (x12.toNat : Int) := by omega
      have s3 : (14 : Int) ≤ 14 + (x12.toNat : Int) := by omega
      have s4 : 14 + (x12.toNat : Int) ≤ 128 := by omega
      have s5 : (14 + (x12.toNat : Int)).toNat = 14 + x12.toNat := by omega
      have s6 : IntKind.i64.wrap (x12.toNat : Int) = (x12.toNat : Int) := IntWalk.i64_in _ (by omega)
      have R2 := Lib.hid ((HR.out.put 2 (by omega) (.int .u8 (x13.toNat : Int)) (m' := (x13.toNat : Int)) rfl))
      obtain ⟨W2, hW2⟩ : ∃ W2, W2 = (wr.setCell ⟨b, 2, none⟩ (.int .u8 (x13.toNat : Int))).alloc (.cells #[] 5) := ⟨_, rfl⟩
      have HO := Lib.hid (show W2.ownsRow wr.heap.size 5 1 (.slice (some ⟨wr.heap.size, 0, none⟩) 0 0) 0 [] by
        have := own_empty (wr.setCell ⟨b, 2, none⟩ (.int .u8 (x13.toNat : Int))) wr.heap.size (by simp [World.setCell]) 5 1
        rw [hW2]; simpa [World.setCell] using this)
      have RV2 := Lib.hid (show RvAt w3 b (toldB (s.1.take 6) : Int) (toldB ((s.1.drop 8).take 4) : Int) (x13.toNat : Int) none 0 0 W2 by
        rw [hW2]; exact R2.out.below ((Below.refl _ _).alloc (Nat.le_refl _) _))
      have c12 := HC.out W2 RV2.out.grown 12 (by omega)
      rw [← HX12.out] at c12
      have HS2 := Lib.hid (show W2.heap.size = wr.heap.size + 1 by rw [hW2]; simp [World.setCell])
      have HW2 := Lib.hid hW2
      rw [hW2] at c12
      clear hW2
      have HRW := Lib.hid (show RowOf W2 1 (some ⟨w.heap.size, 14, none⟩) x12.toNat 114 (Lib.byteCells ((s.1.drop 14).take x12.toNat)) by
        have hlt : w.heap.size < w3.heap.size := by have := HS3.out; omega
        have h1 : W2.rangeAt w.heap.size 0 (Lib.byteCells s.1) := range_keepb HR3.out (RV2.out.grown.block w.heap.size hlt (by have := HBD.out; simp; omega))
        have := row_dt h1 (Nat.lt_of_lt_of_le hlt RV2.out.grown.size) 14 x12.toNat 114 (by rw [s.2]; omega) (by omega) (by omega)
        rwa [Nat.zero_add] at this)
      go_wp2_with (at_builtin; refine append_row rfl (.tmp 51) (.tmp 56) 28 5 rfl Tryd.underlying28 wr.heap.size (.int .u8 0) 1 1 infoU8 (by rfl) (by decide) _ _ _ rfl (by rw [← HW2.out]; exact HO.out) (some ⟨w.heap.size, 14, none⟩) x12.toNat 114 (Lib.byteCells ((s.1.drop 14).take x12.toNat)) rfl (by rw [← HW2.out]; exact HRW.out) (bytes_one _) (by omega) (by decide) (by simp [World.setCell]) ?_)
      rw [← HW2.out]
      intro v' w' k1 k2
      have K2 := Lib.hid (below_owned (Below.refl wr.heap.size W2) HO.out k2 (Nat.le_refl _) (by have := HS2.out; omega))
      obtain ⟨A, c, rfl, hrow, hlo⟩ := row_of_own k1
      have hbr : b < wr.heap.size := HR.out.lt
      have RV3 := Lib.hid (RV2.out.belowB K2.out hbr HR.out.grown.size)
      have HROW := Lib.hid (hrow.setCell ⟨b, 3, none⟩ (.slice A x12.toNat c) (fun y hy h0 => by have := hlo y hy; show y.block ≠ b; omega))
      have HLO := Lib.hid hlo
      clear k1 k2 hrow hlo c12 c13 p0 p1 p2 p3 f2 f3 fz
      obtain ⟨⟨p0, p1, p2, p3⟩, fz⟩ := RV3.out.cells
      have f3 := fz 3 (by omega)
      have RV4 := Lib.hid (RV3.out.put 3 (by omega) (.slice A x12.toNat c) (A' := A) (n' := x12.toNat) (c' := c) rfl)
      go_wp2_with fail
      clear p0 p1 p2 p3 f3 fz
      obtain ⟨W4, hW4⟩ : ∃ W4, W4 = w'.setCell ⟨b, 3, none⟩ (.slice A x12.toNat c) := ⟨_, rfl⟩
      rw [← hW4] at RV4 HROW ⊢
      obtain ⟨p, hp⟩ : ∃ p : Part, p = ⟨toldB (s.1.take 6), toldB ((s.1.drop 8).take 4), x13, (s.1.drop 14).take x12.toNat⟩ := ⟨_, rfl⟩
      have HRP := Lib.hid (show rawP s = p by rw [hp, HX12.out, HX13.out]; rfl)
      have HDL := Lib.hid (show x12.toNat = p.data.length by rw [hp]; show x12.toNat = ((s.1.drop 14).take x12.toNat).length; rw [List.length_take, List.length_drop, s.2]; omega)
      have RV5 := Lib.hid (show RvAt w3 b p.gen p.index (p.marks.toNat : Int) A x12.toNat c W4 by rw [hp]; exact RV4.out)
      have HROW5 := Lib.hid (show RowOf W4 1 A x12.toNat c (Lib.byteCells p.data) by rw [hp]; exact HROW.out)
      have HBW := Lib.hid (show Below w.heap.size w W4 from HB3.out.grown RV5.out.grown (by have := HS3.out; omega) (fun q e => by injection e with e; have := HBD.out; omega))
      have HLX := Lib.hid (HL.out.below HBW.out HL.out.size)
      have HNE := Lib.hid (show b ≠ w.heap.size + 1 ∧ b ≠ w.heap.size ∧ w.heap.size + 1 < w3.heap.size by have := HBD.out; have := HS3.out; omega)
      have HT4 := Lib.hid (show W4.there (w.heap.size + 1) 0 4 from there_keepb HP3.out.2 (RV5.out.grown.block (w.heap.size + 1) HNE.out.2.2 (by have := HNE.out.1; simp; omega)))
      have HSR := Lib.hid (show W4.rangeAt w.heap.size 0 (secC s) from range_keepb HR3.out (RV5.out.grown.block w.heap.size (by have := HNE.out.2.2; omega) (by have := HNE.out.2.1; simp; omega)))
      have HSZ := Lib.hid (show b < W4.heap.size ∧ w.heap.size + 1 < W4.heap.size from ⟨RV5.out.lt, Nat.lt_of_lt_of_le HNE.out.2.2 RV5.out.grown.size⟩)
      have HGOOD := Lib.hid (show goodS s = (!decide (3 < p.marks.toNat) && decide (1 ≤ p.gen ∧ p.gen ≤ 1099511627776) && decide (p.sec = s)) by
        rw [goodS, HRP.out, HFIT.out, show p.marks = x13 by rw [hp]]; simp [h6, h7, h12])
      have HNEW := Lib.hid (show ∀ x, A = some x → w.heap.size ≤ x.block from fun x hx => by have := HLO.out x hx; have := HR.out.grown.size; have := HNE.out.2.2; omega)
      have HROWX := Lib.hid (show ∀ x, A = some x → x.block ≠ w.heap.size + 1 from fun x hx => by have := HLO.out x hx; have := HR.out.grown.size; have := HNE.out.2.2; omega)
      clear hp hW4 RV4 HROW RV3 K2 HRW HW2 HO RV2 R2 HS2 HLO
      have HK4 := Lib.hid (show ∀ W, Below W4.heap.size W4 W → W.rangeAt w.heap.size 0 (secC s) ∧ W.cell? ⟨b, 0, none⟩ = some (.int .i64 p.gen) ∧ W.cell? ⟨b, 1, none⟩ = some (.int .i64 p.index) ∧ W.cell? ⟨b, 2, none⟩ = some (.int .u8 p.marks.toNat) ∧ W.cell? ⟨b, 3, none⟩ = some (.slice A x12.toNat c) from fun W hW =>
        ⟨range_below HSR.out hW (by have := HSZ.out.2; omega), (RV5.out.below hW).cells.1⟩)
      have HSEC := Lib.hid (show ∀ W, Below W4.heap.size W4 W → Calls Tryd.prog 58 #[.agg #[.int .i64 p.gen, .int .i64 p.index, .int .u8 p.marks.toNat, .slice A x12.toNat c]] W fun e w' => e = .returned (secV p.sec) ∧ Below W4.heap.size W4 w' from fun W hW =>
        (rsec_f W _ p ⟨A, x12.toNat, c, rfl, HDL.out, HROW5.out.kept hW (Nat.le_refl _)⟩ (by have := HDL.out; omega) (HLX.out.below hW (by have := HLX.out.size; omega))).mono fun _ _ ⟨h1, h2⟩ => ⟨h1, below_chain hW h2⟩)
      have HBAD := Lib.hid (show goodS s = false → ∀ W, Below W4.heap.size W4 W → RSaysPost s w (.returned (.tuple #[.agg #[.int .i64 0, .int .i64 0, .int .u8 0, .slice none 0 0], .bool false])) (W.setCells (w.heap.size + 1) 0 (partC 0 0 0 none 0 0)) from fun hg W hW =>
        ⟨_, ⟨0, 0, 0, []⟩, by rw [hg], part_zero _, partNew_zero _, fun h => absurd h (by rw [hg]; decide), by decide, below_setCells _ (by omega) _ _ _ (below_chain HBW.out hW)⟩)
      have HTW := Lib.hid (show ∀ W, Below W4.heap.size W4 W → W.there (w.heap.size + 1) 0 4 from fun W hW => there_below HT4.out hW HSZ.out.2)
      have HOUT := Lib.hid (show goodS s = true → ∀ W, Below W4.heap.size W4 W → RSaysPost s w (.returned (.tuple #[.agg #[.int .i64 p.gen, .int .i64 p.index, .int .u8 p.marks.toNat, .slice A x12.toNat c], .bool true])) (W.setCells (w.heap.size + 1) 0 (partC p.gen p.index p.marks.toNat A x12.toNat c)) from fun hg W hW => by
        refine ⟨_, p, by rw [hg], ⟨A, x12.toNat, c, rfl, HDL.out, ?_⟩, partNew_mk HNEW.out, fun _ => HRP.out.symm, by have := HDL.out; omega, below_setCells _ (by omega) _ _ _ (below_chain HBW.out hW)⟩
        exact (HROW5.out.kept hW (Nat.le_refl _)).keep (by rw [size_setCells]; exact Nat.le_refl _) (fun x hx h0 hl => heap_setCells _ _ (HROWX.out x hx) _ _ _))
      by_cases hg1 : 1 ≤ p.gen
      case neg =>
        have hd : decide (p.gen < 1) = true := by simp; omega
        have HB := Lib.hid (HBAD.out (by rw [HGOOD.out]; simp [hg1]))
        obtain ⟨y0, p0, p1, p2, p3⟩ := HK4.out W4 (Below.refl _ _)
        go_quiet (fail)
        rename Nat => nq
        have hbq := below_drewN (Below.refl W4.heap.size W4) nq
        obtain ⟨⟨t0, e0⟩, ⟨t1, e1⟩, ⟨t2, e2⟩, ⟨t3, e3⟩, z0, z1, z2, z3⟩ := there4 (HTW.out _ hbq)
        go_wp2_with fail
        refine bodyPost_ret (ret_cell_tmp rfl rfl (load_Part (World.rangeAt_setCells_same (W4.drewN nq) (w.heap.size + 1) 0 (partC 0 0 0 none 0 0) (HTW.out _ hbq)))) rfl ?_
        exact HB.out _ hbq
      have hd : decide (p.gen < 1) = false := by simp; omega
      by_cases hg2 : p.gen ≤ 1099511627776
      case neg =>
        have hd2 : decide (1099511627776 < p.gen) = true := by simp; omega
        have HB := Lib.hid (HBAD.out (by rw [HGOOD.out]; simp [hg2]))
        obtain ⟨y0, p0, p1, p2, p3⟩ := HK4.out W4 (Below.refl _ _)
        go_quiet (fail)
        rename Nat => nq
        have hbq := below_drewN (Below.refl W4.heap.size W4) nq
        obtain ⟨⟨t0, e0⟩, ⟨t1, e1⟩, ⟨t2, e2⟩, ⟨t3, e3⟩, z0, z1, z2, z3⟩ := there4 (HTW.out _ hbq)
        go_wp2_with fail
        refine bodyPost_ret (ret_cell_tmp rfl rfl (load_Part (World.rangeAt_setCells_same (W4.drewN nq) (w.heap.size + 1) 0 (partC 0 0 0 none 0 0) (HTW.out _ hbq)))) rfl ?_
        exact HB.out _ hbq
      have hd2 : decide (1099511627776 < p.gen) = false := by simp; omega
      by_cases hg3 : 3 < p.marks.toNat
      case pos =>
        have hd3 : decide ((3 : Int) < (p.marks.toNat : Int)) = true := by simp; omega
        have HB := Lib.hid (HBAD.out (by rw [HGOOD.out]; simp [hg3]))
        obtain ⟨y0, p0, p1, p2, p3⟩ := HK4.out W4 (Below.refl _ _)
        go_quiet (fail)
        rename Nat => nq
        have hbq := below_drewN (Below.refl W4.heap.size W4) nq
        obtain ⟨⟨t0, e0⟩, ⟨t1, e1⟩, ⟨t2, e2⟩, ⟨t3, e3⟩, z0, z1, z2, z3⟩ := there4 (HTW.out _ hbq)
        go_wp2_with fail
        refine bodyPost_ret (ret_cell_tmp rfl rfl (load_Part (World.rangeAt_setCells_same (W4.drewN nq) (w.heap.size + 1) 0 (partC 0 0 0 none 0 0) (HTW.out _ hbq)))) rfl ?_
        exact HB.out _ hbq
      have hd3 : decide ((3 : Int) < (p.marks.toNat : Int)) = false := by simp; omega
      have HG := Lib.hid (show goodS s = decide (p.sec = s) by rw [HGOOD.out]; simp [hg1, hg2, hg3])
      have heq : ∀ W, (secNeq (secV p.sec) (secV s)).run Tryd.prog W = .ok (.bool (!decide (p.sec = s))) W := fun W => neq_secs p.sec s W
      generalize decide (p.sec = s) = q at heq HG
      have hb0 : Below W4.heap.size W4 W4.drew := (Below.refl _ _).drew
      have hu := Tryd.underlying81
      have hi : (Tryd.prog.info? 81).map (·.size) = some (secC s).length := by rw [sizeSector, secC_length]
      go_region_held3 (fun W => W.rangeAt w.heap.size 0 (secC s) ∧ W.cell? ⟨b, 0, none⟩ = some (.int .i64 p.gen) ∧ W.cell? ⟨b, 1, none⟩ = some (.int .i64 p.index) ∧ W.cell? ⟨b, 2, none⟩ = some (.int .u8 p.marks.toNat) ∧ W.cell? ⟨b, 3, none⟩ = some (.slice A x12.toNat c))
        (exact HK4.out _ (by assumption))
        (first
          | (go_at_call 58
             (with_reducible refine (HSEC.out _ ?_).mono ?_)
             · assumption
             rintro e wy ⟨rfl, hby⟩))
      obtain ⟨⟨t0, e0⟩, ⟨t1, e1⟩, ⟨t2, e2⟩, ⟨t3, e3⟩, z0, z1, z2, z3⟩ := there4 (HTW.out _ hby)
      cases q
      case false =>
        have HB := Lib.hid (HBAD.out HG.out)
        go_wp2_with fail
        refine bodyPost_ret (ret_cell_tmp rfl rfl (load_Part (World.rangeAt_setCells_same wy (w.heap.size + 1) 0 (partC 0 0 0 none 0 0) (HTW.out _ hby)))) rfl ?_
        exact HB.out _ hby
      case true =>
        obtain ⟨y0, p0, p1, p2, p3⟩ := HK4.out wy hby
        go_wp2_with fail
        refine bodyPost_ret (ret_cell_tmp rfl rfl (load_Part (World.rangeAt_setCells_same wy (w.heap.size + 1) 0 (partC p.gen p.index p.marks.toNat A x12.toNat c) (HTW.out _ hby)))) rfl ?_
        exact HOUT.out HG.out _ hby
end Go.Proofs.YtbhjigejpdbeiaaDoor
