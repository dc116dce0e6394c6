/-
  parts: a record's parts.
-/
import Derived.Test.YtbhjigejpdbeiaaDoorZKSd
import Derived.Sort.CutIn
set_option linter.unusedSimpArgs false
set_option linter.unusedVariables false
namespace Go.Proofs.YtbhjigejpdbeiaaDoor
open Go.RowKit Go.Shelf
set_option linter.unusedVariables false
set_option maxRecDepth 8000
attribute [local go_sem] Oper.semAt_some

/-- Between two rounds: the parts' variable holds a row of parts. -/
structure PcI (w W0 : World) (top : Nat) (q : List Part) (W : World) : Prop where
  ex : ∃ A c cs, W.heap[w.heap.size + 3]? = some (.cells #[.slice A q.length c] 70 (0, 0)) ∧ W.ownsRow w.heap.size 100 4 (.slice A q.length c) q.length cs.flatten ∧ PartSet W top cs q
  below : Below w.heap.size w W
  size : W0.heap.size ≤ W.heap.size
  box : ∀ i, (i = w.heap.size ∨ i = w.heap.size + 1 ∨ i = w.heap.size + 4 ∨ i = w.heap.size + 5) → W.heap[i]? = W0.heap[i]?
theorem pc_own {w W0 : World} {top : Nat} {α : Type} {f : List α → List Part} (hs0 : W0.heap.size = w.heap.size + 6) (htop : top ≤ w.heap.size) : OwnFrom W0.heap.size (fun (pre : List α) W => PcI w W0 top (f pre) W) := by
  intro s A B row hs hg hr
  obtain ⟨⟨V, c, cs, h1, h2, h3⟩, hb, hsz, hbx⟩ := hs
  have key : ∀ (q : Nat) (ob : Obj), A.heap[q]? = some ob → ob.isCells = true → B.heap[q]? = A.heap[q]? := fun q ob hq hc => by
    refine hg.block q (Array.getElem?_eq_some_iff.1 hq).1 (fun e => ?_)
    obtain ⟨_, ob', ho, hc'⟩ := hr q e.symm
    rw [hq] at ho
    injection ho with ho
    subst ho
    rw [hc] at hc'
    cases hc'
  have hbe : Below w.heap.size A B := ⟨hg.os, hg.tape, hg.output, hg.size, fun k hk => hg.block k (by omega) (fun e => by have := (hr k e.symm).1; omega)⟩
  refine ⟨⟨V, c, cs, (key _ _ h1 rfl).trans h1, own_keep h2 (fun g hg' => ?_), h3.below hbe htop⟩, hb.trans hbe, by have := hg.size; omega, fun i hi => ?_⟩
  · obtain ⟨ob, ho, hc⟩ := own_cells h2 hg'
    exact key g ob ho hc
  · rw [← hbx i hi]
    exact hg.block i (by omega) (fun e => by have := (hr i e.symm).1; omega)
/-- The parts of the chunks that have come. -/
def lstX (r : List UInt8) (gen : Int) (index : Nat) {m : Nat} (pre : List (Fin m)) : List Part := pre.mapIdx fun j x => ⟨gen, ((index + j : Nat) : Int), 0, (r.drop (100 * x.1)).take 100⟩
theorem lstX_snoc (r : List UInt8) (gen : Int) (index : Nat) {m : Nat} (pre : List (Fin m)) (x : Fin m) : lstX r gen index (pre ++ [x]) = lstX r gen index pre ++ [⟨gen, ((index + pre.length : Nat) : Int), 0, (r.drop (100 * x.1)).take 100⟩] := by
  simp [lstX, List.mapIdx_append]
theorem lstX_len (r : List UInt8) (gen : Int) (index : Nat) {m : Nat} (pre : List (Fin m)) : (lstX r gen index pre).length = pre.length := by simp [lstX]
theorem lstX_all {r : List UInt8} (h : 0 < r.length) (gen : Int) (index m : Nat) : lstX r gen index (chunks m m) = lstP r gen index m := by
  rw [lstP_some h, chunks_all, lstX]
  refine List.ext_getElem? fun j => ?_
  by_cases hj : j < m
  · rw [List.getElem?_mapIdx, List.getElem?_eq_getElem (by simp; exact hj), List.getElem?_map, List.getElem?_range hj]
    simp [rawPt]
  · rw [List.getElem?_eq_none (by simp; omega), List.getElem?_eq_none (by simp; omega)]
theorem parts_none (gen : Int) (index : Nat) : Dk.parts [] gen index = [⟨gen, (index : Int), 3, []⟩] := by
  simp [Dk.parts, Dk.partN, Jp.markN, sizeN, List.range_one]
  try decide
/-- Ahead of the loop. -/
structure PcMid (w : World) (A : Option Addr) (n c : Nat) (r : List UInt8) (gn : Int) (ix top : Nat) (wm : World) : Prop where
  size : wm.heap.size = w.heap.size + 6
  below : Below w.heap.size w wm
  hgen : wm.heap[w.heap.size]? = some (.cells #[.int .i64 gn] 3 (0, 0))
  hindex : wm.heap[w.heap.size + 1]? = some (.cells #[.int .i64 (ix : Int)] 3 (0, 0))
  hbs : wm.heap[w.heap.size + 4]? = some (.cells #[.slice A n c] 28 (0, 0))
  hbn : wm.heap[w.heap.size + 5]? = some (.cells #[.int .i64 100] 3 (0, 0))
  ex : ∃ V e cs, wm.heap[w.heap.size + 3]? = some (.cells #[.slice V (lstP r gn ix 0).length e] 70 (0, 0)) ∧ wm.ownsRow w.heap.size 100 4 (.slice V (lstP r gn ix 0).length e) (lstP r gn ix 0).length cs.flatten ∧ PartSet wm top cs (lstP r gn ix 0)
theorem heap_push (w : World) (o : Obj) : (w.alloc o).heap = w.heap.push o := rfl
theorem pcMid_mk (w : World) (A : Option Addr) (n c : Nat) (r : List UInt8) (gn : Int) (ix top L : Nat) (hn : n = r.length) (hL : L = if n = 0 then 1 else 0) (W0 : World)
    (hW : W0 = (((((w.alloc (.cells #[.int .i64 gn] 3)).alloc (.cells #[.int .i64 (ix : Int)] 3)).alloc (.cells #[.int .i64 gn, .int .i64 (ix : Int), .int .u8 1, .slice none 0 0] 100)).alloc (.cells #[.slice (some ⟨w.heap.size + 1 + 1, 0, none⟩) L 1] 70)).alloc (.cells #[.slice A n c] 28)).alloc (.cells #[.int .i64 100] 3)) :
    PcMid w A n c r gn ix top W0 := by
  have hl : (lstP r gn ix 0).length = L := by
    rw [hL, lstP, ← hn]
    by_cases h : n = 0
    · rw [if_pos h, if_pos h]; rfl
    · rw [if_neg h, if_neg h]; rfl
  have hsz : W0.heap.size = w.heap.size + 6 := by rw [hW]; simp
  have hL1 : L ≤ 1 := by rw [hL]; split <;> omega
  have g0 : W0.heap[w.heap.size]? = some (.cells #[.int .i64 gn] 3 (0, 0)) := by
    rw [hW]; simp only [heap_push, Array.getElem?_push, Array.size_push]
    repeat first | rw [if_pos trivial] | rw [if_pos (by omega)] | rw [if_neg (by omega)]
  have g1 : W0.heap[w.heap.size + 1]? = some (.cells #[.int .i64 (ix : Int)] 3 (0, 0)) := by
    rw [hW]; simp only [heap_push, Array.getElem?_push, Array.size_push]
    repeat first | rw [if_pos trivial] | rw [if_pos (by omega)] | rw [if_neg (by omega)]
  have g2 : W0.heap[w.heap.size + 1 + 1]? = some (.cells #[.int .i64 gn, .int .i64 (ix : Int), .int .u8 1, .slice none 0 0] 100 (0, 0)) := by
    rw [hW]; simp only [heap_push, Array.getElem?_push, Array.size_push]
    repeat first | rw [if_pos trivial] | rw [if_pos (by omega)] | rw [if_neg (by omega)]
  have g3 : W0.heap[w.heap.size + 3]? = some (.cells #[.slice (some ⟨w.heap.size + 1 + 1, 0, none⟩) L 1] 70 (0, 0)) := by
    rw [hW]; simp only [heap_push, Array.getElem?_push, Array.size_push]
    repeat first | rw [if_pos trivial] | rw [if_pos (by omega)] | rw [if_neg (by omega)]
  have g4 : W0.heap[w.heap.size + 4]? = some (.cells #[.slice A n c] 28 (0, 0)) := by
    rw [hW]; simp only [heap_push, Array.getElem?_push, Array.size_push]
    repeat first | rw [if_pos trivial] | rw [if_pos (by omega)] | rw [if_neg (by omega)]
  have g5 : W0.heap[w.heap.size + 5]? = some (.cells #[.int .i64 100] 3 (0, 0)) := by
    rw [hW]; simp only [heap_push, Array.getElem?_push, Array.size_push]
    repeat first | rw [if_pos trivial] | rw [if_pos (by omega)] | rw [if_neg (by omega)]
  have hbe : Below w.heap.size w W0 := by
    rw [hW]
    exact ((((((Below.refl w.heap.size w).alloc (Nat.le_refl _) _).alloc (by simp) _).alloc (by simp; omega) _).alloc (by simp; omega) _).alloc (by simp; omega) _).alloc (by simp; omega) _
  refine ⟨hsz, hbe, g0, g1, g4, g5, some ⟨w.heap.size + 1 + 1, 0, none⟩, 1, if n = 0 then [partC gn (ix : Int) 1 none 0 0] else [], by rw [hl]; exact g3, ⟨?_, .inr ⟨w.heap.size + 1 + 1, 1, _, by rw [hl], by omega, g2, by rw [hl]; exact hL1, by decide, rfl, ?_⟩⟩, ?_⟩
  · rw [hl, hL]; split <;> rfl
  · rw [hl, hL]; split <;> rfl
  · rw [lstP, ← hn]
    by_cases h : n = 0
    · rw [if_pos h, if_pos h]
      exact partSet_one (p := ⟨gn, (ix : Int), 1, []⟩) rfl ⟨rfl, by omega, by omega, fun _ => rfl, fun x hx => by cases hx⟩ (fun x hx => by cases hx)
    · rw [if_neg h, if_neg h]
      exact partSet_nil _ _
set_option maxHeartbeats 4000000 in
theorem parts_in (w : World) (A : Option Addr) (n c : Nat) (r : List UInt8) (gen : Int) (index top : Nat) (hn : n = r.length) (hr : RowOf w 1 A n c (Lib.byteCells r)) (h4 : n ≤ 4096) (hi : index ≤ 1000000) (htop : ∀ x, A = some x → 0 < n → x.block < top) (htop2 : top ≤ w.heap.size) :
    CallsIn Fence.wide 4 Tryd.prog 35 #[.slice A n c, .int .i64 gen, .int .i64 (index : Int)] w fun e w' => ∃ v cs, e = .returned v ∧ w'.ownsRow w.heap.size 100 4 v (sizeN r.length) cs.flatten ∧ PartSet w' top cs (Dk.parts r gen index) ∧ Below w.heap.size w w' := by
  have HN := Lib.hid hn
  have HR := Lib.hid hr
  have HTOP := Lib.hid htop
  obtain ⟨b, o, hA, hbl⟩ : ∃ b o, (0 < n → A = some ⟨b, o, none⟩) ∧ (0 < n → b < w.heap.size ∧ w.rangeAt b o (Lib.byteCells r)) := by
    by_cases h0 : 0 < n
    · obtain ⟨b, o, e, h1, h2⟩ := row_at hr h0
      exact ⟨b, o, fun _ => e, fun _ => ⟨h1, h2⟩⟩
    · exact ⟨0, 0, fun h => absurd h h0, fun h => absurd h h0⟩
  have HA := Lib.hid hA
  have HBL := Lib.hid hbl
  clear hn hr htop hA hbl
  refine callsIn_of_wp_marks Tryd.func35 rfl trivial ?_ rfl
  simp only [Tryd.ntmps35, List.size_toArray, List.length_cons, List.length_nil, Nat.reduceAdd, Nat.reduceSub, Array.replicate_succ, Array.replicate_zero, List.push_toArray, List.append_toArray, List.nil_append, List.cons_append]
  by_cases h0 : 0 < n
  · have hd3 : decide (0 < n) = true := by simp; omega
    gi_wp2_with fail
    refine ⟨trivial, (chunk_in 3 A n c 100 (by decide) _).mono ?_⟩
    rintro e W0 ⟨rfl, hW0⟩
    have HMID := Lib.hid (pcMid_mk w A n c r gen index top 0 HN.out (by rw [if_neg (by omega)]) W0 hW0)
    clear hW0 hd3
    obtain rfl := HA.out h0
    gi_wp2_with fail
    simp only [Act.put, List.setIfInBounds_toArray, Nat.add_assoc, Nat.reduceAdd]
    have hs6 := HMID.out.size
    have HS6 := Lib.hid hs6
    have HX0 := Lib.hid (show lstP r gen index 0 = lstX r gen index (([] : List (Fin (cntP n)))) by rw [lstP_some (by rw [← HN.out]; exact h0)]; rfl)
    refine wpIn_rangeFunc_ownH rfl (by decide) (gf := 75) (lb := #[.pointer (some ⟨w.heap.size + 4, 0, none⟩), .pointer (some ⟨w.heap.size + 5, 0, none⟩)]) rfl trivial (enters_of Tryd.func75 (by kernel_rfl) rfl)
      (chunk_stops 3 (by decide) (w.heap.size + 4) (w.heap.size + 5) b o n c 100 (cntP n) (by decide) (by decide) HR.out.2.1 HR.out.2.2.1 (by omega) (fun k => cntP_lt n k) W0 (by omega) (by omega) (cell_of_heap HMID.out.hbs rfl) (cell_of_heap HMID.out.hbn rfl)) kbox_t (kbox_b (by omega) (by omega)) (Below.refl _ _) (fun _ => rfl)
      (fun (pre : List (Fin (cntP n))) W => PcI w W0 top (lstX r gen index pre) W) (fun c pre W => False) (pc_own HS6.out htop2) (fun c s A B row hs hg hr => hs)
      ⟨by rw [← HX0.out]; exact HMID.out.ex, HMID.out.below, Nat.le_refl _, fun _ _ => rfl⟩
      (fun (x : Fin (cntP n)) a' W => ∃ u9 u10 u11 u12 u13 u14 u15 u16 u17 u18 u19 u20 u21 u22 u23 u24 u25 u26 u27 u28 u29 u30 u31 u32 u33 u34 u35 u36 u37 u38 u39 u40 u41 u42 u43 u44 : Value, a' = { tmps := #[.slice (some ⟨b, o, none⟩) n c, .int .i64 gen, .int .i64 (index : Int), undef, .pointer (some ⟨w.heap.size, 0, none⟩), .pointer (some ⟨w.heap.size + 1, 0, none⟩), .slice none 0 0, .pointer (some ⟨w.heap.size + 3, 0, none⟩), .slice (some ⟨b, o + x.1 * 100, none⟩) (min 100 (n - x.1 * 100)) (min 100 (n - x.1 * 100)), u9, u10, u11, u12, u13, u14, u15, u16, u17, u18, u19, u20, u21, u22, u23, u24, u25, u26, u27, u28, u29, u30, u31, u32, u33, u34, u35, u36, u37, u38, u39, u40, u41, u42, u43, u44], defers := [] }) (fun x a' s A B row hs hg hr => hs) ?assign ?body ?done ?stop
    case assign =>
      rintro l pre x W K hI hK
      have HKK := Lib.hid hK
      clear hK
      gi_wp2
      exact HKK.out _ _ (KeepsFrom.refl _ _) ⟨rfl, rfl⟩ hI ⟨_, _, _, _, _, _, _, _, _, _, _, _, _, _, _, _, _, _, _, _, _, _, _, _, _, _, _, _, _, _, _, _, _, _, _, _, rfl⟩
    case body =>
      rintro l pre x a' W hl ⟨rr, hr⟩ hI ⟨u9, u10, u11, u12, u13, u14, u15, u16, u17, u18, u19, u20, u21, u22, u23, u24, u25, u26, u27, u28, u29, u30, u31, u32, u33, u34, u35, u36, u37, u38, u39, u40, u41, u42, u43, u44, rfl⟩ hlt
      have HI := Lib.hid hI
      obtain ⟨⟨V, e, cs, i1, i2, i3⟩, ib, isz, ibx⟩ := hI
      have hx := (cntP_lt n x.1).1 x.2
      rw [lstX_len] at i1 i2
      have HSN := Lib.hid (lstX_snoc r gen index pre x)
      have HXL := Lib.hid (lstX_len r gen index pre)
      have hcn : cntP n ≤ 41 := by unfold cntP; omega
      have hk41 : pre.length < 41 := by omega
      obtain ⟨k, hk⟩ : ∃ k, k = pre.length := ⟨_, rfl⟩
      rw [← hk] at i1 i2 HSN HXL hk41
      have HK := Lib.hid hk
      clear hk
      have HO := Lib.hid i2
      have HPS := Lib.hid i3
      have HB7 := Lib.hid i1
      have hc7 := cell_of_heap (o := 0) i1 rfl
      have hc4 := cell_of_heap (o := 0) ((ibx w.heap.size (.inl rfl)).trans HMID.out.hgen) rfl
      have hc5 := cell_of_heap (o := 0) ((ibx (w.heap.size + 1) (.inr (.inl rfl))).trans HMID.out.hindex) rfl
      have hs1 : IntKind.i64.wrap ((index : Int) + (k : Int)) = (index : Int) + (k : Int) := IntWalk.i64_in _ (by omega)
      obtain ⟨m, hm⟩ : ∃ m, m = min 100 (n - x.1 * 100) := ⟨_, rfl⟩
      rw [← hm]
      have HM := Lib.hid hm
      have HNEW := Lib.hid (range_new W (partC gen ((index : Int) + (k : Int)) 0 (some ⟨b, o + x.1 * 100, none⟩) m m) 100)
      have HBX := Lib.hid ibx
      have HIB := Lib.hid ib
      have HISZ := Lib.hid isz
      have hWs : w.heap.size ≤ (W.alloc (.cells #[.int .i64 gen, .int .i64 ((index : Int) + (k : Int)), .int .u8 0, .slice (some ⟨b, o + x.1 * 100, none⟩) m m] 100)).heap.size := by have := ib.size; simp; omega
      have HWS := Lib.hid hWs
      clear i1 i2 i3 ib isz ibx hm hs6 hWs
      gi_wp2_with (gi_at_builtin; refine append_one_in rfl (.tmp 21) (.tmp 29) 70 100 rfl Tryd.underlying70 w.heap.size _ 4 48 infopart rfl (by decide) _ _ _ rfl (HO.out.alloc _) _ 1 (partC gen ((index : Int) + (k : Int)) 0 (some ⟨b, o + x.1 * 100, none⟩) m m) rfl HNEW.out rfl (partC_one _ _ _ _ _ _) (by omega) (by decide) HWS.out ?_)
      intro v' w9 k1 k2
      obtain ⟨A9, c9, rfl, hrow9, hlo9⟩ := row_of_own k1
      have HK1 := Lib.hid k1
      have HK2 := Lib.hid k2
      clear k1 k2 hrow9 hlo9 hc7 hc4 hc5
      have hne7 : some (w.heap.size + 3) ≠ (Value.slice V k e).ownBlock := (own_ne HO.out HB7.out (by decide)).symm
      have hb79 : w9.heap[w.heap.size + 3]? = some (.cells #[.slice V k e] 70 (0, 0)) := by
        have := HISZ.out
        have := HS6.out
        rw [HK2.out.block _ (by simp; omega) hne7, Below.heap_alloc _ _ _ (by omega)]
        exact HB7.out
      have hw7 := cell_of_heap (o := 0) hb79 rfl
      have hf7 := frozen_of_heap (o := 0) hb79
      gi_wp2_with fail
      have hbxo : ∀ i cu T, (i = w.heap.size ∨ i = w.heap.size + 1 ∨ i = w.heap.size + 4 ∨ i = w.heap.size + 5) → W0.heap[i]? = some (.cells cu T (0, 0)) → T ≠ 100 → (w9.setCell ⟨w.heap.size + 3, 0, none⟩ (.slice A9 (k + 1) c9)).heap[i]? = W.heap[i]? := fun i cu T hi h0 hT => by
        have h1 := HISZ.out
        have h2 := HS6.out
        rw [show (w9.setCell ⟨w.heap.size + 3, 0, none⟩ (.slice A9 (k + 1) c9)).heap[i]? = w9.heap[i]? from heap_setCells (w.heap.size + 3) i (by omega) [.slice A9 (k + 1) c9] 0 w9, HK2.out.block i (by simp; omega) (own_ne HO.out ((HBX.out i hi).trans h0) hT).symm, Below.heap_alloc _ _ _ (by omega)]
      have hall : ∀ i, (i = w.heap.size ∨ i = w.heap.size + 1 ∨ i = w.heap.size + 4 ∨ i = w.heap.size + 5) → (w9.setCell ⟨w.heap.size + 3, 0, none⟩ (.slice A9 (k + 1) c9)).heap[i]? = W.heap[i]? := fun i hi => by
        rcases hi with rfl | rfl | rfl | rfl
        · exact hbxo _ _ _ (.inl rfl) HMID.out.hgen (by decide)
        · exact hbxo _ _ _ (.inr (.inl rfl)) HMID.out.hindex (by decide)
        · exact hbxo _ _ _ (.inr (.inr (.inl rfl))) HMID.out.hbs (by decide)
        · exact hbxo _ _ _ (.inr (.inr (.inr rfl))) HMID.out.hbn (by decide)
      have hbW : Below w.heap.size W (w9.setCell ⟨w.heap.size + 3, 0, none⟩ (.slice A9 (k + 1) c9)) :=
        ((((Below.refl w.heap.size W).alloc HIB.out.size _).grown HK2.out HWS.out (fun q e => (own_lt HO.out q e).1)).setCell (p := ⟨w.heap.size + 3, 0, none⟩) (show w.heap.size ≤ w.heap.size + 3 by omega) _)
      refine ⟨?_, ⟨World.cell?_of_block (a := ⟨w.heap.size + 4, 0, none⟩) (hall _ (.inr (.inr (.inl rfl)))), World.cell?_of_block (a := ⟨w.heap.size + 5, 0, none⟩) (hall _ (.inr (.inr (.inr rfl))))⟩, ⟨A9, c9, cs ++ [partC gen ((index : Int) + (k : Int)) 0 (some ⟨b, o + x.1 * 100, none⟩) m m], ?_, ?_, ?_⟩, HIB.out.trans hbW, by have := hbW.size; have := HISZ.out; omega, fun i hi => (hall i hi).trans (HBX.out i hi)⟩
      · refine (KeepsOthers.trans (KeepsOthers.alloc _ _) (KeepsOthers.trans (KeepsOthers.of_grownBy HK2.out (fun j ob e ho => ?_)) (KeepsOthers.setCell _ _ _))).from _
        obtain ⟨ob', ho', hc'⟩ := own_cells (HO.out.alloc (.cells #[.int .i64 gen, .int .i64 ((index : Int) + (k : Int)), .int .u8 0, .slice (some ⟨b, o + x.1 * 100, none⟩) m m] 100)) e
        rw [ho] at ho'
        injection ho' with ho'
        rw [ho']; exact hc'
      · rw [HSN.out, List.length_append, HXL.out]
        exact heap_setCell_cells _ hb79
      · rw [HSN.out, List.length_append, HXL.out, List.flatten_append, List.flatten_singleton]
        exact ownsRow_setCell_other HK1.out (own_ne HK1.out hb79 (by decide)) _
      · rw [HSN.out]
        refine (HPS.out.below hbW htop2).app ?_
        have hd : ((r.drop (100 * x.1)).take 100).length = m := by rw [List.length_take, List.length_drop, ← HN.out, HM.out, Nat.mul_comm]
        refine partSet_one (p := ⟨gen, ((index + k : Nat) : Int), 0, (r.drop (100 * x.1)).take 100⟩) hd.symm ?_ (fun y hy _ => by injection hy with hy; subst hy; exact HTOP.out ⟨b, o, none⟩ rfl h0)
        have hbl := HBL.out h0
        refine ⟨by rw [Lib.byteCells_length, hd, Nat.mul_one], Nat.le_refl _, by have := HM.out; omega, (fun q => by cases q), fun y hy _ => ?_⟩
        injection hy with hy; subst hy
        refine ⟨rfl, by have := HIB.out.size; have := hbW.size; show b < _; omega, ?_⟩
        have := range_below (range_dt hbl.2 (100 * x.1) 100) (HIB.out.trans hbW) hbl.1
        show (w9.setCell ⟨w.heap.size + 3, 0, none⟩ (.slice A9 (k + 1) c9)).rangeAt b (o + x.1 * 100) _
        rw [Nat.mul_comm x.1 100]
        exact this
    case done =>
      rintro D ys W hD rfl hI hK
      rw [lstX_all (by rw [← HN.out]; exact h0)] at hI
      obtain ⟨⟨V, e, cs, i1, i2, i3⟩, ib, isz, ibx⟩ := hI
      have HKD := Lib.hid hK
      have hlen : (lstP r gen index (cntP n)).length = sizeN n := by
        have := lstP_len r gen index (by rw [← HN.out]; exact h4)
        rwa [← HN.out] at this
      have hz := Jp.sizeN_pos h4
      rw [hlen] at i1 i2
      obtain ⟨k, hk⟩ : ∃ k, sizeN n = k + 1 := ⟨sizeN n - 1, by omega⟩
      rw [hk] at i1 i2 hlen
      have hk41 : k ≤ 40 := by omega
      have HZ := Lib.hid (show sizeN r.length = k + 1 by rw [← HN.out]; exact hk)
      have HIB := Lib.hid ib
      clear hz hk ibx isz hK ib
      obtain ⟨g, rfl, hgb, hgl, hgr, hgt⟩ := own_there i2 (by omega)
      obtain ⟨p0, hp0⟩ : ∃ p0, (lstP r gen index (cntP n))[0]? = some p0 := ⟨_, List.getElem?_eq_getElem (by omega)⟩
      obtain ⟨B0, m0, c0, e0, s0⟩ := i3.remark hp0 1
      obtain ⟨p1, hp1⟩ : ∃ p1, ((lstP r gen index (cntP n)).set 0 { p0 with marks := 1 })[k]? = some p1 := ⟨_, List.getElem?_eq_getElem (by rw [List.length_set]; omega)⟩
      obtain ⟨B1, m1, c1, e1, s1⟩ := s0.remark hp1 (p1.marks ||| 2)
      have hm1 : p1.marks = 0 ∨ p1.marks = 1 := by
        by_cases hk0 : k = 0
        · rw [hk0, List.getElem?_set_self (by omega)] at hp1
          injection hp1 with hp1
          right; rw [← hp1]
        · rw [List.getElem?_set_ne (by omega), lstP_some (by rw [← HN.out]; exact h0), List.getElem?_map, List.getElem?_range (by rw [lstP_some (by rw [← HN.out]; exact h0), List.length_map, List.length_range] at hlen; omega)] at hp1
          injection hp1 with hp1
          left; rw [← hp1]; rfl
      have hor : bits .or .u8 (p1.marks.toNat : Int) 2 = ((p1.marks ||| 2).toNat : Int) := by
        rcases hm1 with h | h <;> rw [h] <;> rfl
      have hf0 : cs.flatten.set 2 (.int .u8 1) = (cs.set 0 (partC p0.gen p0.index (((1 : UInt8).toNat : Nat) : Int) B0 m0 c0)).flatten := flat_set4 i3.four (.int .u8 1) e0
      have hf1 : (cs.set 0 (partC p0.gen p0.index (((1 : UInt8).toNat : Nat) : Int) B0 m0 c0)).flatten.set (k * 4 + 2) (.int .u8 ((p1.marks ||| 2).toNat : Int)) = ((cs.set 0 (partC p0.gen p0.index (((1 : UInt8).toNat : Nat) : Int) B0 m0 c0)).set k (partC p1.gen p1.index ((p1.marks ||| 2).toNat : Int) B1 m1 c1)).flatten :=
        flat_set4 s0.four (.int .u8 ((p1.marks ||| 2).toNat : Int)) e1
      have hlast := lstP_marked r gen index (by rw [← HN.out]; exact h4) (k + 1) HZ.out.symm p0 p1 (by rw [← HN.out]; exact hp0) (by rw [← HN.out]; exact hp1)
      rw [← HN.out, Nat.add_sub_cancel] at hlast
      rw [hlast] at s1
      generalize hcs1 : cs.set 0 (partC p0.gen p0.index (((1 : UInt8).toNat : Nat) : Int) B0 m0 c0) = cs1 at *
      generalize hcs2 : cs1.set k (partC p1.gen p1.index ((p1.marks ||| 2).toNat : Int) B1 m1 c1) = cs2 at *
      have HS2 := Lib.hid s1
      have hx0 := own_set i2 2 (.int .u8 1)
      rw [hf0] at hx0
      have hx1 := own_set hx0 (k * 4 + 2) (.int .u8 ((p1.marks ||| 2).toNat : Int))
      rw [hf1] at hx1
      obtain ⟨A8, c8, e8, hrow8, _⟩ := row_of_own hx0
      injection e8 with e81 e82 e83
      obtain ⟨b8, o8, e9, hb9, hX9⟩ := part_in s0.four hrow8 e1 (by omega)
      rw [← e81] at e9
      injection e9 with e9; injection e9 with e91 e92
      subst e91; subst e92
      have hDg : D ≠ g := fun q => by
        obtain ⟨ob, ho, hc⟩ := own_cells i2 (g := g) rfl
        rw [← q, HKD.out] at ho
        injection ho with ho
        subst ho
        cases hc
      have hg7 : w.heap.size + 3 ≠ g := fun q => own_ne i2 i1 (by decide) (by rw [q]; rfl)
      have a1 : (W.cell? ⟨g, 2, none⟩).isSome = true := by have := (hgt 2 (by omega)).1; rwa [Nat.zero_add] at this
      obtain ⟨u2, a1⟩ := Option.isSome_iff_exists.1 a1
      have a2 : W.frozen? ⟨g, 2, none⟩ = false := by have := (hgt 2 (by omega)).2; rwa [Nat.zero_add] at this
      have a7 := cell_of_heap (o := 0) i1 rfl
      obtain ⟨W1, hW1⟩ : ∃ W1, W1 = W.setCell ⟨g, 2, none⟩ (.int .u8 1) := ⟨_, rfl⟩
      have HX1 := Lib.hid hx1
      have b7 : W1.cell? ⟨w.heap.size + 3, 0, none⟩ = some (.slice (some ⟨g, 0, none⟩) (k + 1) e) := by
        rw [hW1, World.cell?_setCell_far _ _ _ _ (by show g ≠ w.heap.size + 3; omega)]; exact a7
      have b2 : W1.cell? ⟨g, k * 4 + 2, none⟩ = some (.int .u8 (p1.marks.toNat : Int)) := by
        have := hX9 2 _ rfl
        rw [← hW1] at this
        rwa [Nat.zero_add] at this
      have b3 : W1.frozen? ⟨g, k * 4 + 2, none⟩ = false := by
        have := (hgt (k * 4 + 2) (by omega)).2
        rw [Nat.zero_add] at this
        rw [hW1, World.frozen?_setCell]; exact this
      have hH1 : W1.heap[D]? = some (.deferred (some [])) := by rw [hW1]; exact (heap_setCells g D hDg [.int .u8 1] 2 W).trans HKD.out
      have hB1 : Below w.heap.size w W1 := by rw [hW1]; exact HIB.out.setCell (p := ⟨g, 2, none⟩) hgb _
      have hBW1 : Below w.heap.size W W1 := by rw [hW1]; exact (Below.refl _ _).setCell (p := ⟨g, 2, none⟩) hgb _
      have hs1 : IntKind.i64.wrap (k : Int) = (k : Int) := IntWalk.i64_in _ (by omega)
      have hk0 : (0 : Int) ≤ (k : Int) := by omega
      clear hX9 hb9 e1 e0 s0 s1 hp1 hp0 i2 i3 hgr hgt hf0 hf1 hx0 hx1 hrow8 e81 e82 e83 hlast hm1
      gi_upto_region 8 with fail
      rw [← hW1]
      rw [← hW1] at HX1
      clear hW1 a1 a2 a7 i1
      gi_wp2_with fail
      have hor2 : ((p1.marks.toNat ||| 2 : Nat) : Int) = ((p1.marks ||| 2).toNat : Int) := by rw [UInt8.toNat_or]; rfl
      rw [hor2]
      obtain ⟨W2, hW2⟩ : ∃ W2, W2 = W1.setCell ⟨g, k * 4 + 2, none⟩ (.int .u8 ((p1.marks ||| 2).toNat : Int)) := ⟨_, rfl⟩
      rw [← hW2] at HX1 ⊢
      have hH2 : W2.heap[D]? = some (.deferred (some [])) := by rw [hW2]; exact (heap_setCells g D hDg [.int .u8 ((p1.marks ||| 2).toNat : Int)] (k * 4 + 2) W1).trans hH1
      have hB2 : Below w.heap.size W1 W2 := by rw [hW2]; exact (Below.refl _ _).setCell (p := ⟨g, k * 4 + 2, none⟩) hgb _
      have hB3 : Below w.heap.size W2 (W2.putObj D (.deferred none)) := (Below.refl w.heap.size W2).grown (grownBy_putObj' W2 D (.deferred none)) (by have := HIB.out.size; have := hBW1.size; have := hB2.size; omega) (fun q e => by cases e; have := HS6.out; omega)
      refine ⟨by simp, .inl ⟨_, _, rfl, run_takeDeferred hH2, ?_⟩⟩
      refine ⟨.slice (some ⟨g, 0, none⟩) (k + 1) e, by simp [results], ⟨_, rfl, cs2, ?_, ?_, ?_⟩⟩
      · rw [HZ.out]; exact own_putObj HX1.out hH2
      · exact HS2.out.below (hBW1.trans (hB2.trans hB3)) htop2
      · exact hB1.trans (hB2.trans hB3)
    case stop =>
      rintro D c pre W hD hp hI hK
      exact hI.elim
  · have hd3 : decide (0 < n) = false := by simp; omega
    obtain rfl : n = 0 := by omega
    obtain rfl : r = [] := List.eq_nil_of_length_eq_zero HN.out.symm
    clear hd3
    have hd3 : decide (0 < 0) = false := rfl
    gi_wp2_with fail
    refine ⟨.slice (some ⟨w.heap.size + 1 + 1, 0, none⟩) 1 1, by simp [results], ⟨_, [partC gen (index : Int) 3 none 0 0], rfl, ?_, ?_, ?_⟩⟩
    · refine ⟨rfl, .inr ⟨w.heap.size + 1 + 1, 1, #[.int .i64 gen, .int .i64 (index : Int), .int .u8 3, .slice none 0 0], rfl, by omega, ?_, by decide, by decide, rfl, rfl⟩⟩
      simp only [heap_push, Array.getElem?_push, Array.size_push]
      repeat first | rw [if_pos trivial] | rw [if_pos (by omega)] | rw [if_neg (by omega)]
      rfl
    · rw [parts_none]
      exact partSet_one (p := ⟨gen, (index : Int), 3, []⟩) rfl ⟨rfl, by omega, by omega, fun _ => rfl, fun x hx => by cases hx⟩ (fun x hx => by cases hx)
    · exact ((((Below.refl w.heap.size w).alloc (Nat.le_refl _) _).alloc (by simp) _).alloc (by simp; omega) _).alloc (by simp; omega) _
theorem parts_f (w : World) (A : Option Addr) (n c : Nat) (r : List UInt8) (gen : Int) (index top : Nat) (hn : n = r.length) (hr : RowOf w 1 A n c (Lib.byteCells r)) (h4 : n ≤ 4096) (hi : index ≤ 1000000) (htop : ∀ x, A = some x → 0 < n → x.block < top) (htop2 : top ≤ w.heap.size) :
    Calls Tryd.prog 35 #[.slice A n c, .int .i64 gen, .int .i64 (index : Int)] w fun e w' => ∃ v cs, e = .returned v ∧ w'.ownsRow w.heap.size 100 4 v (sizeN r.length) cs.flatten ∧ PartSet w' top cs (Dk.parts r gen index) ∧ Below w.heap.size w w' :=
  callsIn_wide.1 (parts_in w A n c r gen index top hn hr h4 hi htop htop2)
end Go.Proofs.YtbhjigejpdbeiaaDoor
