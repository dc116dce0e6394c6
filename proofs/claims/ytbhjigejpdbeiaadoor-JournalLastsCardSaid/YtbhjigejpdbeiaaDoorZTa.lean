/-
  (rounds).take: sixteen words into the state.
-/
import Derived.Test.YtbhjigejpdbeiaaDoorZUw
import Derived.Test.YtbhjigejpdbeiaaDoorZMem5
import Derived.IntWalk
import Derived.Deep.RegionLaw
import Derived.Deep.RegionHeld3
import Derived.StillTailTactics
import Derived.BigQuiet
set_option linter.unusedSimpArgs false
set_option linter.unusedVariables false
namespace Go.Proofs.YtbhjigejpdbeiaaDoor
open Go.RowKit
set_option linter.unusedVariables false
set_option maxRecDepth 8000

theorem small0_b {W0 W : World} (hb : Below W0.heap.size W0 W) (x : W32) : Calls Tryd.prog 89 #[.int .u32 (wi x)] W fun e w' => e = .returned (.int .u32 (wi (Sha.small0 x))) ∧ Below W0.heap.size W0 w' :=
  (small0_f W x).mono fun _ _ ⟨h1, h2⟩ => ⟨h1, below_chain hb h2⟩
theorem small1_b {W0 W : World} (hb : Below W0.heap.size W0 W) (x : W32) : Calls Tryd.prog 90 #[.int .u32 (wi x)] W fun e w' => e = .returned (.int .u32 (wi (Sha.small1 x))) ∧ Below W0.heap.size W0 w' :=
  (small1_f W x).mono fun _ _ ⟨h1, h2⟩ => ⟨h1, below_chain hb h2⟩
theorem big0_b {W0 W : World} (hb : Below W0.heap.size W0 W) (x : W32) : Calls Tryd.prog 86 #[.int .u32 (wi x)] W fun e w' => e = .returned (.int .u32 (wi (Sha.big0 x))) ∧ Below W0.heap.size W0 w' :=
  (big0_f W x).mono fun _ _ ⟨h1, h2⟩ => ⟨h1, below_chain hb h2⟩
theorem big1_b {W0 W : World} (hb : Below W0.heap.size W0 W) (x : W32) : Calls Tryd.prog 88 #[.int .u32 (wi x)] W fun e w' => e = .returned (.int .u32 (wi (Sha.big1 x))) ∧ Below W0.heap.size W0 w' :=
  (big1_f W x).mono fun _ _ ⟨h1, h2⟩ => ⟨h1, below_chain hb h2⟩
theorem k_b {W0 W : World} (hb : Below W0.heap.size W0 W) (i : Nat) (hi : i < 80) (hL : Laid W) : Calls Tryd.prog 85 #[.int .i64 (i : Int)] W fun e w' => e = .returned (.int .u32 (wi (Sha.K i))) ∧ Below W0.heap.size W0 w' :=
  (k_f W i hi hL).mono fun _ _ ⟨h1, h2⟩ => ⟨h1, h2 ▸ hb⟩

theorem below_new {W0 W : World} (h : Below W0.heap.size W0 W) (o : Obj) : Below W0.heap.size W0 (W.alloc o) := h.alloc h.size o
theorem row_u32 (w : World) (x : W32) : RowOf (w.alloc (.cells #[.int .u32 (wi x)] 144)) 1 (some ⟨w.heap.size, 0, none⟩) 1 1 (wC [x]) :=
  ⟨rfl, Nat.le_refl _, by omega, (fun h => by cases h), fun y hy _ => by injection hy with hy; subst hy; exact ⟨rfl, by simp, range_new w (wC [x]) 144⟩⟩
theorem sched_next (l : List W32) (hl : l.length = 16) (q : Nat) : Sha.next (Sha.sched l q) = (Sha.sched l q).getD q 0 + Sha.small0 ((Sha.sched l q).getD (q + 1) 0) + (Sha.sched l q).getD (q + 9) 0 + Sha.small1 ((Sha.sched l q).getD (q + 14) 0) := by
  rw [Sha.next, Sha.sched_length, hl, show 16 + q - 16 = q by omega, show 16 + q - 15 = q + 1 by omega, show 16 + q - 7 = q + 9 by omega, show 16 + q - 2 = q + 14 by omega]
theorem run_index_u32 (V : Array Value) (j n : Nat) (u : Value) (hj : j < n) (h : V[j]? = some u) (T : TypeId) (hT : Tryd.prog.underlying T = some (.array n 144)) (w : World) : (Instr.index T (.agg V) (.int .i64 (j : Int))).run Tryd.prog w = .ok u w := by
  have hp := run_part_plain (P := Tryd.prog) (e := 144) w (by kernel_rfl) h
  unfold Instr.index
  simp [asIntOf, Sem.run_bind, run_underlying hT, Tryd.sizeOf144, hj, hp]
def rT : List Value := [.int .i64 64, .func (.func 85) #[] #[], .func (.func 86) #[] #[], .func (.func 88) #[] #[], .func (.func 89) #[] #[], .func (.func 90) #[] #[]]
/-- The state while the words are added, one by one. -/
def mixC (h S : Sha.St) (j : Nat) : List Value := wC ((h.add S).list.take j ++ h.list.drop j) ++ rT
theorem mixC_zero (h S : Sha.St) : mixC h S 0 = rC h := rfl
theorem mixC_end (h S : Sha.St) : mixC h S 8 = rC (h.add S) := rfl
theorem mixC_length (h S : Sha.St) (j : Nat) (hj : j ≤ 8) : (mixC h S j).length = 14 := by
  have h1 : ∀ T : Sha.St, T.list.length = 8 := fun _ => rfl
  simp only [mixC, rT, List.length_append, wC_length, List.length_take, List.length_drop, h1, List.length_cons, List.length_nil]
  omega
theorem mixC_at (h S : Sha.St) (j : Nat) (hj : j < 8) : (mixC h S j)[j]? = some (.int .u32 (wi (h.list.getD j 0))) := by
  rcases (show j = 0 ∨ j = 1 ∨ j = 2 ∨ j = 3 ∨ j = 4 ∨ j = 5 ∨ j = 6 ∨ j = 7 by omega) with rfl | rfl | rfl | rfl | rfl | rfl | rfl | rfl <;> rfl
theorem mixC_set (h S : Sha.St) (j : Nat) (hj : j < 8) : (mixC h S j).set j (.int .u32 (wi (h.list.getD j 0 + S.list.getD j 0))) = mixC h S (j + 1) := by
  rcases (show j = 0 ∨ j = 1 ∨ j = 2 ∨ j = 3 ∨ j = 4 ∨ j = 5 ∨ j = 6 ∨ j = 7 by omega) with rfl | rfl | rfl | rfl | rfl | rfl | rfl | rfl <;> rfl
theorem list_at (S : Sha.St) (j : Nat) (hj : j < 8) : (#[Value.int IntKind.u32 (wi S.a), Value.int IntKind.u32 (wi S.b), Value.int IntKind.u32 (wi S.c), Value.int IntKind.u32 (wi S.d), Value.int IntKind.u32 (wi S.e), Value.int IntKind.u32 (wi S.f), Value.int IntKind.u32 (wi S.g), Value.int IntKind.u32 (wi S.h)] : Array Value)[j]? = some (.int .u32 (wi (S.list.getD j 0))) := by
  rcases (show j = 0 ∨ j = 1 ∨ j = 2 ∨ j = 3 ∨ j = 4 ∨ j = 5 ∨ j = 6 ∨ j = 7 by omega) with rfl | rfl | rfl | rfl | rfl | rfl | rfl | rfl <;> rfl
theorem grown_set {w w' : World} {b : Nat} (h : w.grownBy w' (some b)) (o : Nat) (v : Value) : w.grownBy (w'.setCell ⟨b, o, none⟩ v) (some b) :=
  ⟨h.os, h.tape, h.output, by simpa using h.size, fun k hk hne => (Below.heap_setCell _ _ _ _ (by intro q; exact hne (by rw [q]))).trans (h.block k hk hne)⟩
/-- What a call of take leaves. -/
def TakePost (b : Nat) (h : Sha.St) (w : World) (e : Ending) (w' : World) : Prop := e = .returned (.tuple #[]) ∧ RoundsAt w' b h ∧ w.grownBy w' (some b)

set_option maxHeartbeats 8000000 in
theorem take_f (w : World) (b : Nat) (h : Sha.St) (l : List W32) (hl : l.length = 16) (hR : RoundsAt w b h) (hL : Laid w) :
    Calls Tryd.prog 100 #[.pointer (some ⟨b, 0, none⟩), .agg (wC l).toArray] w fun e w' => TakePost b (Sha.take h l) w e w' := by
  have hb := hR.lt
  have hAR := Lib.hid (range_new w (wC l) 163)
  have HR := Lib.hid hR
  have HB1 := Lib.hid ((Below.refl w.heap.size w).alloc (Nat.le_refl _) (.cells (wC l).toArray 163))
  have HROW := Lib.hid (row_wC (w := w.alloc (.cells (wC l).toArray 163)) (b := w.heap.size) (l := l) (by simp) hAR.out (by omega))
  have HL := Lib.hid hL
  clear hL hR hAR
  rw [hl] at HROW
  go_enter Tryd.func100, Tryd.ntmps100
  go_wp2_with fail
  refine (cloneU_f _ w.heap.size 16 16 (wC l) HROW.out (wC_one _) (by omega)).mono ?_
  rintro e w2 ⟨⟨v, rfl, hown⟩, hb2⟩
  have HB2 := Lib.hid (below_chain HB1.out hb2)
  have HOWN := Lib.hid hown
  clear hown hb2
  go_wp2
  go_loopw [4, 5] (fun v i wr => ∃ q : Nat, q ≤ 48 ∧ i = .int .i64 ((q : Int) + 16) ∧ Hid (wr.ownsRow (w.heap.size + 1) 144 1 v (q + 16) (wC (Sha.sched l q))) ∧ Hid (Below w.heap.size w wr)) (fun _ i _ => 64 - (intOf i).toNat)
  case atStart => exact ⟨0, by omega, rfl, Lib.hid (by have := HOWN.out; rw [size_alloc] at this; exact this), HB2⟩
  case round =>
    obtain ⟨q, hq, rfl, HO, HB⟩ := hrel
    have hc64 := (HR.out.below HB.out HR.out.lt).at 8 (.int .i64 64) rfl
    by_cases hq48 : q < 48
    · have hlen : (Sha.sched l q).length = q + 16 := by rw [Sha.sched_length, hl]; omega
      have hnx := sched_next l hl q
      have hsn : Sha.sched l (q + 1) = Sha.sched l q ++ [Sha.next (Sha.sched l q)] := rfl
      obtain ⟨A, c, rfl, hrow, _⟩ := row_of_own HO.out
      obtain ⟨g, rfl, hg0, hg1, hgr, _⟩ := own_there HO.out (by omega)
      have hcell : ∀ j, j < q + 16 → wr.cell? ⟨g, j, none⟩ = some (.int .u32 (wi ((Sha.sched l q).getD j 0))) := fun j hj => by
        have := hgr j _ (wC_at _ j (by omega))
        rwa [Nat.zero_add] at this
      have z0 := hcell q (by omega)
      have z1 := hcell (q + 1) (by omega)
      have z2 := hcell (q + 9) (by omega)
      have z3 := hcell (q + 14) (by omega)
      have hRr := HR.out.below HB.out HR.out.lt
      have z4 := hRr.at 12 _ rfl
      have z5 := hRr.at 13 _ rfl
      have hnc := hrow.2.1
      clear hcell hgr hrow
      rw [hnx] at hsn
      clear hnx
      generalize Sha.sched l q = P at *
      have a0 := wC_at P q (by omega)
      have a1 := wC_at P (q + 1) (by omega)
      have a2 := wC_at P (q + 9) (by omega)
      have a3 := wC_at P (q + 14) (by omega)
      generalize P.getD q 0 = x0 at *
      generalize P.getD (q + 1) 0 = x1 at *
      generalize P.getD (q + 9) 0 = x2 at *
      generalize P.getD (q + 14) 0 = x3 at *
      have hbr := hRr.lt
      have HK := Lib.hid (show ∀ W, Below wr.heap.size wr W → W.cell? ⟨g, q, none⟩ = some (.int .u32 (wi x0)) ∧ W.cell? ⟨g, q + 1, none⟩ = some (.int .u32 (wi x1)) ∧ W.cell? ⟨g, q + 9, none⟩ = some (.int .u32 (wi x2)) ∧ W.cell? ⟨g, q + 14, none⟩ = some (.int .u32 (wi x3)) ∧ W.cell? ⟨b, 12, none⟩ = some (.func (.func 89) #[] #[]) ∧ W.cell? ⟨b, 13, none⟩ = some (.func (.func 90) #[] #[]) from
        fun W hW => ⟨(hW.cell (p := ⟨g, q, none⟩) hg1).trans z0, (hW.cell (p := ⟨g, q + 1, none⟩) hg1).trans z1, (hW.cell (p := ⟨g, q + 9, none⟩) hg1).trans z2, (hW.cell (p := ⟨g, q + 14, none⟩) hg1).trans z3, (hW.cell (p := ⟨b, 12, none⟩) hbr).trans z4, (hW.cell (p := ⟨b, 13, none⟩) hbr).trans z5⟩)
      have HSZ := Lib.hid (show ∀ W, Below wr.heap.size wr W → w.heap.size + 1 ≤ W.heap.size from fun W hW => by have := hW.size; omega)
      have HKK := Lib.hid (show ∀ W W', Below wr.heap.size wr W → W.grownBy W' (some g) → (∀ j u, (wC P)[j]? = some u → W'.cell? ⟨g, j, none⟩ = some u) → W'.cell? ⟨g, q, none⟩ = some (.int .u32 (wi x0)) ∧ W'.cell? ⟨g, q + 1, none⟩ = some (.int .u32 (wi x1)) ∧ W'.cell? ⟨g, q + 9, none⟩ = some (.int .u32 (wi x2)) ∧ W'.cell? ⟨g, q + 14, none⟩ = some (.int .u32 (wi x3)) ∧ W'.cell? ⟨b, 12, none⟩ = some (.func (.func 89) #[] #[]) ∧ W'.cell? ⟨b, 13, none⟩ = some (.func (.func 90) #[] #[]) from
        fun W W' hW hg hk => ⟨hk _ _ a0, hk _ _ a1, hk _ _ a2, hk _ _ a3, hg.cell ((hW.cell (p := ⟨b, 12, none⟩) hbr).trans z4) (by simp; omega), hg.cell ((hW.cell (p := ⟨b, 13, none⟩) hbr).trans z5) (by simp; omega)⟩)
      have HKB := Lib.hid (show ∀ W W', Below wr.heap.size wr W → W.grownBy W' (some g) → Below w.heap.size w W' from
        fun W W' hW hg => (HB.out.trans (hW.mono HB.out.size)).grown hg (by have := HB.out.size; have := hW.size; omega) (fun k hk => by injection hk with hk; omega))
      clear a0 a1 a2 a3
      have s0 : IntKind.i64.wrap ((q : Int) + 16 - 16) = q := (IntWalk.i64_in _ (by omega)).trans (by omega)
      have s0' : IntKind.i64.wrap (q : Int) = q := IntWalk.i64_in _ (by omega)
      have s1 : IntKind.i64.wrap ((q : Int) + 16 - 15) = (q : Int) + 1 := (IntWalk.i64_in _ (by omega)).trans (by omega)
      have s2 : IntKind.i64.wrap ((q : Int) + 16 - 7) = (q : Int) + 9 := (IntWalk.i64_in _ (by omega)).trans (by omega)
      have s3 : IntKind.i64.wrap ((q : Int) + 16 - 2) = (q : Int) + 14 := (IntWalk.i64_in _ (by omega)).trans (by omega)
      have t1 : ((q : Int) + 1).toNat = q + 1 := by omega
      have t2 : ((q : Int) + 9).toNat = q + 9 := by omega
      have t3 : ((q : Int) + 14).toNat = q + 14 := by omega
      have u0 : (0 : Int) ≤ q := by omega
      have u1 : (0 : Int) ≤ (q : Int) + 1 := by omega
      have u2 : (0 : Int) ≤ (q : Int) + 9 := by omega
      have u3 : (0 : Int) ≤ (q : Int) + 14 := by omega
      have v0 : (q : Int) < (q : Int) + 16 := by omega
      have v1 : (q : Int) + 1 < (q : Int) + 16 := by omega
      have v2 : (q : Int) + 9 < (q : Int) + 16 := by omega
      have v3 : (q : Int) + 14 < (q : Int) + 16 := by omega
      have hb0 : Below wr.heap.size wr wr.drew := (Below.refl _ _).drew
      clear z0 z1 z2 z3 z4 z5
      go_wp2_with fail
      go_region_held3 (fun W => W.cell? ⟨g, q, none⟩ = some (.int .u32 (wi x0)) ∧ W.cell? ⟨g, q + 1, none⟩ = some (.int .u32 (wi x1)) ∧ W.cell? ⟨g, q + 9, none⟩ = some (.int .u32 (wi x2)) ∧ W.cell? ⟨g, q + 14, none⟩ = some (.int .u32 (wi x3)) ∧ W.cell? ⟨b, 12, none⟩ = some (.func (.func 89) #[] #[]) ∧ W.cell? ⟨b, 13, none⟩ = some (.func (.func 90) #[] #[]))
        (first | exact HK.out _ (by assumption) | exact hSS | exact HK.out _ (below_new (by assumption) _))
        (first
          | (refine (small0_b (W0 := wr) (by assumption) x1).mono ?_
             rintro e w' ⟨rfl, hbb⟩)
          | (refine (small1_b (W0 := wr) (by assumption) x3).mono ?_
             rintro e w' ⟨rfl, hbb⟩)
          | (refine step_append_keep rfl (.tmp 30) (.tmp 64) 172 144 rfl Tryd.underlying172 (w.heap.size + 1) (.int .u32 0) 1 4 infoU32 rfl (by decide) g (q + 16) c (wC P) rfl (own_below HO.out (below_new (by assumption) _) (Nat.le_refl _)) _ 1 1 (wC [x0 + Sha.small0 x1 + x2 + Sha.small1 x3]) rfl (row_u32 _ _) (wC_one _) (by decide) (by omega) (by decide) (HSZ.out _ (below_new (by assumption) _)) ?_
             intro v' w' k1 k2 k3
             have hSS := HKK.out _ w' (below_new (by assumption) _) k2 k3
             have hbb := HKB.out _ w' (below_new (by assumption) _) k2))
      go_wp2
      go_roundw
      case rel => exact ⟨q + 1, by omega, by go_num, Lib.hid (by rw [hsn, wC_append]; exact k1), Lib.hid hbb⟩
      case measure => simp [intOf]; omega
    · obtain rfl : q = 48 := by omega
      have hlen : (Sha.sched l 48).length = 64 := by rw [Sha.sched_length, hl]
      obtain ⟨A, c, rfl, hrow, _⟩ := row_of_own HO.out
      obtain ⟨g, rfl, hg0, hg1, hgr, _⟩ := own_there HO.out (by omega)
      have HGR := Lib.hid hgr
      have hnc := hrow.2.1
      have hRr := HR.out.below HB.out HR.out.lt
      have y0 := hRr.at 0 _ rfl
      have y1 := hRr.at 1 _ rfl
      have y2 := hRr.at 2 _ rfl
      have y3 := hRr.at 3 _ rfl
      have y4 := hRr.at 4 _ rfl
      have y5 := hRr.at 5 _ rfl
      have y6 := hRr.at 6 _ rfl
      have y7 := hRr.at 7 _ rfl
      have HRR := Lib.hid hRr
      have HL1 := Lib.hid (HL.out.below HB.out (by have := HL.out.size; omega))
      clear hRr hrow hgr
      have ht : Sha.take h l = h.add (Sha.runs (Sha.sched l 48) h 64) := rfl

      generalize Sha.sched l 48 = P at *
      go_wp2_with fail
      go_quiet (fail)
      go_wp2
      go_loopw [6, 7, 8, 9, 10, 11, 12, 13, 108] (fun a b' c' d e f g' h' i wq => ∃ k : Nat, k ≤ 64 ∧ i = .int .i64 k ∧ a = .int .u32 (wi (Sha.runs P h k).a) ∧ b' = .int .u32 (wi (Sha.runs P h k).b) ∧ c' = .int .u32 (wi (Sha.runs P h k).c) ∧ d = .int .u32 (wi (Sha.runs P h k).d) ∧ e = .int .u32 (wi (Sha.runs P h k).e) ∧ f = .int .u32 (wi (Sha.runs P h k).f) ∧ g' = .int .u32 (wi (Sha.runs P h k).g) ∧ h' = .int .u32 (wi (Sha.runs P h k).h) ∧ Hid (Below wr.heap.size wr wq)) (fun _ _ _ _ _ _ _ _ i _ => 64 - (intOf i).toNat)
      case atStart => exact ⟨0, by omega, rfl, rfl, rfl, rfl, rfl, rfl, rfl, rfl, rfl, Lib.hid (below_drewN (Below.refl _ _) _)⟩
      case round =>
        rename World => wq
        obtain ⟨k, hk, rfl, rfl, rfl, rfl, rfl, rfl, rfl, rfl, rfl, HBQ⟩ := hrel
        by_cases hk64 : k < 64
        · have hxk := wC_at P k (by omega)
          have hcx : wq.cell? ⟨g, k, none⟩ = some (.int .u32 (wi (P.getD k 0))) := by
            have := HGR.out k _ hxk
            rw [Nat.zero_add] at this
            exact (HBQ.out.cell (p := ⟨g, k, none⟩) hg1).trans this
          have hrun : Sha.runs P h (k + 1) = Sha.round (Sha.runs P h k) (Sha.K k) (P.getD k 0) := rfl
          have hrb := HRR.out.lt
          have z3 := HRR.out.at 11 _ rfl
          have z1 := HRR.out.at 9 _ rfl
          have z2 := HRR.out.at 10 _ rfl
          have HK := Lib.hid (show ∀ W, Below wq.heap.size wq W → W.cell? ⟨b, 11, none⟩ = some (.func (.func 88) #[] #[]) ∧ W.cell? ⟨b, 9, none⟩ = some (.func (.func 85) #[] #[]) from
            fun W hW => ⟨((below_chain HBQ.out hW).cell (p := ⟨b, 11, none⟩) hrb).trans z3, ((below_chain HBQ.out hW).cell (p := ⟨b, 9, none⟩) hrb).trans z1⟩)
          have HK2 := Lib.hid (show ∀ W, Below wq.heap.size wq W → W.cell? ⟨b, 10, none⟩ = some (.func (.func 86) #[] #[]) from
            fun W hW => ((below_chain HBQ.out hW).cell (p := ⟨b, 10, none⟩) hrb).trans z2)
          have HLW := Lib.hid (show ∀ W, Below wq.heap.size wq W → Laid W from fun W hW => HL1.out.below (below_chain HBQ.out hW) HL1.out.size)
          have hb0 : Below wq.heap.size wq wq.drew := (Below.refl _ _).drew
          generalize Sha.runs P h k = S at *
          obtain ⟨a, b1, c1, d, e, f, g1, h1⟩ := S
          generalize P.getD k 0 = x at *
          dsimp only
          clear z1 z2 z3 y0 y1 y2 y3 y4 y5 y6 y7
          go_wp2_with fail
          go_region_held3 (fun W => W.cell? ⟨b, 11, none⟩ = some (.func (.func 88) #[] #[]) ∧ W.cell? ⟨b, 9, none⟩ = some (.func (.func 85) #[] #[]))
            (first | exact HK.out _ (by assumption))
            (first
              | (refine (big1_b (W0 := wq) (by assumption) e).mono ?_
                 rintro e' w' ⟨rfl, hbb⟩)
              | (refine (k_b (W0 := wq) (by assumption) k (by omega) (HLW.out _ (by assumption))).mono ?_
                 rintro e' w' ⟨rfl, hbb⟩))
          have zz2 := HK2.out _ hbb
          go_wp2_with fail
          refine (big0_b (W0 := wq) hbb a).mono ?_
          rintro e' w5 ⟨rfl, hb5⟩
          go_wp2
          go_roundw
          case rel => exact ⟨k + 1, by omega, by go_num, by rw [hrun]; rfl, by rw [hrun]; rfl, by rw [hrun]; rfl, by rw [hrun]; rfl, by rw [hrun]; rfl, by rw [hrun]; rfl, by rw [hrun]; rfl, by rw [hrun]; rfl, Lib.hid (below_chain HBQ.out hb5)⟩
          case measure => simp [intOf]; omega
        · obtain rfl : k = 64 := by omega
          have HRQ := Lib.hid (HRR.out.below HBQ.out HRR.out.lt)
          have HBZ := Lib.hid (HB.out.trans (HBQ.out.mono HB.out.size))
          generalize Sha.runs P h 64 = S at *
          clear HL1 HGR HO HRR y0 y1 y2 y3 y4 y5 y6 y7
          go_wp2_with fail
          have hat := list_at S
          generalize hV : (#[Value.int IntKind.u32 (wi S.a), Value.int IntKind.u32 (wi S.b), Value.int IntKind.u32 (wi S.c), Value.int IntKind.u32 (wi S.d), Value.int IntKind.u32 (wi S.e), Value.int IntKind.u32 (wi S.f), Value.int IntKind.u32 (wi S.g), Value.int IntKind.u32 (wi S.h)] : Array Value) = V at *
          have hVs : V.size = 8 := by rw [← hV]; rfl
          have HAT := Lib.hid hat
          clear hat hV
          go_loopw [179] (fun i wz => ∃ j : Nat, j ≤ 8 ∧ i = .int .i64 j ∧ Hid (wq.grownBy wz (some b)) ∧ Hid (wz.rangeAt b 0 (mixC h S j)) ∧ Hid (wz.there b 0 14)) (fun i _ => 8 - (intOf i).toNat)
          case atStart => exact ⟨0, by omega, rfl, Lib.hid (World.grownBy.refl wq _), Lib.hid (by rw [mixC_zero]; exact HRQ.out.range), Lib.hid HRQ.out.there⟩
          case round =>
            rename World => wz
            obtain ⟨j, hj, rfl, HG, HRZ, HTZ⟩ := hrel
            by_cases hj8 : j < 8
            · have hvj := HAT.out j hj8
              have hcj : wz.cell? ⟨b, j, none⟩ = some (.int .u32 (wi (h.list.getD j 0))) := by
                have := HRZ.out j _ (mixC_at h S j hj8)
                rwa [Nat.zero_add] at this
              have hms := mixC_set h S j hj8
              have hix : ∀ W, (Instr.index 150 (.agg V) (.int .i64 (j : Int))).run Tryd.prog W = .ok _ W := run_index_u32 V j 8 _ hj8 hvj 150 Tryd.underlying150
              have hfz : wz.frozen? ⟨b, j, none⟩ = false := by
                have := (HTZ.out j (by omega)).2
                rwa [Nat.zero_add] at this
              generalize h.list.getD j 0 = x at *
              generalize S.list.getD j 0 = y at *
              go_wp2_with fail
              go_still_tail 11, (by kernel_rfl)
              change wpList _ _ _ _ _ wz.drew
              go_wp2
              go_roundw
              case rel =>
                refine ⟨_, _, _, _, _, _, _, _, _, _, _, _, _, _, _, _, _, _, ?_, rfl⟩
                refine ⟨j + 1, by omega, by go_num, Lib.hid ⟨HG.out.os, HG.out.tape, HG.out.output, ?_, ?_⟩, Lib.hid ?_, Lib.hid (there_setCell (w := wz) HTZ.out _ _)⟩
                · exact (grown_set HG.out j (.int .u32 (wi (x + y)))).size
                · exact (grown_set HG.out j (.int .u32 (wi (x + y)))).block
                · have := range_setCell (w := wz) HRZ.out j (.int .u32 (wi (x + y))) (by rw [mixC_length _ _ _ hj]; omega)
                  rwa [hms, Nat.zero_add] at this
              case measure => simp [intOf]; omega
            · obtain rfl : j = 8 := by omega
              go_wp2
              (try simp only [Exit.inBlock, Exit.then]); refine bodyPost_ret (results_none rfl _ _ _) rfl ?_
              refine ⟨rfl, ⟨Nat.lt_of_lt_of_le HRQ.out.lt HG.out.size, ?_, HTZ.out⟩, ?_⟩
              · rw [ht, ← mixC_end]; exact HRZ.out
              · exact ⟨HG.out.os.trans HBZ.out.os, HG.out.tape.trans HBZ.out.tape, HG.out.output.trans HBZ.out.output, Nat.le_trans HBZ.out.size HG.out.size, fun k hk hne => (HG.out.block k (Nat.lt_of_lt_of_le hk HBZ.out.size) hne).trans (HBZ.out.block k hk)⟩
end Go.Proofs.YtbhjigejpdbeiaaDoor
