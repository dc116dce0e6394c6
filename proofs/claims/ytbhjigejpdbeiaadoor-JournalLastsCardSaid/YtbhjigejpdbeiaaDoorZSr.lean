/-
  Sync of the reference.
-/
import Derived.Test.YtbhjigejpdbeiaaDoorZSy
import Derived.Test.YtbhjigejpdbeiaaDoorZWr
import Derived.StillTailTactics
set_option linter.unusedSimpArgs false
set_option linter.unusedVariables false
namespace Go.Proofs.YtbhjigejpdbeiaaDoor
open Go.RowKit
set_option linter.unusedVariables false
set_option maxRecDepth 8000

set_option maxHeartbeats 1000000 in
theorem rsync_f (w : World) (v : Value) (d : Dk) (h : DiskAt w v d) : Calls Tryd.prog 59 #[v] w fun e w' => SyncPost v d w e w' := by
  have HD0 := Lib.hid h
  obtain ⟨A, n, c, A', n', c', rfl, hn, hn', h1, h2, h3⟩ := h
  have H1 := Lib.hid h1
  have H2 := Lib.hid h2
  have HN := Lib.hid hn
  have HN' := Lib.hid hn'
  have HF := Lib.hid h3
  clear h1 h2 hn hn' h3
  generalize hf : d.fuse = f at *
  generalize hdn : d.down = dn at *
  have HFU := Lib.hid hf
  have HDN := Lib.hid hdn
  clear hf hdn
  obtain ⟨w1, hw1⟩ : ∃ w1, w1 = (w.alloc (Obj.cells #[.slice A n c, .slice A' n' c', .int .i64 f, .bool dn] 25)).alloc (Obj.cells #[.slice none 0 0, .slice none 0 0, .int .i64 0, .bool false] 25) := ⟨_, rfl⟩
  have HV := Lib.hid (show Var w1 w.heap.size A A' n c n' c' f dn by rw [hw1]; exact (var_new w A A' n c n' c' f dn).below ((Below.refl _ _).alloc (Nat.le_refl _) _) (by simp))
  have HFR := Lib.hid (show Free w1 w.heap.size by rw [hw1]; exact (free_new w _ _).below ((Below.refl _ _).alloc (Nat.le_refl _) _) (by simp))
  have HV2 := Lib.hid (show Var w1 (w.heap.size + 1) none none 0 0 0 0 0 false by rw [hw1]; exact var_new2 _ _ _ _ _ _ _ _ _ _)
  have HF2 := Lib.hid (show Free w1 (w.heap.size + 1) by rw [hw1]; exact free_new2 _ _ _ _)
  have HB := Lib.hid (show Below w.heap.size w w1 by rw [hw1]; exact below_two _ _ _)
  have HS := Lib.hid (show w1.heap.size = w.heap.size + 2 by rw [hw1]; simp)
  have HW := Lib.hid hw1
  clear hw1
  have HD := Lib.hid (show ∀ w2, Below w1.heap.size w1 w2 → DiskAt w2 (.agg #[.slice A n c, .slice A' n' c', .int .i64 f, .bool dn]) d from fun w2 hb2 => (HD0.out.kept HB.out (Nat.le_refl _)).kept hb2 (Nat.le_refl _))
  have HC := Lib.hid (show ∀ b, w.heap.size ≤ b → Clear b (.agg #[.slice A n c, .slice A' n' c', .int .i64 f, .bool dn]) from fun b hb => (HD0.out).clear hb)
  go_enter Tryd.func59, Tryd.ntmps59
  go_wp2_with fail
  rw [← HW.out]
  clear HW
  refine (rright_f w1 _ d (HD.out w1 (Below.refl _ _))).mono ?_
  rintro e w2 ⟨rfl, hb2⟩
  have HB2 := Lib.hid hb2
  clear hb2
  obtain ⟨z0, z1, z2, z3, z4⟩ := HV.out.below HB2.out HV.out.lt
  obtain ⟨y0, y1, y2, y3, y4⟩ := HV2.out.below HB2.out HV2.out.lt
  obtain ⟨u0, u1, u2, u3⟩ := HF2.out.below HB2.out HV2.out.lt
  cases hr : d.right with
  | false =>
    have HR := Lib.hid hr
    clear hr
    go_wp2
    refine bodyPost_ret (ret_cell_tmp rfl rfl (load_var (Var.set ⟨y0, y1, y2, y3, y4⟩ A A' n c n' c' f dn))) rfl ?_
    have q : d.sync = (d, 1) := by rw [Dk.sync, HR.out]; rfl
    refine ⟨⟨_, by rw [q]; rfl, ?_⟩, below_set4 (below_chain HB.out HB2.out) (by omega) _ _ _ _ _ _ _ _⟩
    rw [q]
    exact ⟨set_disk (HD.out w2 HB2.out) (HC.out _ (by omega)), fun b _ h => h⟩
  | true =>
  have HR := Lib.hid hr
  clear hr
  have HRB := Lib.hid (right_bounds HR.out)
  go_wp2_with fail
  refine (step_f w2 _ d (HD.out w2 HB2.out)).mono ?_
  rintro e w3 ⟨⟨u, rfl, hg⟩, hb3⟩
  have hq : d.sync = match d.step with | (x, false) => (x, 9) | (x, true) => ({ x with secs := x.loose.foldl Dk.put x.secs, loose := [] }, 0) := by
    rw [Dk.sync, HR.out]; rfl
  have hsl : d.step.1.loose = d.loose := by
    rw [Dk.step]; split <;> rfl
  have hss : d.step.1.secs = d.secs := by
    rw [Dk.step]; split <;> rfl
  generalize hst : d.step = st at hg hq hsl hss ⊢
  obtain ⟨x, ok⟩ := st
  dsimp only at hg hq hsl hss ⊢
  obtain ⟨hg1, hg2⟩ := hg
  have HSS := Lib.hid hss
  have HG2 := Lib.hid hg2
  have HG1 := Lib.hid hg1
  have HSL := Lib.hid hsl
  clear hg2 hst hsl hss
  obtain ⟨B, m, e, B', m', e', rfl, hm, hm', r1, r2, r3⟩ := hg1
  have HM := Lib.hid hm
  have HM' := Lib.hid hm'
  have R3 := Lib.hid r3
  clear hm hm' r1 r2 r3
  have HB3 := Lib.hid (below_chain HB2.out hb3)
  have HB03 := Lib.hid (below_chain HB.out HB3.out)
  have C2 := Lib.hid (HG2.out (w.heap.size + 1) (by have := HB2.out.size; have := HV2.out.lt; omega) (HC.out _ (by omega)))
  have C4 := Lib.hid (HG1.out.clear (b := w3.heap.size) (Nat.le_refl _))
  clear hb3 z0 z1 z2 z3 z4 y0 y1 y2 y3 y4 u0 u1 u2 u3
  generalize hgf : x.fuse = g at *
  generalize hdm : x.down = dm at *
  have HGF := Lib.hid hgf
  have HDM := Lib.hid hdm
  clear hgf hdm
  obtain ⟨y0, y1, y2, y3, y4⟩ := HV2.out.below HB3.out HV2.out.lt
  obtain ⟨u0, u1, u2, u3⟩ := HF2.out.below HB3.out HV2.out.lt
  cases ok with
  | false =>
    have HQ := Lib.hid hq
    clear hq
    go_wp2
    refine bodyPost_ret (ret_cell_tmp rfl rfl (load_var ((Var.set ⟨y0, y1, y2, y3, y4⟩ B B' m e m' e' g dm).below ((Below.refl _ _).alloc (Nat.le_refl _) _) (by simp only [size_set]; exact y0)))) rfl ?_
    refine ⟨⟨_, by rw [HQ.out]; rfl, ?_⟩, (below_set4 HB03.out (by omega) _ _ _ _ _ _ _ _).alloc (by simp only [size_set]; have := HB03.out.size; omega) _⟩
    rw [HQ.out]
    exact ⟨(set_disk HG1.out C2.out).kept ((Below.refl _ _).alloc (Nat.le_refl _) _) (Nat.le_refl _), fun b hb h => HG2.out b (by have := HB2.out.size; have := HV.out.lt; omega) h⟩
  | true =>
    have HQ := Lib.hid hq
    clear hq
    obtain ⟨wa, hwa⟩ : ∃ wa, wa = w3.alloc (Obj.cells #[.slice B m e, .slice B' m' e', .int .i64 g, .bool dm] 25) := ⟨_, rfl⟩
    obtain ⟨b4, hb4⟩ : ∃ b4, b4 = w3.heap.size := ⟨_, rfl⟩
    have HVA := Lib.hid (show Var wa b4 B B' m e m' e' g dm by rw [hwa, hb4]; exact var_new w3 B B' m e m' e' g dm)
    have HFA := Lib.hid (show Free wa b4 by rw [hwa, hb4]; exact free_new w3 _ _)
    have HB3A := Lib.hid (show Below w3.heap.size w3 wa by rw [hwa]; exact (Below.refl _ _).alloc (Nat.le_refl _) _)
    have HSA := Lib.hid (show wa.heap.size = b4 + 1 by rw [hwa, hb4]; simp)
    have HDB := Lib.hid (disk_rows (HG1.out.kept HB3A.out (Nat.le_refl _)))
    have HVX := Lib.hid (show Var wa (w.heap.size + 1) none none 0 0 0 0 0 false from (HV2.out.below HB3.out HV2.out.lt).below HB3A.out (by have := HB3.out.size; have := HV2.out.lt; omega))
    have HFX := Lib.hid (show Free wa (w.heap.size + 1) from (HF2.out.below HB3.out HV2.out.lt).below HB3A.out (by have := HB3.out.size; have := HV2.out.lt; omega))
    have HBA := Lib.hid (below_chain HB03.out HB3A.out)
    have HB4 := Lib.hid hb4
    have h24 : w.heap.size + 1 < b4 := by have := HB3.out.size; have := HV2.out.lt; omega
    have HWA := Lib.hid (show wa.alloc (Obj.cells #[] 81) = (w3.alloc (Obj.cells #[.slice B m e, .slice B' m' e', .int .i64 g, .bool dm] 25)).alloc (Obj.cells #[] 81) by rw [hwa])
    have HOW := Lib.hid (show (wa.alloc (Obj.cells #[] 81)).ownsRow wa.heap.size 81 128 (.slice (some ⟨w3.heap.size + 1, 0, none⟩) 0 0) 0 [] by
      rw [show w3.heap.size + 1 = wa.heap.size by rw [HSA.out, hb4]]
      exact own_empty wa wa.heap.size (Nat.le_refl _) 81 128)
    have HX := Lib.hid (secsC_one x.secs)
    have hm0 : 0 < m := by have := HRB.out; have := HDB.out.1; rw [HSS.out] at this; omega
    have hm2 : m ≤ 2048 := by have := HRB.out; have := HDB.out.1; rw [HSS.out] at this; omega
    have hml : m' ≤ 4096 := by have := HRB.out; have := HDB.out.2.1; rw [HSL.out] at this; omega
    have HLB := Lib.hid (show ∀ y, B' = some y → 0 < m' → y.block < wa.heap.size from fun y hy h0 => (HDB.out.2.2.2.1.2.2.2.2 y hy h0).2.1)
    clear hwa
    go_wp2_with (at_builtin; rw [← HWA.out]; refine append_row rfl (.tmp 19) (.tmp 21) 22 81 rfl Tryd.underlying22 wa.heap.size (secV zeroSec) 128 128 infoSector rfl (by decide) (.slice (some ⟨w3.heap.size + 1, 0, none⟩) 0 0) 0 [] rfl HOW.out B m e _ rfl (HDB.out.2.2.1.alloc _) HX.out (by omega) (by decide) (by simp) ?_)
    intro v' w4 j1 j2
    try simp only [Nat.zero_add, List.nil_append] at j1
    have HB44 := Lib.hid (below_owned ((Below.refl wa.heap.size wa).alloc (Nat.le_refl _) (Obj.cells #[] 81)) HOW.out j2 (Nat.le_refl _) (by simp))
    obtain ⟨A1, c1, rfl, r1, r2⟩ := row_of_own j1
    have OWN := Lib.hid j1
    clear j1 j2 r1 r2
    rw [← hb4]
    clear hb4
    obtain ⟨z0, z1, z2, z3, z4⟩ := HVA.out.below HB44.out HVA.out.lt
    obtain ⟨k0, k1, k2, k3⟩ := HFA.out.below HB44.out HVA.out.lt
    have HCAP := Lib.hid (show m ≤ c1 ∧ c1 ≤ 9223372036854775807 by
      obtain ⟨A9, c9, e9, r9, _⟩ := row_of_own OWN.out
      injection e9 with _ _ e9
      subst e9
      exact ⟨r9.2.1, r9.2.2.1⟩)
    obtain ⟨g1, rfl, hg1, hg2, hg3, hg4⟩ := own_there OWN.out hm0
    have HG3 := Lib.hid hg3
    have HG4 := Lib.hid hg4
    clear hg3 hg4
    have hne : b4 < g1 := by have := HVA.out.lt; omega
    obtain ⟨w5, hw5⟩ : ∃ w5, w5 = w4.setCell ⟨b4, 0, none⟩ (.slice (some ⟨g1, 0, none⟩) m c1) := ⟨_, rfl⟩
    have HV5 := Lib.hid (show Var w5 b4 (some ⟨g1, 0, none⟩) B' m c1 m' e' g dm by rw [hw5]; exact ⟨by rw [size_set]; exact z0, by go_simp, by go_simp, by go_simp, by go_simp⟩)
    have HF5 := Lib.hid (show Free w5 b4 by rw [hw5]; exact ⟨by go_simp, by go_simp, by go_simp, by go_simp⟩)
    have HW5 := Lib.hid hw5
    have HK5 := Lib.hid (show ∀ q, q ≠ b4 → w5.heap[q]? = w4.heap[q]? from fun q hq => by rw [hw5]; exact Below.heap_setCell _ _ _ _ hq)
    have HS5 := Lib.hid (show w5.heap.size = w4.heap.size by rw [hw5, size_set])
    have HB5 := Lib.hid (show Below w.heap.size w w5 by
      rw [hw5]
      exact (HBA.out.trans (HB44.out.mono HBA.out.size)).setCell (p := ⟨b4, 0, none⟩) (by dsimp only; omega) _)
    have HR5 := Lib.hid (show RowOf w5 129 B' m' e' (wrsC x.loose) by
      rw [hw5]
      exact (HDB.out.2.2.2.1.kept HB44.out (Nat.le_refl _)).setCell _ _ (fun y hy h0 => by have := (C4.out _ _ _ _ _ _ _ _ rfl).2 y hy h0; rw [← HB4.out] at this; exact this))
    clear hw5
    go_wp2
    rw [← HW5.out]
    go_loopw [6] (fun i wr => ∃ k : Nat, k ≤ m' ∧ i = .int .i64 k ∧ Var wr b4 (some ⟨g1, 0, none⟩) B' m c1 m' e' g dm ∧ Free wr b4 ∧ Var wr (w.heap.size + 1) none none 0 0 0 0 0 false ∧ Free wr (w.heap.size + 1) ∧ Below w.heap.size w wr ∧
      RowOf wr 129 B' m' e' (wrsC x.loose) ∧ wr.rangeAt g1 0 (secsC ((x.loose.take k).foldl Dk.put x.secs)) ∧ wr.there g1 0 (m * 128) ∧ g1 < wr.heap.size) (fun i _ => m' - (intOf i).toNat)
    case atStart =>
      have hw1 : w.heap.size + 1 < w4.heap.size := by have := HVX.out.lt; have := HB44.out.size; omega
      refine ⟨0, by omega, rfl, HV5.out, HF5.out, (HVX.out.below HB44.out HVX.out.lt).keepb (by rw [HS5.out]; exact Nat.le_refl _) (HK5.out _ (by omega)), (HFX.out.below HB44.out HVX.out.lt).keepb (HK5.out _ (by omega)), HB5.out, HR5.out, ?_, there_keepb HG4.out (HK5.out _ (by omega)), by rw [HS5.out]; exact hg2⟩
      exact range_keepb HG3.out (HK5.out _ (by omega))
    case round =>
      obtain ⟨k, hk, rfl, hv, hf, hv2, hf2, hb, hrow, hrg, hth, hgl⟩ := hrel
      rename World => wr
      have HVR := Lib.hid hv
      have HFR2 := Lib.hid hf
      have HV2R := Lib.hid hv2
      have HF2R := Lib.hid hf2
      have HBR := Lib.hid hb
      have HROW := Lib.hid hrow
      have HRG := Lib.hid hrg
      have HTH := Lib.hid hth
      clear hf hv2 hf2 hb hrow hrg hth
      obtain ⟨y0, y1, y2, y3, y4⟩ := hv
      by_cases hkn : k < m'
      · obtain ⟨b', o', rfl, hb', hx⟩ := row_at HROW.out (by omega)
        obtain ⟨xk, hxk⟩ : ∃ xk, x.loose[k]? = some xk := ⟨_, List.getElem?_eq_getElem (by rw [← HDB.out.2.1]; exact hkn)⟩
        have hrw := range_wrs hx hxk
        have hat0 := range_wr_at hrw
        have hld2 : (secVar ⟨b', o' + k * 129 + 1, none⟩).run Tryd.prog wr.drew = .ok (secV xk.data) wr.drew := load_secVar (w := wr.drew) (range_drewN (range_wr_data hrw) 1)
        have HXK := Lib.hid hxk
        clear hx hxk hrw
        have hbnd : (0 : Int) ≤ xk.at_ ∧ xk.at_ < m := by
          have h := HR.out
          rw [Dk.right, Bool.and_eq_true, List.all_eq_true] at h
          have h2 := h.2 xk (by have := List.mem_of_getElem? HXK.out; rwa [HSL.out] at this)
          have hm := HDB.out.1
          rw [HSS.out] at hm
          simp [Dk.inside] at h2
          omega
        obtain ⟨at0, hat1⟩ : ∃ a : Nat, xk.at_ = a := ⟨xk.at_.toNat, by omega⟩
        rw [hat1] at hat0 hbnd
        have HAT := Lib.hid hat1
        clear hat1
        have hb0 := hbnd.1
        have hb1 := hbnd.2
        have hki : (k : Int) < m' := by omega
        have hk0 : (0 : Int) ≤ k := by omega
        have hthc := there_row HTH.out (j := at0) (by omega)
        have hst2 := store_sec (show wr.drew.there g1 (0 + at0 * 128) 128 from hthc) xk.data
        rw [Nat.zero_add] at hst2
        have HTHC := Lib.hid hthc
        clear hthc hbnd
        go_wp2_with fail
        go_still_tail 15, (by kernel_rfl)
        change wpList _ _ _ _ _ wr.drew
        go_wp2
        have hsz : (putSec wr.drew g1 (at0 * 128) xk.data).heap.size = wr.heap.size := by rw [size_putSec]; rfl
        have hk2 : ∀ q, q ≠ g1 → (putSec wr.drew g1 (at0 * 128) xk.data).heap[q]? = wr.heap[q]? := fun q h2 => by rw [heap_putSec _ _ _ _ _ h2]; rfl
        have HEQ := Lib.hid (show (putSec wr.drew g1 (at0 * 128) xk.data).os = wr.os ∧ (putSec wr.drew g1 (at0 * 128) xk.data).tape = wr.tape ∧ (putSec wr.drew g1 (at0 * 128) xk.data).output = wr.output from streams_setCells g1 (secC xk.data) (at0 * 128) wr.drew)
        go_roundw
        case rel =>
          have hlw := HVR.out.lt
          have hlw2 := HV2R.out.lt
          refine ⟨k + 1, by omega, by go_num, HVR.out.keepb (by omega) (hk2 _ (by omega)), HFR2.out.keepb (hk2 _ (by omega)), HV2R.out.keepb (by omega) (hk2 _ (by omega)), HF2R.out.keepb (hk2 _ (by omega)), ?_, ?_, ?_, ?_, by omega⟩
          · exact HBR.out.trans ⟨HEQ.out.1, HEQ.out.2.1, HEQ.out.2.2, by omega, fun q hq => hk2 q (by have := HBR.out.size; omega)⟩
          · exact HROW.out.keep (by omega) (fun y hy h0 hyl => hk2 _ (by have := HLB.out y hy h0; omega))
          · rw [take_foldl_put _ _ _ _ HXK.out]
            have hlen : ((x.loose.take k).foldl Dk.put x.secs).length = m := by rw [foldl_put_length]; exact HDB.out.1.symm
            have h := range_put_row (w := wr.drew) HRG.out (j := at0) (by rw [hlen]; omega) HTHC.out xk.data
            rw [Nat.zero_add] at h
            have e : xk.at_.toNat = at0 := by rw [HAT.out]; rfl
            rw [Dk.put, e]
            exact h
          · exact there_putSec (w := wr.drew) HTH.out _
        case measure => simp [intOf]; omega
      · obtain ⟨f0, f1, f2, f3⟩ := HFR2.out
        obtain ⟨p0, p1, p2, p3, p4⟩ := HV2R.out
        obtain ⟨t0, t1, t2, t3⟩ := HF2R.out
        have hkm : k = m' := by omega
        have HKM := Lib.hid hkm
        clear hkm
        go_wp2
        refine bodyPost_ret (ret_cell_tmp rfl rfl (load_var (Var.set (A := none) (A' := none) (n := 0) (c := 0) (n' := 0) (c' := 0) (f := 0) (dn := false) ⟨by rw [size_set]; exact p0, by go_simp, by go_simp, by go_simp, by go_simp⟩ (some ⟨g1, 0, none⟩) none m c1 0 0 g dm))) rfl ?_
        refine ⟨⟨_, by rw [HQ.out]; rfl, ?_⟩, below_set4 (HBR.out.setCell (p := ⟨b4, 1, none⟩) (by dsimp only; omega) _) (by omega) _ _ _ _ _ _ _ _⟩
        rw [HQ.out]
        have hlen : (x.loose.foldl Dk.put x.secs).length = m := by rw [foldl_put_length]; exact HDB.out.1.symm
        have hfin : x.loose.take k = x.loose := List.take_of_length_le (by rw [HKM.out, HDB.out.2.1]; exact Nat.le_refl _)
        have hrg := HRG.out
        rw [hfin] at hrg
        have hrow : RowOf wr 128 (some ⟨g1, 0, none⟩) m c1 (secsC (x.loose.foldl Dk.put x.secs)) :=
          ⟨by rw [secsC_length, hlen], HCAP.out.1, HCAP.out.2, (fun h => by cases h), fun y hy _ => by injection hy with hy; subst hy; exact ⟨rfl, hgl, hrg⟩⟩
        refine ⟨disk_of hlen.symm rfl ?_ ⟨by simp [wrsC], by omega, by omega, fun _ => rfl, fun y hy _ => by cases hy⟩ HGF.out.symm HDM.out.symm (by show _ ≤ x.fuse; rw [HGF.out]; exact R3.out.1) (by show x.fuse < _; rw [HGF.out]; exact R3.out.2), ?_⟩
        · exact (hrow.setCell _ _ (fun y hy _ => by injection hy with hy; subst hy; show g1 ≠ b4; omega)).set4 (fun y hy _ => by injection hy with hy; subst hy; show g1 ≠ w.heap.size + 1; omega) _ _ _ _ _ _ _ _
        · intro b hb _
          exact clear_mk (fun y hy _ => by injection hy with hy; subst hy; show g1 ≠ b; omega) (fun y hy => by cases hy)
end Go.Proofs.YtbhjigejpdbeiaaDoor
