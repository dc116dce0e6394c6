/-
  Sync of the program.
-/
import Derived.Test.YtbhjigejpdbeiaaDoorZMem5
set_option linter.unusedSimpArgs false
set_option linter.unusedVariables false
namespace Go.Proofs.YtbhjigejpdbeiaaDoor
open Go.RowKit
set_option linter.unusedVariables false

def putWr (w : World) (b o : Nat) (x : Wr) : World := w.setCells b o (wrC x)
theorem store_wr {w : World} {b o : Nat} (h : w.there b o 129) (x : Wr) : (wrSet ⟨b, o, none⟩ (wrV x)).run Tryd.prog w = .ok () (putWr w b o x) := by
  unfold wrSet
  exact run_storeVar_mid w b o 83 (wrC x).toArray (by simpa [wrC_length] using h) (by rw [sizeWrite]; simp [wrC_length]) (all_oneCell_toArray (wrC_one x))
theorem range_putWr {w : World} {b o : Nat} (h : w.there b o 129) (x : Wr) : (putWr w b o x).rangeAt b o (wrC x) :=
  World.rangeAt_setCells_same w b o (wrC x) (by simpa [wrC_length] using h)
def SyncPost (v : Value) (d : Dk) (w : World) (e : Ending) (w' : World) : Prop := DiskOut2 v d.sync.1 (.int .i64 d.sync.2) w e w'

set_option maxHeartbeats 1000000 in
theorem sync_f (w : World) (v : Value) (d : Dk) (h : DiskAt w v d) : Calls Tryd.prog 54 #[v] w fun e w' => SyncPost v d w e w' := by
  have HD0 := Lib.hid h
  obtain ⟨A, n, c, A', n', c', rfl, hn, hn', h1, h2, h3⟩ := h
  have H1 := Lib.hid h1
  have H2 := Lib.hid h2
  have HN := Lib.hid hn
  have HN' := Lib.hid hn'
  have HF := Lib.hid h3
  clear h1 h2 hn hn' h3
  generalize hf : d.fuse = f at *
  generalize hdn : d.down = dn at *
  have HFU := Lib.hid hf
  have HDN := Lib.hid hdn
  clear hf hdn
  obtain ⟨w1, hw1⟩ : ∃ w1, w1 = (w.alloc (Obj.cells #[.slice A n c, .slice A' n' c', .int .i64 f, .bool dn] 25)).alloc (Obj.cells #[.slice none 0 0, .slice none 0 0, .int .i64 0, .bool false] 25) := ⟨_, rfl⟩
  have HV := Lib.hid (show Var w1 w.heap.size A A' n c n' c' f dn by rw [hw1]; exact (var_new w A A' n c n' c' f dn).below ((Below.refl _ _).alloc (Nat.le_refl _) _) (by simp))
  have HFR := Lib.hid (show Free w1 w.heap.size by rw [hw1]; exact (free_new w _ _).below ((Below.refl _ _).alloc (Nat.le_refl _) _) (by simp))
  have HV2 := Lib.hid (show Var w1 (w.heap.size + 1) none none 0 0 0 0 0 false by rw [hw1]; exact var_new2 _ _ _ _ _ _ _ _ _ _)
  have HF2 := Lib.hid (show Free w1 (w.heap.size + 1) by rw [hw1]; exact free_new2 _ _ _ _)
  have HB := Lib.hid (show Below w.heap.size w w1 by rw [hw1]; exact below_two _ _ _)
  have HS := Lib.hid (show w1.heap.size = w.heap.size + 2 by rw [hw1]; simp)
  have HW := Lib.hid hw1
  clear hw1
  have HD := Lib.hid (show ∀ w2, Below w1.heap.size w1 w2 → DiskAt w2 (.agg #[.slice A n c, .slice A' n' c', .int .i64 f, .bool dn]) d from fun w2 hb2 => (HD0.out.kept HB.out (Nat.le_refl _)).kept hb2 (Nat.le_refl _))
  have HC := Lib.hid (show ∀ b, w.heap.size ≤ b → Clear b (.agg #[.slice A n c, .slice A' n' c', .int .i64 f, .bool dn]) from fun b hb => (HD0.out).clear hb)
  go_enter Tryd.func54, Tryd.ntmps54
  go_wp2_with fail
  rw [← HW.out]
  clear HW
  refine (right_f w1 _ d (HD.out w1 (Below.refl _ _))).mono ?_
  rintro e w2 ⟨rfl, hb2⟩
  have HB2 := Lib.hid hb2
  clear hb2
  obtain ⟨z0, z1, z2, z3, z4⟩ := HV.out.below HB2.out HV.out.lt
  obtain ⟨y0, y1, y2, y3, y4⟩ := HV2.out.below HB2.out HV2.out.lt
  obtain ⟨u0, u1, u2, u3⟩ := HF2.out.below HB2.out HV2.out.lt
  cases hr : d.right with
  | false =>
    have HR := Lib.hid hr
    clear hr
    go_wp2
    refine bodyPost_ret (ret_cell_tmp rfl rfl (load_var (Var.set ⟨y0, y1, y2, y3, y4⟩ A A' n c n' c' f dn))) rfl ?_
    have q : d.sync = (d, 1) := by rw [Dk.sync, HR.out]; rfl
    refine ⟨⟨_, by rw [q]; rfl, ?_⟩, below_set4 (below_chain HB.out HB2.out) (by omega) _ _ _ _ _ _ _ _⟩
    rw [q]
    exact ⟨set_disk (HD.out w2 HB2.out) (HC.out _ (by omega)), fun b _ h => h⟩
  | true =>
  have HR := Lib.hid hr
  clear hr
  have HRB := Lib.hid (right_bounds HR.out)
  go_wp2_with fail
  refine (spend_f w2 _ d (HD.out w2 HB2.out)).mono ?_
  rintro e w3 ⟨⟨u, rfl, hg⟩, hb3⟩
  have hq : d.sync = match d.step with | (x, false) => (x, 9) | (x, true) => ({ x with secs := x.loose.foldl Dk.put x.secs, loose := [] }, 0) := by
    rw [Dk.sync, HR.out]; rfl
  have hsl : d.step.1.loose = d.loose := by
    rw [Dk.step]; split <;> rfl
  have hss : d.step.1.secs = d.secs := by
    rw [Dk.step]; split <;> rfl
  generalize hst : d.step = st at hg hq hsl hss ⊢
  obtain ⟨x, ok⟩ := st
  dsimp only at hg hq hsl hss ⊢
  obtain ⟨hg1, hg2⟩ := hg
  have HSS := Lib.hid hss
  have HG2 := Lib.hid hg2
  have HG1 := Lib.hid hg1
  have HSL := Lib.hid hsl
  clear hg2 hst hsl hss
  obtain ⟨B, m, e, B', m', e', rfl, hm, hm', r1, r2, r3⟩ := hg1
  have HM := Lib.hid hm
  have HM' := Lib.hid hm'
  have R3 := Lib.hid r3
  clear hm hm' r1 r2 r3
  have HB3 := Lib.hid (below_chain HB2.out hb3)
  have HB03 := Lib.hid (below_chain HB.out HB3.out)
  have C1 := Lib.hid (HG2.out w.heap.size (by have := HB2.out.size; have := HV.out.lt; omega) (HC.out _ (by omega)))
  have C2 := Lib.hid (HG2.out (w.heap.size + 1) (by have := HB2.out.size; have := HV2.out.lt; omega) (HC.out _ (by omega)))
  clear hb3 z0 z1 z2 z3 z4 y0 y1 y2 y3 y4 u0 u1 u2 u3
  generalize hgf : x.fuse = g at *
  generalize hdm : x.down = dm at *
  have HGF := Lib.hid hgf
  have HDM := Lib.hid hdm
  clear hgf hdm
  obtain ⟨z0, z1, z2, z3, z4⟩ := HV.out.below HB3.out HV.out.lt
  obtain ⟨k0, k1, k2, k3⟩ := HFR.out.below HB3.out HV.out.lt
  obtain ⟨y0, y1, y2, y3, y4⟩ := HV2.out.below HB3.out HV2.out.lt
  obtain ⟨u0, u1, u2, u3⟩ := HF2.out.below HB3.out HV2.out.lt
  have HVA := Lib.hid (Var.set ⟨z0, z1, z2, z3, z4⟩ B B' m e m' e' g dm)
  have HDA := Lib.hid (set_disk HG1.out C1.out)
  have HBA := Lib.hid (below_set4 HB03.out (Nat.le_refl _) B B' m e m' e' g dm)
  have HVX := Lib.hid (show Var (set4 w3 w.heap.size B B' m e m' e' g dm) (w.heap.size + 1) none none 0 0 0 0 0 false from
    ⟨by simp only [size_set]; exact y0, by go_simp, by go_simp, by go_simp, by go_simp⟩)
  cases ok with
  | false =>
    have HQ := Lib.hid hq
    clear hq
    go_wp2
    refine bodyPost_ret (ret_cell_tmp rfl rfl (load_var (HVX.out.set B B' m e m' e' g dm))) rfl ?_
    refine ⟨⟨_, by rw [HQ.out]; rfl, ?_⟩, below_set4 HBA.out (by omega) _ _ _ _ _ _ _ _⟩
    rw [HQ.out]
    exact ⟨set_disk HDA.out C2.out, fun b hb h => HG2.out b (by have := HB2.out.size; have := HV.out.lt; omega) h⟩
  | true =>
    have HQ := Lib.hid hq
    clear hq
    go_wp2_with fail
    have HX0 := Lib.hid (show ∃ wa, wa = set4 w3 w.heap.size B B' m e m' e' g dm from ⟨_, rfl⟩)
    obtain ⟨wa, hwa⟩ := HX0.out
    have HVA := Lib.hid (show Var wa w.heap.size B B' m e m' e' g dm by rw [hwa]; exact HVA.out)
    have HDA := Lib.hid (show DiskAt wa (.agg #[.slice B m e, .slice B' m' e', .int .i64 g, .bool dm]) x by rw [hwa]; exact HDA.out)
    have HBA := Lib.hid (show Below w.heap.size w wa by rw [hwa]; exact HBA.out)
    have HVX := Lib.hid (show Var wa (w.heap.size + 1) none none 0 0 0 0 0 false by rw [hwa]; exact HVX.out)
    have HFA := Lib.hid (show Free wa w.heap.size by rw [hwa]; exact ⟨by go_simp, by go_simp, by go_simp, by go_simp⟩)
    have HFX := Lib.hid (show Free wa (w.heap.size + 1) by rw [hwa]; exact ⟨by go_simp, by go_simp, by go_simp, by go_simp⟩)
    dsimp only [set4] at hwa
    rw [← hwa]
    clear hwa HX0 z0 z1 z2 z3 z4 y0 y1 y2 y3 y4 u0 u1 u2 u3 k0 k1 k2 k3
    have HDB := Lib.hid (disk_rows HDA.out)
    refine (clone_f wa B m e (secsC x.secs) HDB.out.2.2.1 (secsC_one _) (by have := HRB.out; have := HDB.out.1; rw [HSS.out] at this; omega)).mono ?_
    rintro e0 w4 ⟨⟨v0, rfl, hown⟩, hb4⟩
    obtain ⟨A1, c1, rfl, r1, r2⟩ := row_of_own hown
    have OWN := Lib.hid hown
    have HB4 := Lib.hid hb4
    clear hown r1 r2 hb4
    obtain ⟨z0, z1, z2, z3, z4⟩ := HVA.out.below HB4.out HVA.out.lt
    obtain ⟨k0, k1, k2, k3⟩ := HFA.out.below HB4.out HVA.out.lt
    obtain ⟨w5, hw5⟩ : ∃ w5, w5 = w4.setCell ⟨w.heap.size, 0, none⟩ (.slice A1 m c1) := ⟨_, rfl⟩
    have HV5 := Lib.hid (show Var w5 w.heap.size A1 B' m c1 m' e' g dm by rw [hw5]; exact ⟨by rw [size_set]; exact z0, by go_simp, by go_simp, by go_simp, by go_simp⟩)
    have HF5 := Lib.hid (show Free w5 w.heap.size by rw [hw5]; exact ⟨by go_simp, by go_simp, by go_simp, by go_simp⟩)
    have HW5 := Lib.hid hw5
    have HK5 := Lib.hid (show ∀ q, q ≠ w.heap.size → w5.heap[q]? = w4.heap[q]? from fun q hq => by rw [hw5]; exact Below.heap_setCell _ _ _ _ hq)
    have HS5 := Lib.hid (show w5.heap.size = w4.heap.size by rw [hw5, size_set])
    have HB5 := Lib.hid (show Below w.heap.size w w5 by
      rw [hw5]
      exact (HBA.out.trans (HB4.out.mono HBA.out.size)).setCell (p := ⟨w.heap.size, 0, none⟩) (Nat.le_refl _) _)
    have HR5 := Lib.hid (show RowOf w5 129 B' m' e' (wrsC x.loose) by
      rw [hw5]
      exact (HDB.out.2.2.2.1.kept HB4.out (Nat.le_refl _)).setCell _ _ (fun y hy h0 => (C1.out _ _ _ _ _ _ _ _ rfl).2 y hy h0))
    clear hw5
    go_wp2
    rw [← HW5.out]
    have HM0 := Lib.hid (show 0 < m by have := HRB.out; have := HDB.out.1; rw [HSS.out] at this; omega)
    have HCAP := Lib.hid (show m ≤ c1 ∧ c1 ≤ 9223372036854775807 by
      obtain ⟨A9, c9, e9, r9, _⟩ := row_of_own OWN.out
      injection e9 with _ _ e9
      subst e9
      exact ⟨r9.2.1, r9.2.2.1⟩)
    obtain ⟨g1, rfl, hg1, hg2, hg3, hg4⟩ := own_there OWN.out HM0.out
    have HG3 := Lib.hid hg3
    have HG4 := Lib.hid hg4
    clear hg3 hg4
    have hne : w.heap.size + 1 < g1 := by have := HVX.out.lt; omega
    have HLB := Lib.hid (show ∀ y, B' = some y → 0 < m' → y.block < wa.heap.size from fun y hy h0 => (HDB.out.2.2.2.1.2.2.2.2 y hy h0).2.1)
    have hml : m' ≤ 4096 := by have := HRB.out; have := HDB.out.2.1; rw [HSL.out] at this; omega
    have hm2 : m ≤ 2048 := by have := HRB.out; have := HDB.out.1; rw [HSS.out] at this; omega
    go_loopw [27] (fun i wr => ∃ k : Nat, k ≤ m' ∧ i = .int .i64 k ∧ Var wr w.heap.size (some ⟨g1, 0, none⟩) B' m c1 m' e' g dm ∧ Free wr w.heap.size ∧ Var wr (w.heap.size + 1) none none 0 0 0 0 0 false ∧ Free wr (w.heap.size + 1) ∧ Below w.heap.size w wr ∧
      RowOf wr 129 B' m' e' (wrsC x.loose) ∧ wr.rangeAt g1 0 (secsC ((x.loose.take k).foldl Dk.put x.secs)) ∧ wr.there g1 0 (m * 128) ∧ g1 < wr.heap.size) (fun i _ => m' - (intOf i).toNat)
    case atStart =>
      have hw1 : w.heap.size + 1 < w4.heap.size := by have := HVX.out.lt; have := HB4.out.size; omega
      refine ⟨0, by omega, rfl, HV5.out, HF5.out, (HVX.out.below HB4.out HVX.out.lt).keepb (by rw [HS5.out]; exact Nat.le_refl _) (HK5.out _ (by omega)), (HFX.out.below HB4.out HVX.out.lt).keepb (HK5.out _ (by omega)), HB5.out, HR5.out, ?_, there_keepb HG4.out (HK5.out _ (by omega)), by rw [HS5.out]; exact hg2⟩
      exact range_keepb HG3.out (HK5.out _ (by omega))
    case round =>
      obtain ⟨k, hk, rfl, hv, hf, hv2, hf2, hb, hrow, hrg, hth, hgl⟩ := hrel
      rename World => wr
      have HVR := Lib.hid hv
      have HFR2 := Lib.hid hf
      have HV2R := Lib.hid hv2
      have HF2R := Lib.hid hf2
      have HBR := Lib.hid hb
      have HROW := Lib.hid hrow
      have HRG := Lib.hid hrg
      have HTH := Lib.hid hth
      clear hf hv2 hf2 hb hrow hrg hth
      obtain ⟨y0, y1, y2, y3, y4⟩ := hv
      by_cases hkn : k < m'
      · obtain ⟨b', o', rfl, hb', hx⟩ := row_at HROW.out (by omega)
        obtain ⟨xk, hxk⟩ : ∃ xk, x.loose[k]? = some xk := ⟨_, List.getElem?_eq_getElem (by rw [← HDB.out.2.1]; exact hkn)⟩
        have hld := load_wrVar (range_wrs hx hxk)
        have HXK := Lib.hid hxk
        clear hx hxk
        have htw : (wr.alloc (wrO zeroWr)).there wr.heap.size 0 129 := by have := there_new wr (wrC zeroWr) 83; rwa [wrC_length] at this
        have hst := store_wr htw xk
        obtain ⟨wc, hwc⟩ : ∃ wc, wc = putWr (wr.alloc (wrO zeroWr)) wr.heap.size 0 xk := ⟨_, rfl⟩
        have hrc : wc.rangeAt wr.heap.size 0 (wrC xk) := by rw [hwc]; exact range_putWr htw xk
        have hkeep : ∀ q, q < wr.heap.size → wc.heap[q]? = wr.heap[q]? := fun q hq => by
          rw [hwc, putWr, heap_setCells _ _ (by omega)]; exact Below.heap_alloc _ _ _ hq
        have hcs : wc.heap.size = wr.heap.size + 1 := by rw [hwc, putWr, size_setCells, size_alloc]
        have HST := Lib.hid (show wc.os = wr.os ∧ wc.tape = wr.tape ∧ wc.output = wr.output by rw [hwc, putWr]; exact streams_setCells _ _ _ _)
        rw [← hwc] at hst
        clear hwc htw
        have hat0 := range_wr_at hrc
        have hld2 := load_secVar (range_wr_data hrc)
        rw [Nat.zero_add] at hld2
        clear hrc
        have hbnd : (0 : Int) ≤ xk.at_ ∧ xk.at_ < m := by
          have h := HR.out
          rw [Dk.right, Bool.and_eq_true, List.all_eq_true] at h
          have h2 := h.2 xk (by have := List.mem_of_getElem? HXK.out; rwa [HSL.out] at this)
          have hm := HDB.out.1
          rw [HSS.out] at hm
          simp [Dk.inside] at h2
          omega
        obtain ⟨at0, hat1⟩ : ∃ a : Nat, xk.at_ = a := ⟨xk.at_.toNat, by omega⟩
        rw [hat1] at hat0 hbnd
        have HAT := Lib.hid hat1
        clear hat1
        have hb0 := hbnd.1
        have hb1 := hbnd.2
        have hthc := there_row (there_keepb HTH.out (hkeep g1 hgl)) (j := at0) (by omega)
        have hst2 := store_sec hthc xk.data
        rw [Nat.zero_add] at hst2
        obtain ⟨y0, y1, y2, y3, y4⟩ := HVR.out.keepb (by omega) (hkeep _ HVR.out.lt)
        have HKEEP := Lib.hid hkeep
        have HCS := Lib.hid hcs
        have HTHC := Lib.hid hthc
        clear hkeep hcs hthc hbnd
        go_wp2
        have hsz : (putSec wc g1 (at0 * 128) xk.data).heap.size = wr.heap.size + 1 := by rw [size_putSec, HCS.out]
        have hk2 : ∀ q, q < wr.heap.size → q ≠ g1 → (putSec wc g1 (at0 * 128) xk.data).heap[q]? = wr.heap[q]? := fun q h1 h2 => by rw [heap_putSec _ _ _ _ _ h2]; exact HKEEP.out q h1
        have HEQ := Lib.hid (show (putSec wc g1 (at0 * 128) xk.data).os = wr.os ∧ (putSec wc g1 (at0 * 128) xk.data).tape = wr.tape ∧ (putSec wc g1 (at0 * 128) xk.data).output = wr.output by
          obtain ⟨e1, e2, e3⟩ := streams_setCells g1 (secC xk.data) (at0 * 128) wc
          exact ⟨e1.trans HST.out.1, e2.trans HST.out.2.1, e3.trans HST.out.2.2⟩)
        go_roundw
        case rel =>
          have hlw := HVR.out.lt
          have hlw2 := HV2R.out.lt
          refine ⟨k + 1, by omega, by go_num, HVR.out.keepb (by omega) (hk2 _ hlw (by omega)), HFR2.out.keepb (hk2 _ hlw (by omega)), HV2R.out.keepb (by omega) (hk2 _ hlw2 (by omega)), HF2R.out.keepb (hk2 _ hlw2 (by omega)), ?_, ?_, ?_, ?_, by omega⟩
          · exact HBR.out.trans ⟨HEQ.out.1, HEQ.out.2.1, HEQ.out.2.2, by omega, fun q hq => hk2 q (by have := HBR.out.size; omega) (by omega)⟩
          · exact HROW.out.keep (by omega) (fun y hy h0 hyl => hk2 _ hyl (by have := HLB.out y hy h0; omega))
          · rw [take_foldl_put _ _ _ _ HXK.out]
            have hlen : ((x.loose.take k).foldl Dk.put x.secs).length = m := by rw [foldl_put_length]; exact HDB.out.1.symm
            have h := range_put_row (range_keepb HRG.out (HKEEP.out g1 hgl)) (j := at0) (by rw [hlen]; omega) HTHC.out xk.data
            rw [Nat.zero_add] at h
            have e : xk.at_.toNat = at0 := by rw [HAT.out]; rfl
            rw [Dk.put, e]
            exact h
          · exact there_putSec (there_keepb HTH.out (HKEEP.out g1 hgl)) _
        case measure => simp [intOf]; omega
      · obtain ⟨f0, f1, f2, f3⟩ := HFR2.out
        obtain ⟨p0, p1, p2, p3, p4⟩ := HV2R.out
        obtain ⟨t0, t1, t2, t3⟩ := HF2R.out
        have hkm : k = m' := by omega
        have HKM := Lib.hid hkm
        clear hkm
        go_wp2
        refine bodyPost_ret (ret_cell_tmp rfl rfl (load_var (Var.set (A := none) (A' := none) (n := 0) (c := 0) (n' := 0) (c' := 0) (f := 0) (dn := false) ⟨by rw [size_set]; exact p0, by go_simp, by go_simp, by go_simp, by go_simp⟩ (some ⟨g1, 0, none⟩) none m c1 0 0 g dm))) rfl ?_
        refine ⟨⟨_, by rw [HQ.out]; rfl, ?_⟩, below_set4 (HBR.out.setCell (p := ⟨w.heap.size, 1, none⟩) (Nat.le_refl _) _) (by omega) _ _ _ _ _ _ _ _⟩
        rw [HQ.out]
        have hlen : (x.loose.foldl Dk.put x.secs).length = m := by rw [foldl_put_length]; exact HDB.out.1.symm
        have hfin : x.loose.take k = x.loose := List.take_of_length_le (by rw [HKM.out, HDB.out.2.1]; exact Nat.le_refl _)
        have hrg := HRG.out
        rw [hfin] at hrg
        have hrow : RowOf wr 128 (some ⟨g1, 0, none⟩) m c1 (secsC (x.loose.foldl Dk.put x.secs)) :=
          ⟨by rw [secsC_length, hlen], HCAP.out.1, HCAP.out.2, (fun h => by cases h), fun y hy _ => by injection hy with hy; subst hy; exact ⟨rfl, hgl, hrg⟩⟩
        refine ⟨disk_of hlen.symm rfl ?_ ⟨by simp [wrsC], by omega, by omega, fun _ => rfl, fun y hy _ => by cases hy⟩ HGF.out.symm HDM.out.symm (by show _ ≤ x.fuse; rw [HGF.out]; exact R3.out.1) (by show x.fuse < _; rw [HGF.out]; exact R3.out.2), ?_⟩
        · exact (hrow.setCell _ _ (fun y hy _ => by injection hy with hy; subst hy; show g1 ≠ w.heap.size; omega)).set4 (fun y hy _ => by injection hy with hy; subst hy; show g1 ≠ w.heap.size + 1; omega) _ _ _ _ _ _ _ _
        · intro b hb _
          exact clear_mk (fun y hy _ => by injection hy with hy; subst hy; show g1 ≠ b; omega) (fun y hy => by cases hy)
end Go.Proofs.YtbhjigejpdbeiaaDoor
