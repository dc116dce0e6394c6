import Derived.Test.YtbhjigejpdbeiaaDoorZKRb
import Derived.Deep.CutBlock
import Derived.Outline
import Derived.OwnWalk
import Derived.Test.YtbhjigejpdbeiaaDoorZKNb
set_option linter.unusedSimpArgs false
set_option linter.unusedVariables false

section
/-
  The reference's sum of 120 bytes.
-/
namespace Go.Proofs.YtbhjigejpdbeiaaDoor
open Go.RowKit Go.Shelf
set_option linter.unusedVariables false

set_option maxRecDepth 1000000 in
set_option maxHeartbeats 16000000 in
theorem rsum_f (w : World) (bs : List UInt8) (hl : bs.length = 120) (A : Option Addr) (c : Nat) (hr : RowOf w 1 A 120 c (Lib.byteCells bs)) (hL : LaidR w) :
    Calls Tryd.prog 94 #[.slice A 120 c, .int .i64 32] w fun e w' => OwnOut 5 1 32 (Lib.byteCells (Sha.sum bs)) w e w' := by
  have HR := Lib.hid hr
  have HL := Lib.hid hL
  clear hr hL
  obtain ⟨w1, hw1⟩ : ∃ w1, w1 = (w.alloc (.cells (iC (List.replicate 12 0)).toArray 168)).setCells w.heap.size 0 (iC bitsL) := ⟨_, rfl⟩
  have ht0 := there_new w (iC (List.replicate 12 0)) 168
  have HB1 := Lib.hid (show Below w.heap.size w w1 by rw [hw1]; exact below_setCells _ (Nat.le_refl _) _ _ _ ((Below.refl _ _).alloc (Nat.le_refl _) _))
  have HS1 := Lib.hid (show w1.heap.size = w.heap.size + 1 by rw [hw1, size_setCells]; simp)
  have HBI := Lib.hid (show w1.rangeAt w.heap.size 0 (iC bitsL) by rw [hw1]; exact World.rangeAt_setCells_same _ _ _ _ ht0)
  have hst := store_i43 (w := w.alloc (.cells (iC (List.replicate 12 0)).toArray 168)) (b := w.heap.size) (o := 0) ht0
  rw [← hw1] at hst
  replace hst : (i43Set ⟨w.heap.size, 0, none⟩ (.agg #[.int .i64 2, .int .i64 13, .int .i64 22, .int .i64 6, .int .i64 11, .int .i64 25, .int .i64 7, .int .i64 18, .int .i64 3, .int .i64 17, .int .i64 19, .int .i64 10])).run Tryd.prog (w.alloc (.cells #[.int .i64 0, .int .i64 0, .int .i64 0, .int .i64 0, .int .i64 0, .int .i64 0, .int .i64 0, .int .i64 0, .int .i64 0, .int .i64 0, .int .i64 0, .int .i64 0] 168)) = .ok () w1 := hst
  clear hw1 ht0
  have HOWN := Lib.hid (own_empty w1 w1.heap.size (Nat.le_refl _) 5 1)
  have HROW := Lib.hid ((HR.out.kept HB1.out (Nat.le_refl _)).kept ((Below.refl _ _).alloc (Nat.le_refl _) (.cells #[] 5)) (Nat.le_refl _))
  go_enter Tryd.func94, Tryd.ntmps94
  go_wp2_with (at_builtin; refine append_row rfl (.tmp 37) (.tmp 38) 28 5 rfl Tryd.underlying28 w1.heap.size (.int .u8 0) 1 1 infoU8 (by rfl) (by decide) _ _ _ rfl HOWN.out _ 120 _ (Lib.byteCells bs) rfl HROW.out (bytes_one _) (by omega) (by decide) (by simp) ?_)
  intro v2 w2 k1 k2
  have K1 := Lib.hid k1
  have K2 := Lib.hid (below_owned ((Below.refl w1.heap.size w1).alloc (Nat.le_refl _) _) HOWN.out k2 (Nat.le_refl _) (by simp))
  clear k1 k2 hst
  go_wp2_with (at_builtin; go_loud (refine append_byte (w := w1) (wr := w2) rfl (.tmp 39) (.tmp 40) rfl w1.heap.size v2 120 bs (by rfl) K1 K2 (Nat.le_refl _) 128 _ rfl rfl (by omega) ?_))
  intro v3 w3 K3 K4
  clear K1 K2
  go_wp2
  go_loopw [7] (fun v wr => ∃ k : Nat, k ≤ 63 ∧ Hid (wr.ownsRow w1.heap.size 5 1 v (121 + k) (Lib.byteCells (ipad bs k 0))) ∧ Hid (Below w1.heap.size w1 wr)) (fun v _ => 200 - sliceLen v)
  case atStart => exact ⟨0, by omega, Lib.hid (by rw [ipad]; simpa using K3.out), K4⟩
  case round =>
    obtain ⟨k, hk, HO, HBR⟩ := hrel
    clear K3 K4
    obtain ⟨A4, c4, rfl, _⟩ := row_of_own HO.out
    by_cases hk63 : k < 63
    · have hd : decide (((121 + k : Nat) : Int) < 184) = true := by simp; omega
      have hz := ipad_zero bs k
      have HZ := Lib.hid hz
      clear hz
      go_wp2_with fail
      refine (rPadded_f wr).mono ?_
      rintro e w4 ⟨rfl, rfl⟩
      go_wp2_with (at_builtin; go_loud (refine append_byte (w := w1) (wr := w4) rfl (.tmp 50) (.tmp 51) rfl w1.heap.size (.slice A4 (121 + k) c4) (121 + k) (ipad bs k 0) (by rfl) HO HBR (Nat.le_refl _) 0 _ rfl rfl (by omega) ?_))
      intro v5 w5 K5 K6
      obtain ⟨A5, c5, rfl, _⟩ := row_of_own K5.out
      rw [HZ.out] at K5
      go_wp2
      go_roundw
      case rel => exact ⟨k + 1, by omega, K5, K6⟩
      case measure => simp [sliceLen]; omega
    · obtain rfl : k = 63 := by omega
      go_wp2_with fail
      refine (rPadded_f wr).mono ?_
      rintro e w4 ⟨rfl, rfl⟩
      go_wp2
      have hs4 := HBR.out.size
      go_loopw [7, 9] (fun v i wr => ∃ (t n : Nat) (i0 : Int), t ≤ 8 ∧ Hid (n = 184 + t) ∧ i = .int .i64 i0 ∧ i0 = 56 - 8 * (t : Int) ∧ Hid (wr.ownsRow w1.heap.size 5 1 v n (Lib.byteCells (ipad bs 63 t))) ∧ Hid (Below w1.heap.size w1 wr)) (fun _ i _ => (intOf i + 8).toNat)
      case atStart => exact ⟨0, 184, 56, by omega, Lib.hid rfl, rfl, rfl, HO, HBR⟩
      case round =>
        clear HO HBR
        rename World => wA
        obtain ⟨t, n, i0, ht, HN, rfl, HI, HO, HBR⟩ := hrel
        obtain ⟨A5, c5, rfl, _⟩ := row_of_own HO.out
        by_cases ht8 : t < 8
        · obtain rfl : n = 184 + t := HN.out
          subst HI
          have HV := Lib.hid (lenB_val t ht8)
          have HZ := Lib.hid (show ipad bs 63 t ++ [lenB[t]?.getD 0] = ipad bs 63 (t + 1) by rw [← List.getD_eq_getElem?_getD]; exact ipad_succ bs 63 t ht8)
          have hp : (0 : Int) ≤ 56 - 8 * (t : Int) := by omega
          go_wp2_with (at_builtin; go_loud (refine append_byte (w := w1) (wr := wA) rfl (.tmp 61) (.tmp 67) rfl w1.heap.size (.slice A5 (184 + t) c5) (184 + t) (ipad bs 63 t) (by rfl) HO HBR (Nat.le_refl _) (lenB.getD t 0) _ HV.out rfl (by omega) ?_))
          intro v6 w6 K5 K6
          rw [HZ.out] at K5
          go_wp2
          go_roundw
          case rel => exact ⟨t + 1, 184 + t + 1, _, by omega, Lib.hid (by omega), rfl, by omega, K5, K6⟩
          case measure => simp [intOf]; omega
        · obtain rfl : t = 8 := by omega
          obtain rfl : n = 192 := HN.out
          obtain rfl : i0 = -8 := by omega
          rw [ipad_all] at HO
          obtain ⟨ga, rfl, hga0, hga1, hra, _⟩ := own_there HO.out (by omega)
          have hc5 := (row_of_own HO.out)
          have hc192 : 192 ≤ c5 := by
            obtain ⟨A', c', e, h, _⟩ := hc5
            injection e with e1 e2 e3
            subst e3
            exact h.2.1
          have hs1 := HS1.out
          have hsA := HBR.out.size
          have HWA := Lib.hid (show ∀ W, Below wA.heap.size wA W → W.rangeAt ga 0 (Lib.byteCells (Sha.pad bs)) ∧ W.rangeAt w.heap.size 0 (iC bitsL) ∧ LaidR W ∧ Below w.heap.size w W from fun W hW =>
            have h0 := below_chain HB1.out (below_chain HBR.out hW)
            ⟨range_below hra hW hga1, range_below (range_below HBI.out HBR.out (by omega)) hW (by omega), HL.out.below h0 HL.out.size, h0⟩)
          have HSA := Lib.hid (show w.heap.size + 1 ≤ ga ∧ ga < wA.heap.size ∧ w.heap.size < wA.heap.size by omega)
          clear hc5 hra hga0 hga1 hs4 hs1 hsA HO HBR HB1 HS1 HBI HOWN HROW HR HN
          obtain ⟨W3, hW3⟩ : ∃ W3, W3 = wA.alloc (.cells (hC 0).toArray 153) := ⟨_, rfl⟩
          have HB3 := Lib.hid (show Below wA.heap.size wA W3 by rw [hW3]; exact (Below.refl _ _).alloc (Nat.le_refl _) _)
          have HM3 := Lib.hid (show W3.rangeAt wA.heap.size 0 (hC 0) ∧ W3.there wA.heap.size 0 8 ∧ wA.heap.size < W3.heap.size by
            rw [hW3]; exact ⟨range_new _ _ _, there_new _ (hC 0) _, by simp⟩)
          rw [hC_zero] at hW3
          go_wp2
          rw [← hW3]
          clear hW3
          obtain ⟨Bh, hBh⟩ : ∃ Bh, Bh = wA.heap.size := ⟨_, rfl⟩
          rw [← hBh] at HM3 HSA ⊢
          go_loopw [11] (fun i wr => ∃ (k : Nat) (i0 : Int), k ≤ 8 ∧ i = .int .i64 i0 ∧ i0 = k ∧ Hid (wr.rangeAt Bh 0 (hC k)) ∧ Hid (wr.there Bh 0 8) ∧ Hid (Below wA.heap.size wA wr) ∧ Hid (Bh < wr.heap.size)) (fun i _ => 8 - (intOf i).toNat)
          case atStart => exact ⟨0, 0, by omega, rfl, rfl, Lib.hid HM3.out.1, Lib.hid HM3.out.2.1, HB3, Lib.hid HM3.out.2.2⟩
          case round =>
            obtain ⟨k, i0, hk, rfl, hi0, HRK, HTK, HB, HSK⟩ := hrel
            have HBH := Lib.hid hBh
            clear hBh HB3 HM3
            by_cases hk8 : k < 8
            · subst hi0
              obtain ⟨n, hn1, hn2⟩ := begins_q k hk8
              have hcb := (HWA.out _ HB.out).2.2.1.rbegins k _ hn1
              have hd8 : decide ((k : Int) < 8) = true := by simp; omega
              obtain ⟨u, hu⟩ : ∃ u, (hC k)[k]? = some u := ⟨_, List.getElem?_eq_getElem (by rw [hC_length k hk]; omega)⟩
              have hcu := HRK.out k u hu
              have hcf := (HTK.out k (by omega)).2
              rw [Nat.zero_add] at hcu hcf hcb
              clear hu hn1
              go_wp2
              go_roundw
              case rel =>
                refine ⟨k + 1, _, by omega, rfl, by omega, Lib.hid ?_, Lib.hid (there_setCell HTK.out _ _), Lib.hid (HB.out.setCell (p := ⟨Bh, k, none⟩) (by rw [HBH.out]; exact Nat.le_refl _) _), Lib.hid (by simpa using HSK.out)⟩
                have := range_setCell HRK.out k (.int .u64 (wi (Sha.begin_ k))) (by rw [hC_length k hk]; omega)
                rw [hC_set k hk8, Nat.zero_add] at this
                exact this
              case measure => simp [intOf]; omega
            · obtain rfl : k = 8 := by omega
              obtain rfl : i0 = 8 := hi0
              rw [hC_end] at HRK
              have HRS := Lib.hid (show wr.rangeAt Bh 0 (qW (shaSt (Sha.pad bs) Sha.start (chunks 3 0)).list) from HRK.out)
              clear HRK
              go_wp2
              go_loopw [13] (fun i wr => ∃ ch n : Nat, ch ≤ 3 ∧ Hid (n = 64 * ch) ∧ i = .int .i64 (n : Int) ∧ Hid (wr.rangeAt Bh 0 (qW (shaSt (Sha.pad bs) Sha.start (chunks 3 ch)).list)) ∧ Hid (wr.there Bh 0 8) ∧ Hid (Below wA.heap.size wA wr) ∧ Hid (Bh < wr.heap.size)) (fun i _ => 200 - (intOf i).toNat)
              case atStart => exact ⟨0, 0, by omega, Lib.hid rfl, rfl, HRS, HTK, HB, HSK⟩
              case round =>
                clear HRS HTK HB HSK
                rename World => wo
                obtain ⟨ch, n, hch, HN, rfl, HRS, HTS, HB, HSK⟩ := hrel
                by_cases hch3 : ch < 3
                · have hn := HN.out
                  have hn128 : n ≤ 128 := by omega
                  have hd : decide ((n : Int) < 192) = true := by simp; omega
                  have HNN := Lib.hid hn
                  clear hn
                  obtain ⟨B, hB⟩ : ∃ B, B = ((Sha.pad bs).drop n).take 64 := ⟨_, rfl⟩
                  obtain ⟨S, hS⟩ : ∃ S, S = shaSt (Sha.pad bs) Sha.start (chunks 3 ch) := ⟨_, rfl⟩
                  rw [← hS] at HRS
                  have HSD := Lib.hid hS
                  have HBD := Lib.hid hB
                  clear hS hB
                  obtain ⟨W4, hW4⟩ : ∃ W4, W4 = wo.alloc (.cells (mC B 0).toArray 146) := ⟨_, rfl⟩
                  have HB4 := Lib.hid (show Below wo.heap.size wo W4 by rw [hW4]; exact (Below.refl _ _).alloc (Nat.le_refl _) _)
                  have HM4 := Lib.hid (show W4.rangeAt wo.heap.size 0 (mC B 0) ∧ W4.there wo.heap.size 0 80 ∧ wo.heap.size < W4.heap.size by
                    have h1 := there_new wo (mC B 0) 146
                    rw [mC_length] at h1
                    rw [hW4]; exact ⟨range_new _ _ _, h1, by simp⟩)
                  rw [← mC_zero B] at hW4
                  go_upto_block 8 with fail
                  rw [← hW4]
                  clear hW4
                  have HWO := Lib.hid (show ∀ W, Below wo.heap.size wo W → (W.rangeAt ga 0 (Lib.byteCells (Sha.pad bs)) ∧ W.rangeAt w.heap.size 0 (iC bitsL) ∧ LaidR W ∧ Below w.heap.size w W) ∧ W.rangeAt Bh 0 (qW S.list) ∧ W.there Bh 0 8 from
                    fun W hW => ⟨HWA.out W (below_chain HB.out hW), range_below HRS.out hW HSK.out, there_below HTS.out hW HSK.out⟩)
                  obtain ⟨Bm, hBm⟩ : ∃ Bm, Bm = wo.heap.size := ⟨_, rfl⟩
                  rw [← hBm] at HM4 ⊢
                  have HBM := Lib.hid hBm
                  clear hBm
                  refine rs5 wo W4 (Sha.pad bs) B n ga c5 Bm (Sha.pad_length bs hl) HBD.out hn128 hc192 (fun W hW => (HWO.out W hW).1.1) HBM.out HM4.out.1 HM4.out.2.1 HM4.out.2.2 HB4.out _ _ _ _ _ _ _ _ _ _ _ _ _ _ _ _ _ _ _ _ _ _ _ _ _ _ _ _ _ _ _ _ _ _ _ _ _ _ _ _ _ _ _ _ _ _ _ _ _ _ _ _ _ _ _ _ _ _ _ _ _ _ _ _ _ _ _ _ _ _ _ _ _ _ _ _ _ _ _ _ _ _ _ _ _ _ _ _ _ _ _ _ _ _ _ _ _ _ _ _ _ _ _ _ _ _ _ _ _ _ _ _ _ _ _ _ _ _ _ _ _ _ _ _ _ _ _ _ _ _ _ _ _ _ _ _ _ _ _ _ _ _ _ _ _ _ _ _ _ _ _ _ _ _ _ _ _ _ _ _ _ _ _ _ _ _ _ _ _ _ _ _ _ _ _ _ _ _ _ _ _ _ _ _ _ _ _ _ _ _ _ _ _ _ _ _ _ _ _ _ _ _ _ _ _ _ _ _ _ _ _ _ _ _ _ _ _ _ _ _ _ _ _ _ _ _ _ _ _ _ _ _ _ _ _ _ _ _ _ _ _ _ _ _ _ _ _ _ _ _ _ _ _ _ _ _ _ _ _ _ _ _ _ _ _ _ _ _ _ _ _ _ _ _ _ _ _ ?_
                  intro u92 u93 u94 u95 u96 u97 u98 u99 u100 u101 u102 u103 u104 u105 u106 u107 u108 u109 u110 u111 u112 u113 u114 u115 wp hrq htq hbq hsq
                  have HRQ5 := Lib.hid hrq
                  have HTQ5 := Lib.hid htq
                  have HBQ5 := Lib.hid hbq
                  have HSQ5 := Lib.hid hsq
                  clear hrq htq hbq hsq HM4 HB4
                  rw [sC_zero B] at HRQ5
                  obtain ⟨l, hL16⟩ : ∃ l, l = Sha.words B 64 := ⟨_, rfl⟩
                  rw [← hL16] at HRQ5
                  have HL16 := Lib.hid (show l.length = 16 by rw [hL16]; exact Sha.words_length _ _)
                  have HLD := Lib.hid hL16
                  have HNE6 := Lib.hid (show Bm ≠ w.heap.size by have := HBM.out; have := HB.out.size; have := HSA.out; have := HBH.out; omega)
                  clear hL16
                  go_upto_block 10 with fail
                  refine rs6 wo wp l w.heap.size Bm HL16.out HNE6.out (fun W hW => (HWO.out W hW).1.2.1) HBM.out HRQ5.out HTQ5.out HSQ5.out HBQ5.out _ _ _ _ _ _ _ _ _ _ _ _ _ _ _ _ _ _ _ _ _ _ _ _ _ _ _ _ _ _ _ _ _ _ _ _ _ _ _ _ _ _ _ _ _ _ _ _ _ _ _ _ _ _ _ _ _ _ _ _ _ _ _ _ _ _ _ _ _ _ _ _ _ _ _ _ _ _ _ _ _ _ _ _ _ _ _ _ _ _ _ _ _ _ _ _ _ _ _ _ _ _ _ _ _ _ _ _ _ _ _ _ _ _ _ _ _ _ _ _ _ _ _ _ _ _ _ _ _ _ _ _ _ _ _ _ _ _ _ _ _ _ _ _ _ _ _ _ _ _ _ _ _ _ _ _ _ _ _ _ _ _ _ _ _ _ _ _ _ _ _ _ _ _ _ _ _ _ _ _ _ _ _ _ _ _ _ _ _ _ _ _ _ _ _ _ _ _ _ _ _ _ _ _ _ _ _ _ _ _ _ _ _ _ _ _ _ _ _ _ _ _ _ _ _ _ _ _ _ _ _ _ _ _ _ _ _ _ _ _ _ _ _ _ _ _ _ _ _ _ _ _ _ _ _ _ _ _ _ _ _ _ _ _ _ _ _ _ _ _ _ _ _ _ _ _ _ ?_
                  intro u116 u117 u118 u119 u120 u121 u122 u123 u124 u125 u126 u127 u128 u129 u130 u131 u132 u133 u134 u135 u136 u137 u138 u139 u140 u141 u142 u143 u144 u145 u146 u147 u148 u149 u150 u151 wq hrq htq hbq hsq
                  have HRQ := Lib.hid hrq
                  have HTQ := Lib.hid htq
                  have HBQ := Lib.hid hbq
                  have HSQ := Lib.hid hsq
                  clear hrq htq hbq hsq HRQ5 HTQ5 HBQ5 HSQ5
                  have hqv := load_q8w (w := wq) (b := Bh) (o := 0) (list8 S) (HWO.out wq HBQ.out).2.1
                  obtain ⟨W7, hW7⟩ : ∃ W7, W7 = (wq.alloc (.cells (hC 0).toArray 153)).setCells wq.heap.size 0 (qW S.list) := ⟨_, rfl⟩
                  have ht0 := there_new wq (hC 0) 153
                  rw [hC_length 0 (by omega)] at ht0
                  have hst := store_q8w (list8 S) ht0
                  rw [← hW7] at hst
                  have HB7 := Lib.hid (show Below wq.heap.size wq W7 by rw [hW7]; exact below_setCells _ (Nat.le_refl _) _ _ _ ((Below.refl _ _).alloc (Nat.le_refl _) _))
                  have HM7 := Lib.hid (show W7.rangeAt wq.heap.size 0 (qW S.list) ∧ W7.there wq.heap.size 0 8 ∧ wq.heap.size < W7.heap.size by
                    rw [hW7]; exact ⟨World.rangeAt_setCells_same _ _ _ _ ht0, World.there_setCells ht0 _ _ _, by rw [size_setCells]; simp⟩)
                  rw [hC_zero] at hst
                  clear hW7 ht0
                  go_upto_block 12 with fail
                  clear hqv hst
                  obtain ⟨M, hM⟩ : ∃ M, M = Sha.sched l 48 := ⟨_, rfl⟩
                  have HMC := Lib.hid (show ∀ W, Below wq.heap.size wq W → ∀ k, k < 64 → W.cell? ⟨Bm, k, none⟩ = some (.int .u64 (wi (M.getD k 0))) from fun W hW k hk => by
                    have h1 := range_below HRQ.out hW HSQ.out k _ (sC_at l HL16.out 48 k (by omega))
                    rw [hM]
                    rwa [Nat.zero_add] at h1)
                  have HMD := Lib.hid hM
                  clear hM
                  have HBOQ := HBQ
                  have HOS := Lib.hid (show wo.heap.size ≤ wq.heap.size from HBQ.out.size)
                  clear HRQ HTQ HSQ
                  obtain ⟨Bv, hBv⟩ : ∃ Bv, Bv = wq.heap.size := ⟨_, rfl⟩
                  rw [← hBv] at HM7 ⊢
                  have HBV := Lib.hid hBv
                  clear hBv
                  refine rs7 wq W7 M S w.heap.size Bm Bv (fun W hW => ⟨(HWO.out W (below_chain HBOQ.out hW)).1.2.1, (HWO.out W (below_chain HBOQ.out hW)).1.2.2.1⟩) HMC.out HBV.out HM7.out.1 HM7.out.2.1 HM7.out.2.2 HB7.out _ _ _ _ _ _ _ _ _ _ _ _ _ _ _ _ _ _ _ _ _ _ _ _ _ _ _ _ _ _ _ _ _ _ _ _ _ _ _ _ _ _ _ _ _ _ _ _ _ _ _ _ _ _ _ _ _ _ _ _ _ _ _ _ _ _ _ _ _ _ _ _ _ _ _ _ _ _ _ _ _ _ _ _ _ _ _ _ _ _ _ _ _ _ _ _ _ _ _ _ _ _ _ _ _ _ _ _ _ _ _ _ _ _ _ _ _ _ _ _ _ _ _ _ _ _ _ _ _ _ _ _ _ _ _ _ _ _ _ _ _ _ _ _ _ _ _ _ _ _ _ _ _ _ _ _ _ _ _ _ _ _ _ _ _ _ _ _ _ _ _ _ _ _ _ _ _ _ _ _ _ _ _ _ _ _ _ _ _ _ _ _ _ _ _ _ _ _ _ _ _ _ _ _ _ _ _ _ _ _ _ _ _ _ _ _ _ _ _ _ _ _ _ _ _ _ _ _ _ _ _ _ _ _ _ _ _ _ _ _ _ _ _ _ _ _ _ _ _ _ _ _ _ _ _ _ _ _ _ _ _ _ _ _ _ _ _ _ _ _ _ _ _ _ _ _ ?_
                  intro u19 u20 u153 u154 u155 u156 u157 u158 u159 u160 u161 u162 u163 u164 u165 u166 u167 u168 u169 u170 u171 u172 u173 u174 u175 u176 u177 u178 u179 u180 u181 u182 u183 u184 u185 u186 u187 u188 u189 u190 u191 u192 u193 u194 u195 u196 u197 u198 u199 u200 u201 u202 u203 u204 u205 u206 u207 u208 u209 u210 u211 u212 u213 u214 u215 u216 u217 u218 u219 u220 u221 u222 u223 u224 u225 u226 u227 u228 u229 u230 u231 u232 u233 u234 u235 u236 u237 u238 u239 u240 u241 u242 u243 wz hrv htv hbz hsv
                  have HRV0 := Lib.hid hrv
                  have HBZ := Lib.hid hbz
                  have HSV := Lib.hid hsv
                  clear hrv htv hbz hsv HM7 HB7
                  obtain ⟨R, hR⟩ : ∃ R, R = Sha.runs M S 64 := ⟨_, rfl⟩
                  rw [← hR] at HRV0
                  have HRD := Lib.hid hR
                  clear hR
                  have hbh := (HWO.out wz (below_chain HBOQ.out HBZ.out))
                  have HRH0 := Lib.hid (show wz.rangeAt Bh 0 (aQ S R 0) from hbh.2.1)
                  have HTH0 := Lib.hid hbh.2.2
                  clear hbh
                  have HNE8 := Lib.hid (show Bv ≠ Bh by have := HBV.out; have := HBH.out; have := HB.out.size; have := HOS.out; have := HSK.out; omega)
                  go_upto_block 14 with fail
                  refine rs8 wz S R Bh Bv HNE8.out HRV0.out HSV.out HRH0.out HTH0.out _ _ _ _ _ _ _ _ _ _ _ _ _ _ _ _ _ _ _ _ _ _ _ _ _ _ _ _ _ _ _ _ _ _ _ _ _ _ _ _ _ _ _ _ _ _ _ _ _ _ _ _ _ _ _ _ _ _ _ _ _ _ _ _ _ _ _ _ _ _ _ _ _ _ _ _ _ _ _ _ _ _ _ _ _ _ _ _ _ _ _ _ _ _ _ _ _ _ _ _ _ _ _ _ _ _ _ _ _ _ _ _ _ _ _ _ _ _ _ _ _ _ _ _ _ _ _ _ _ _ _ _ _ _ _ _ _ _ _ _ _ _ _ _ _ _ _ _ _ _ _ _ _ _ _ _ _ _ _ _ _ _ _ _ _ _ _ _ _ _ _ _ _ _ _ _ _ _ _ _ _ _ _ _ _ _ _ _ _ _ _ _ _ _ _ _ _ _ _ _ _ _ _ _ _ _ _ _ _ _ _ _ _ _ _ _ _ _ _ _ _ _ _ _ _ _ _ _ _ _ _ _ _ _ _ _ _ _ _ _ _ _ _ _ _ _ _ _ _ _ _ _ _ _ _ _ _ _ _ _ _ _ _ _ _ _ _ _ _ _ _ _ _ _ _ _ _ ?_
                  intro u244 u245 u246 u247 u248 u249 u250 u251 u252 u253 u254 u255 u256 u257 u258 wy hrh hth hg
                  have HRH := Lib.hid hrh
                  have HTH := Lib.hid hth
                  have HG := Lib.hid hg
                  clear hrh hth hg HRH0 HTH0
                  go_wp2
                  go_roundw
                  case rel =>
                    refine ⟨ch + 1, n + 64, by omega, Lib.hid (by have := HNN.out; omega), by go_num, Lib.hid ?_, HTH, Lib.hid ?_, Lib.hid (by have := HG.out.size; have := HSK.out; have := HOS.out; have := HBZ.out.size; omega)⟩
                    · have h1 := HRH.out
                      rw [HRD.out, HMD.out, HLD.out, HBD.out, HNN.out, Nat.mul_comm 64 ch] at h1
                      rw [chunks_snoc3 ch hch3, shaSt_snoc, ← HSD.out]
                      exact h1
                    · refine (below_chain HB.out (below_chain HBOQ.out HBZ.out)).grown HG.out (by have := HB.out.size; have := HOS.out; have := HBZ.out.size; omega) (fun q hq => by injection hq with hq; rw [← hq, HBH.out]; exact Nat.le_refl _)
                  case measure => simp [intOf]; omega
                · obtain rfl : ch = 3 := by omega
                  obtain rfl : n = 192 := HN.out
                  obtain ⟨S, hS⟩ : ∃ S, S = shaSt (Sha.pad bs) Sha.start (chunks 3 3) := ⟨_, rfl⟩
                  rw [← hS] at HRS
                  have HSD := Lib.hid hS
                  clear hS
                  have HWS := Lib.hid ((HWA.out wo HB.out).2.2.2)
                  have hbh := HSK.out
                  clear HWA HSK
                  go_wp2
                  go_loopw [22, 23] (fun v i wr => ∃ (k : Nat) (i0 : Int), k ≤ 8 ∧ i = .int .i64 i0 ∧ i0 = (k : Int) ∧ Hid (wr.ownsRow wo.heap.size 5 1 v (4 * k) (Lib.byteCells (outB S k 0))) ∧ Hid (Below wo.heap.size wo wr)) (fun _ i _ => 8 - (intOf i).toNat)
                  case atStart => exact ⟨0, 0, by omega, rfl, rfl, Lib.hid (own_nil _ _ _ _), Lib.hid (Below.refl _ _)⟩
                  case round =>
                    obtain ⟨k, i0, hk, rfl, hi0, HO, HBR⟩ := hrel
                    by_cases hk8 : k < 8
                    · subst hi0
                      have hd8 : decide ((k : Int) < 8) = true := by simp; omega
                      go_wp2
                      go_loopw [22, 24] (fun v i wz => ∃ (t m : Nat) (i0 : Int), t ≤ 4 ∧ Hid (m = 4 * k + t) ∧ i = .int .i64 i0 ∧ i0 = 24 - 8 * (t : Int) ∧ Hid (wz.ownsRow wo.heap.size 5 1 v m (Lib.byteCells (outB S k t))) ∧ Hid (Below wo.heap.size wo wz)) (fun _ i _ => (intOf i + 8).toNat)
                      case atStart => exact ⟨0, 4 * k, 24, by omega, Lib.hid rfl, rfl, rfl, HO, HBR⟩
                      case round =>
                        rename World => wz
                        obtain ⟨t, m, i0, ht, HM, rfl, hi0, HO2, HB2⟩ := hrel
                        obtain ⟨A6, c6, rfl, _⟩ := row_of_own HO2.out
                        by_cases ht4 : t < 4
                        · subst hi0
                          have hcx := (range_below HRS.out HB2.out hbh) k _ (qW_at S.list k (by rw [list8]; exact hk8))
                          rw [Nat.zero_add] at hcx
                          have HBY := Lib.hid (byteAt_q (S.list.getD k 0) t ht4)
                          have HSN := Lib.hid (outB_succ S k t ht4)
                          have hxr := wi_range (S.list.getD k 0)
                          generalize S.list.getD k 0 = x at *
                          have hm := HM.out
                          have hm32 : m < 32 := by omega
                          clear hm
                          have hp : (0 : Int) ≤ 24 - 8 * (t : Int) := by omega
                          have k0 : (0 : Int) ≤ k := by omega
                          have k1 : (k : Int) < 8 := by omega
                          go_wp2_with (at_builtin; go_loud (refine append_byte (w := wo) (wr := wz) rfl (.tmp 269) (.tmp 277) rfl wo.heap.size (.slice A6 m c6) m (outB S k t) (by rfl) HO2 HB2 (Nat.le_refl _) (byteAt x t) _ HBY.out rfl (by omega) ?_))
                          intro v6 w6 K5 K6
                          rw [← HSN.out] at K5
                          go_wp2
                          go_roundw
                          case rel => exact ⟨t + 1, m + 1, _, by omega, Lib.hid (by have := HM.out; omega), rfl, by omega, K5, K6⟩
                          case measure => simp [intOf]; omega
                        · obtain rfl : t = 4 := by omega
                          obtain rfl : m = 4 * k + 4 := HM.out
                          obtain rfl : i0 = -8 := by omega
                          clear hi0
                          go_wp2
                          go_roundw
                          case rel => exact ⟨k + 1, _, by omega, rfl, by omega, Lib.hid (by rw [← outB_next S k hk8]; exact HO2.out), HB2⟩
                          case measure => simp [intOf]; omega
                    · obtain rfl : k = 8 := by omega
                      obtain rfl : i0 = 8 := by omega
                      clear hi0
                      have HO8 := HO
                      rw [outB_all, HSD.out, sum_pad] at HO8
                      go_wp2
                      go_ret
                      refine ⟨⟨_, rfl, own_mono HO8.out HWS.out.size⟩, below_chain HWS.out HBR.out⟩
end Go.Proofs.YtbhjigejpdbeiaaDoor
end

section
/-
  The reference's Sum256 of 120 bytes.
-/
namespace Go.Proofs.YtbhjigejpdbeiaaDoor
open Go.RowKit Go.Shelf
set_option linter.unusedVariables false

/-- The result while it is laid. -/
def outC (l : List UInt8) (k : Nat) : List UInt8 := l.take k ++ List.replicate (32 - k) 0
theorem outC_length (l : List UInt8) (hl : l.length = 32) (k : Nat) (hk : k ≤ 32) : (outC l k).length = 32 := by simp [outC, hl]; omega
theorem outC_set (l : List UInt8) (hl : l.length = 32) (k : Nat) (hk : k < 32) : (outC l k).set k (l.getD k 0) = outC l (k + 1) := by
  have h1 : (l.take k).length = k := by simp [hl]; omega
  rw [outC, outC, List.set_append_right _ _ (by omega), h1, Nat.sub_self, show 32 - k = (32 - (k + 1)) + 1 by omega, List.replicate_succ, List.set_cons_zero, List.take_succ_eq_append_getElem (by omega), List.append_assoc]
  congr 2
  rw [List.getD_eq_getElem?_getD, List.getElem?_eq_getElem (by omega)]; rfl
theorem outC_end (l : List UInt8) (hl : l.length = 32) : outC l 32 = l := by simp [outC, List.take_of_length_le (Nat.le_of_eq hl)]

set_option maxRecDepth 100000 in
set_option maxHeartbeats 2000000 in
theorem rsum256_f (w : World) (bs : List UInt8) (hl : bs.length = 120) (A : Option Addr) (c : Nat) (hr : RowOf w 1 A 120 c (Lib.byteCells bs)) (hL : LaidR w) :
    Calls Tryd.prog 77 #[.slice A 120 c] w fun e w' => e = .returned (.agg (Lib.byteCells (Sha.sum bs)).toArray) ∧ Below w.heap.size w w' := by
  obtain ⟨w2, hw2⟩ : ∃ w2, w2 = (w.alloc (.cells (Lib.byteCells (List.replicate 32 0)).toArray 129)).alloc (.cells (Lib.byteCells (outC (Sha.sum bs) 0)).toArray 129) := ⟨_, rfl⟩
  have HB2 := Lib.hid (show Below w.heap.size w w2 by rw [hw2]; exact below_two _ _ _)
  have HS2 := Lib.hid (show w2.heap.size = w.heap.size + 2 by rw [hw2]; simp)
  have HT2 := Lib.hid (show w2.there w.heap.size 0 32 by
    rw [hw2]
    have := there_new w (Lib.byteCells (List.replicate 32 0)) 129
    rw [Lib.byteCells_length, List.length_replicate] at this
    exact there_below this ((Below.refl _ _).alloc (Nat.le_refl _) _) (by simp))
  have HRG2 := Lib.hid (show w2.rangeAt (w.heap.size + 1) 0 (Lib.byteCells (outC (Sha.sum bs) 0)) ∧ w2.there (w.heap.size + 1) 0 32 by
    rw [hw2]
    have h1 := range_new (w.alloc (.cells (Lib.byteCells (List.replicate 32 0)).toArray 129)) (Lib.byteCells (outC (Sha.sum bs) 0)) 129
    have h2 := there_new (w.alloc (.cells (Lib.byteCells (List.replicate 32 0)).toArray 129)) (Lib.byteCells (outC (Sha.sum bs) 0)) 129
    rw [size_alloc] at h1 h2
    rw [Lib.byteCells_length, outC_length _ (Sha.sum_length bs) 0 (by omega)] at h2
    exact ⟨h1, h2⟩)
  have hz : (Lib.byteCells (outC (Sha.sum bs) 0)).toArray = (Lib.byteCells (List.replicate 32 0)).toArray := by rw [outC]; rfl
  have hz32 : (Lib.byteCells (List.replicate 32 0)).toArray = #[.int .u8 0, .int .u8 0, .int .u8 0, .int .u8 0, .int .u8 0, .int .u8 0, .int .u8 0, .int .u8 0, .int .u8 0, .int .u8 0, .int .u8 0, .int .u8 0, .int .u8 0, .int .u8 0, .int .u8 0, .int .u8 0, .int .u8 0, .int .u8 0, .int .u8 0, .int .u8 0, .int .u8 0, .int .u8 0, .int .u8 0, .int .u8 0, .int .u8 0, .int .u8 0, .int .u8 0, .int .u8 0, .int .u8 0, .int .u8 0, .int .u8 0, .int .u8 0] := by
    simp [Lib.byteCells, List.replicate]
  rw [hz, hz32] at hw2
  have HROW := Lib.hid (hr.kept HB2.out (Nat.le_refl _))
  have HLW := Lib.hid (hL.below HB2.out hL.size)
  clear hz hz32 hr hL
  go_enter Tryd.func77, Tryd.ntmps77
  go_wp2_with fail
  rw [← hw2]
  have HW := Lib.hid hw2
  clear hw2
  refine (rsum_f w2 bs hl A c HROW.out HLW.out).mono ?_
  rintro e w3 ⟨⟨v, rfl, hown⟩, hb3⟩
  obtain ⟨A5, c5, rfl, hrow5, _⟩ := row_of_own hown
  obtain ⟨g5, rfl, hg50, hg51, hg52, _⟩ := own_there hown (by omega)
  have HC5 := Lib.hid hrow5.2.1
  have HG5 := Lib.hid hg52
  have HG0 := Lib.hid hg50
  have HB3 := Lib.hid hb3
  clear hown hrow5 hg52 hb3 hg50
  obtain ⟨b, hb⟩ : ∃ b, b = w.heap.size + 1 := ⟨_, rfl⟩
  rw [← hb] at HRG2 ⊢
  have HBD := Lib.hid hb
  clear hb
  go_wp2
  go_loopw [5] (fun i wr => ∃ (k : Nat) (i0 : Int), k ≤ 32 ∧ i = .int .i64 i0 ∧ i0 = (k : Int) ∧ Hid (wr.rangeAt b 0 (Lib.byteCells (outC (Sha.sum bs) k))) ∧ Hid (wr.there b 0 32) ∧ Hid (w3.grownBy wr (some b))) (fun i _ => 32 - (intOf i).toNat)
  case atStart => exact ⟨0, 0, by omega, rfl, rfl, Lib.hid (range_below HRG2.out.1 HB3.out (by have := HS2.out; have := HBD.out; omega)), Lib.hid (there_below HRG2.out.2 HB3.out (by have := HS2.out; have := HBD.out; omega)), Lib.hid (World.grownBy.refl _ _)⟩
  case round =>
    obtain ⟨k, i0, hk, rfl, hi0, HRK, HTK, HG⟩ := hrel
    have hgb : g5 ≠ b := by have := HG0.out; have := HS2.out; have := HBD.out; omega
    by_cases hk32 : k < 32
    · subst hi0
      have hc5 : (32 : Int) ≤ (c5 : Int) := by have := HC5.out; omega
      have hcg : wr.cell? ⟨g5, k, none⟩ = some (.int .u8 ((Sha.sum bs).getD k 0).toNat) := by
        refine (World.cell?_of_block (a := ⟨g5, k, none⟩) (HG.out.block g5 hg51 (by simpa using hgb))).trans ?_
        have := HG5.out k (.int .u8 ((Sha.sum bs).getD k 0).toNat) (by
          rw [Lib.byteCells, List.getElem?_map, List.getElem?_eq_getElem (by rw [Sha.sum_length]; exact hk32), List.getD_eq_getElem?_getD, List.getElem?_eq_getElem (by rw [Sha.sum_length]; exact hk32)]; rfl)
        rwa [Nat.zero_add] at this
      obtain ⟨q1, q2⟩ := HTK.out k hk32
      obtain ⟨u, hu⟩ := Option.isSome_iff_exists.1 q1
      rw [Nat.zero_add] at hu q2
      have HSET := Lib.hid (outC_set (Sha.sum bs) (Sha.sum_length bs) k hk32)
      generalize (Sha.sum bs).getD k 0 = x at *
      clear q1
      go_wp2
      go_roundw
      case rel =>
        refine ⟨k + 1, _, by omega, rfl, by omega, Lib.hid ?_, Lib.hid (there_setCell HTK.out _ _), Lib.hid (grown_set HG.out k _)⟩
        have := range_setCell HRK.out k (.int .u8 x.toNat) (by rw [Lib.byteCells_length, outC_length _ (Sha.sum_length bs) k hk]; omega)
        rw [cells_set, HSET.out, Nat.zero_add] at this
        exact this
      case measure => simp [intOf]; omega
    · obtain rfl : k = 32 := by omega
      obtain rfl : i0 = 32 := hi0
      rw [outC_end _ (Sha.sum_length bs)] at HRK
      have hne : w.heap.size ≠ b := by have := HBD.out; omega
      have hld := load_b32 (Sha.sum_length bs) HRK.out
      have HTZ := Lib.hid (show wr.there w.heap.size 0 32 from there_keepb (there_below HT2.out HB3.out (by have := HS2.out; omega)) (HG.out.block w.heap.size (by have := HS2.out; have := HB3.out.size; omega) (by simpa using hne)))
      have hst := store_b32 (Sha.sum_length bs) HTZ.out
      have HFIN := Lib.hid (load_b32 (Sha.sum_length bs) (World.rangeAt_setCells_same wr w.heap.size 0 (Lib.byteCells (Sha.sum bs)) (by rw [Lib.byteCells_length, Sha.sum_length]; exact HTZ.out)))
      have HBW := Lib.hid (show Below w.heap.size w wr from (below_chain HB2.out HB3.out).grown HG.out (by have := HB2.out.size; have := HB3.out.size; omega) (fun q e => by injection e with e; have := HBD.out; omega))
      go_wp2_with fail
      refine bodyPost_ret (ret_cell rfl rfl (b32Var_run HFIN.out)) rfl ?_
      exact ⟨rfl, below_setCells _ (Nat.le_refl _) _ _ _ HBW.out⟩
end Go.Proofs.YtbhjigejpdbeiaaDoor
end

section
/-
  The reference's Seal: a part's sector.
-/
namespace Go.Proofs.YtbhjigejpdbeiaaDoor
open Go.RowKit Go.Shelf
set_option linter.unusedVariables false
set_option maxRecDepth 8000

/-- One byte more. -/
theorem SecAt.one {W0 W : World} {b z : Nat} {pre : List UInt8} (h : SecAt W0 b (pre ++ List.replicate (z + 1) 0) W) (x : UInt8) (v : Int) (hv : v = (x.toNat : Int)) :
    SecAt W0 b (pre ++ [x] ++ List.replicate z 0) (W.setCell ⟨b, pre.length, none⟩ (.int .u8 v)) := by
  subst hv
  have := h.app [x] (by simp)
  rw [List.length_singleton, Nat.add_sub_cancel] at this
  exact this
theorem SecAt.free {W0 W : World} {b : Nat} {X : List UInt8} (h : SecAt W0 b X W) (j : Nat) (hj : j < 128) : (∃ u, W.cell? ⟨b, j, none⟩ = some u) ∧ W.frozen? ⟨b, j, none⟩ = false := by
  obtain ⟨h1, h2⟩ := h.there j hj
  rw [Nat.zero_add] at h1 h2
  exact ⟨Option.isSome_iff_exists.1 h1, h2⟩
set_option maxHeartbeats 1000000 in
theorem rsec_f (w : World) (v : Value) (p : Part) (h : PartAt w v p) (hp : p.data.length ≤ 100) (hL : LaidR w) :
    Calls Tryd.prog 58 #[v] w fun e w' => e = .returned (secV p.sec) ∧ Below w.heap.size w w' := by
  obtain ⟨A, n, c, rfl, hn, hr⟩ := h
  have HN := Lib.hid hn
  have HR := Lib.hid hr
  have HL := Lib.hid hL
  clear hn hr hL
  obtain ⟨w3, hw3⟩ : ∃ w3, w3 = ((w.alloc (Obj.cells #[.int .i64 p.gen, .int .i64 p.index, .int .u8 p.marks.toNat, .slice A n c] 94)).alloc (Obj.cells (secC zeroSec).toArray 81)).alloc (Obj.cells (secC zeroSec).toArray 81) := ⟨_, rfl⟩
  obtain ⟨b, hb⟩ : ∃ b, b = w.heap.size + 1 + 1 := ⟨_, rfl⟩
  have HB3 := Lib.hid (show Below w.heap.size w w3 by rw [hw3]; exact ((below_two _ _ _).alloc (by simp; omega) _))
  have HS3 := Lib.hid (show w3.heap.size = w.heap.size + 3 by rw [hw3]; simp)
  have S0 := Lib.hid (show SecAt w3 b ([] ++ List.replicate 128 0) w3 by
    have h1 := range_new ((w.alloc (Obj.cells #[.int .i64 p.gen, .int .i64 p.index, .int .u8 p.marks.toNat, .slice A n c] 94)).alloc (Obj.cells (secC zeroSec).toArray 81)) (secC zeroSec) 81
    have h2 := there_new ((w.alloc (Obj.cells #[.int .i64 p.gen, .int .i64 p.index, .int .u8 p.marks.toNat, .slice A n c] 94)).alloc (Obj.cells (secC zeroSec).toArray 81)) (secC zeroSec) 81
    rw [size_alloc, size_alloc] at h1 h2
    rw [secC_length] at h2
    rw [← hw3, ← hb] at h1 h2
    exact ⟨h1, h2, World.grownBy.refl _ _, by simp⟩)
  have HT2 := Lib.hid (show w3.there (w.heap.size + 1) 0 128 by
    have h2 := there_new (w.alloc (Obj.cells #[.int .i64 p.gen, .int .i64 p.index, .int .u8 p.marks.toNat, .slice A n c] 94)) (secC zeroSec) 81
    rw [size_alloc, secC_length] at h2
    rw [hw3]
    exact there_below h2 ((Below.refl _ _).alloc (Nat.le_refl _) _) (by simp))
  have HP := Lib.hid (show ∀ W, w3.grownBy W (some b) → W.cell? ⟨w.heap.size, 0, none⟩ = some (.int .i64 p.gen) ∧ W.cell? ⟨w.heap.size, 1, none⟩ = some (.int .i64 p.index) ∧ W.cell? ⟨w.heap.size, 2, none⟩ = some (.int .u8 p.marks.toNat) ∧ W.cell? ⟨w.heap.size, 3, none⟩ = some (.slice A n c) from fun W hW => by
    have hk : ∀ j u, (#[.int .i64 p.gen, .int .i64 p.index, .int .u8 p.marks.toNat, .slice A n c] : Array Value)[j]? = some u → W.cell? ⟨w.heap.size, j, none⟩ = some u := fun j u hu => by
      refine (World.cell?_of_block (a := ⟨w.heap.size, j, none⟩) (hW.block w.heap.size (by have := HS3.out; omega) (by rw [hb]; simp; omega))).trans ?_
      have hk2 : Below (w.heap.size + 1) (w.alloc (Obj.cells #[.int .i64 p.gen, .int .i64 p.index, .int .u8 p.marks.toNat, .slice A n c] 94)) w3 := by
        rw [hw3]; exact ((Below.refl _ _).alloc (by simp) _).alloc (by simp) _
      refine (hk2.cell (p := ⟨w.heap.size, j, none⟩) (by show w.heap.size < _; omega)).trans ?_
      rw [cell_of_new]; exact hu
    exact ⟨hk 0 _ rfl, hk 1 _ rfl, hk 2 _ rfl, hk 3 _ rfl⟩)
  have HBD := Lib.hid hb
  go_enter Tryd.func58, Tryd.ntmps58
  go_wp2_with fail
  rw [← hw3, ← hb]
  clear hw3 hb
  go_loopw [4] (fun i wr => ∃ (k : Nat) (i0 : Int), k ≤ 8 ∧ i = .int .i64 i0 ∧ i0 = (k : Int) ∧ Hid (SecAt w3 b (leB p.gen k ++ List.replicate (128 - k) 0) wr)) (fun i _ => 8 - (intOf i).toNat)
  case atStart => exact ⟨0, 0, by omega, rfl, rfl, S0⟩
  case round =>
    obtain ⟨k, i0, hk, rfl, hi0, HS⟩ := hrel
    by_cases hk8 : k < 8
    · subst hi0
      obtain ⟨p0, p1, p2, p3⟩ := HP.out wr HS.out.grown
      obtain ⟨⟨u, hu⟩, hf⟩ := HS.out.free k (by omega)
      have HV := Lib.hid (leB_val p.gen k)
      have HSC := Lib.hid (leB_succ p.gen k)
      have k0 : (0 : Int) ≤ k := by omega
      have k1 : (k : Int) < 128 := by omega
      go_wp2
      go_roundw
      case rel =>
        refine ⟨k + 1, _, by omega, rfl, by omega, Lib.hid ?_⟩
        have := HS.out
        rw [show 128 - k = (128 - (k + 1)) + 1 by omega] at this
        have := this.one _ _ HV.out
        rw [leB_length, ← HSC.out] at this
        exact this
      case measure => simp [intOf]; omega
    · obtain rfl : k = 8 := by omega
      obtain rfl : i0 = 8 := by omega
      clear hi0
      have HBW := Lib.hid (show ∀ W, w3.grownBy W (some b) → Below w.heap.size w W from fun W hW => HB3.out.grown hW (by have := HS3.out; omega) (fun q e => by injection e with e; have := HBD.out; omega))
      go_wp2
      go_loopw [5] (fun i wr => ∃ (k : Nat) (i0 : Int), k ≤ 4 ∧ i = .int .i64 i0 ∧ i0 = (k : Int) ∧ Hid (SecAt w3 b (leB p.gen 8 ++ leB p.index k ++ List.replicate (120 - k) 0) wr)) (fun i _ => 4 - (intOf i).toNat)
      case atStart => exact ⟨0, 0, by omega, rfl, rfl, Lib.hid (by simpa [leB] using HS.out)⟩
      case round =>
        clear HS
        rename World => wr
        obtain ⟨k, i0, hk, rfl, hi0, HS⟩ := hrel
        by_cases hk4 : k < 4
        · subst hi0
          obtain ⟨p0, p1, p2, p3⟩ := HP.out wr HS.out.grown
          obtain ⟨⟨u, hu⟩, hf⟩ := HS.out.free (8 + k) (by omega)
          have HV := Lib.hid (leB_val p.index k)
          have HSC := Lib.hid (leB_succ p.index k)
          have k0 : (0 : Int) ≤ k := by omega
          have k1 : 8 + (k : Int) < 128 := by omega
          have k2 : (0 : Int) ≤ 8 + (k : Int) := by omega
          have k3 : (8 + (k : Int)).toNat = 8 + k := by omega
          go_wp2
          go_roundw
          case rel =>
            refine ⟨k + 1, _, by omega, rfl, by omega, Lib.hid ?_⟩
            have := HS.out
            rw [show 120 - k = (120 - (k + 1)) + 1 by omega] at this
            have := this.one _ _ HV.out
            rw [List.length_append, leB_length, leB_length, List.append_assoc (leB p.gen 8), ← HSC.out] at this
            exact this
          case measure => simp [intOf]; omega
        · obtain rfl : k = 4 := by omega
          obtain rfl : i0 = 4 := by omega
          clear hi0
          obtain ⟨p0, p1, p2, p3⟩ := HP.out wr HS.out.grown
          obtain ⟨⟨u12, hc12⟩, hf12⟩ := HS.out.free 12 (by omega)
          obtain ⟨⟨u13, hc13⟩, hf13⟩ := HS.out.free 13 (by omega)
          have hn0 : (0 : Int) ≤ n := by omega
          have hn1 : (n : Int) ≤ 100 := by have := HN.out; omega
          go_wp2_with fail
          go_region
          have S3 := Lib.hid (show SecAt w3 b (leB p.gen 8 ++ leB p.index 4 ++ [UInt8.ofNat n, p.marks] ++ List.replicate 114 0) ((wr.setCell ⟨b, 12, none⟩ (.int .u8 (n : Int))).setCell ⟨b, 13, none⟩ (.int .u8 p.marks.toNat)).drew by
            have := (HS.out.app [UInt8.ofNat n, p.marks] (by simp)).drew
            rw [List.length_append, leB_length, leB_length] at this
            have e : ((UInt8.ofNat n).toNat : Int) = n := by rw [UInt8.toNat_ofNat']; omega
            have e2 : wr.setCells b 12 (Lib.byteCells [UInt8.ofNat n, p.marks]) = (wr.setCell ⟨b, 12, none⟩ (.int .u8 (n : Int))).setCell ⟨b, 13, none⟩ (.int .u8 p.marks.toNat) := by
              rw [← e]; rfl
            rw [← e2]
            exact this)
          clear p0 p1 p2 p3 hc12 hc13 hf12 hf13
          obtain ⟨W3, hW3⟩ : ∃ W3, W3 = ((wr.setCell ⟨b, 12, none⟩ (.int .u8 (n : Int))).setCell ⟨b, 13, none⟩ (.int .u8 p.marks.toNat)).drew := ⟨_, rfl⟩
          rw [← hW3] at S3 ⊢
          clear hW3 HS
          obtain ⟨X, hX⟩ : ∃ X, X = leB p.gen 8 ++ leB p.index 4 ++ [UInt8.ofNat n, p.marks] := ⟨_, rfl⟩
          have hXl : X.length = 14 := by rw [hX]; simp [leB_length]
          rw [← hX] at S3
          have HX := Lib.hid hX
          have HXL := Lib.hid hXl
          clear hX hXl
          go_wp2
          go_loopw [6] (fun i wr => ∃ (k : Nat) (i0 : Int), k ≤ n ∧ i = .int .i64 i0 ∧ i0 = (k : Int) ∧ Hid (SecAt w3 b (X ++ p.data.take k ++ List.replicate (114 - k) 0) wr)) (fun i _ => n - (intOf i).toNat)
          case atStart => exact ⟨0, 0, by omega, rfl, rfl, Lib.hid (by simpa using S3.out)⟩
          case round =>
            clear S3
            rename World => wr
            obtain ⟨k, i0, hk, rfl, hi0, HS⟩ := hrel
            obtain ⟨p0, p1, p2, p3⟩ := HP.out wr HS.out.grown
            by_cases hkn : k < n
            · subst hi0
              obtain ⟨⟨u, hu⟩, hf⟩ := HS.out.free (14 + k) (by omega)
              obtain ⟨g, og, rfl, hg, hx⟩ := row_at HR.out (by omega)
              have hkl : k < p.data.length := by have := HN.out; omega
              have hcd : wr.cell? ⟨g, og + k, none⟩ = some (.int .u8 (p.data[k]).toNat) := by
                have h1 := range_below hx (HBW.out wr HS.out.grown) hg
                exact h1 k _ (by rw [Lib.byteCells, List.getElem?_map, List.getElem?_eq_getElem hkl]; rfl)
              have HTK := Lib.hid (List.take_succ_eq_append_getElem hkl)
              have hnc : (n : Int) ≤ c := by have := HR.out.2.1; omega
              generalize p.data[k] = x at *
              have k0 : (0 : Int) ≤ k := by omega
              have k1 : 14 + (k : Int) < 128 := by omega
              have k2 : (0 : Int) ≤ 14 + (k : Int) := by omega
              have k3 : (14 + (k : Int)).toNat = 14 + k := by omega
              have hd : decide ((k : Int) < (n : Int)) = true := by simp; omega
              clear hx
              go_wp2
              go_roundw
              case rel =>
                refine ⟨k + 1, _, by omega, rfl, by omega, Lib.hid ?_⟩
                have := HS.out
                rw [show 114 - k = (114 - (k + 1)) + 1 by omega] at this
                have := this.one x x.toNat rfl
                rw [List.length_append, HXL.out, List.length_take, Nat.min_eq_left (by omega), List.append_assoc X, ← HTK.out] at this
                exact this
              case measure => simp [intOf]; omega
            · obtain rfl : k = n := by omega
              subst hi0
              have hd : decide ((k : Int) < (k : Int)) = false := by simp
              have S4 := Lib.hid (show SecAt w3 b (p.body ++ List.replicate 8 0) wr by
                have := HS.out
                rw [List.take_of_length_le (by have := HN.out; omega), HX.out] at this
                have e : p.body ++ List.replicate 8 0 = leB p.gen 8 ++ leB p.index 4 ++ [UInt8.ofNat k, p.marks] ++ p.data ++ List.replicate (114 - k) 0 := by
                  rw [p.body_eq (by omega), HN.out, List.append_assoc, List.replicate_append_replicate, show 106 - p.data.length + 8 = 114 - p.data.length by have := HN.out; omega]
                rw [e]
                exact this)
              clear HS
              have HL5 := Lib.hid (HL.out.below (HBW.out _ S4.out.grown) HL.out.size)
              go_wp2_with fail
              refine (rsum256_f _ p.body p.body_length (some ⟨b, 0, none⟩) 128 ⟨by rw [Lib.byteCells_length, p.body_length], by omega, by omega, (fun h => by cases h), fun x hx _ => by injection hx with hx; subst hx; exact ⟨rfl, S4.out.lt, range_pre S4.out.range⟩⟩ HL5.out).mono ?_
              rintro e W6 ⟨rfl, hb6⟩
              have S6 := Lib.hid (S4.out.below hb6)
              clear hb6 p0 p1 p2 p3 S4
              have HT6 := Lib.hid (there_new W6 (Lib.byteCells (List.replicate 32 0)) 129)
              have hst := store_b32 (w := W6.alloc (.cells (Lib.byteCells (List.replicate 32 0)).toArray 129)) (b := W6.heap.size) (o := 0) (Sha.sum_length p.body) (by have := HT6.out; rwa [Lib.byteCells_length, List.length_replicate] at this)
              obtain ⟨W7, hW7⟩ : ∃ W7, W7 = (W6.alloc (.cells (Lib.byteCells (List.replicate 32 0)).toArray 129)).setCells W6.heap.size 0 (Lib.byteCells (Sha.sum p.body)) := ⟨_, rfl⟩
              rw [← hW7] at hst
              have HB7 := Lib.hid (show Below W6.heap.size W6 W7 by rw [hW7]; exact below_setCells _ (Nat.le_refl _) _ _ _ ((Below.refl _ _).alloc (Nat.le_refl _) _))
              have HG7 := Lib.hid (show W7.rangeAt W6.heap.size 0 (Lib.byteCells (Sha.sum p.body)) by
                rw [hW7]; exact World.rangeAt_setCells_same _ _ _ _ (by have := HT6.out; rw [Lib.byteCells_length, List.length_replicate] at this; rw [Lib.byteCells_length, Sha.sum_length]; exact this))
              rw [zero32] at hst
              clear hW7
              have S7 := Lib.hid (S6.out.below HB7.out)
              have hb67 : b < W6.heap.size := S6.out.lt
              have h67 : W6.heap.size < W7.heap.size := range_lt HG7.out (by rw [Lib.byteCells_length, Sha.sum_length]; omega)
              go_wp2
              clear hst
              go_loopw [8] (fun i wr => ∃ (k : Nat) (i0 : Int), k ≤ 8 ∧ i = .int .i64 i0 ∧ i0 = (k : Int) ∧ Hid (SecAt w3 b (p.body ++ (Sha.sum p.body).take k ++ List.replicate (8 - k) 0) wr) ∧ Hid (W7.grownBy wr (some b))) (fun i _ => 8 - (intOf i).toNat)
              case atStart => exact ⟨0, 0, by omega, rfl, rfl, Lib.hid (by simpa using S7.out), Lib.hid (World.grownBy.refl _ _)⟩
              case round =>
                clear S6 S7
                rename World => wr
                obtain ⟨j, i0, hj, rfl, hi0, HS, HG⟩ := hrel
                by_cases hj8 : j < 8
                · subst hi0
                  obtain ⟨⟨u, hu⟩, hf⟩ := HS.out.free (120 + j) (by omega)
                  have hjl : j < (Sha.sum p.body).length := by rw [Sha.sum_length]; omega
                  have hcs : wr.cell? ⟨W6.heap.size, j, none⟩ = some (.int .u8 ((Sha.sum p.body)[j]).toNat) := by
                    refine (World.cell?_of_block (a := ⟨W6.heap.size, j, none⟩) (HG.out.block W6.heap.size h67 (by simp; omega))).trans ?_
                    have := HG7.out j _ (by rw [Lib.byteCells, List.getElem?_map, List.getElem?_eq_getElem hjl]; rfl)
                    rwa [Nat.zero_add] at this
                  have HTK := Lib.hid (List.take_succ_eq_append_getElem hjl)
                  generalize (Sha.sum p.body)[j] = x at *
                  have k0 : (0 : Int) ≤ j := by omega
                  have k1 : 120 + (j : Int) < 128 := by omega
                  have k2 : (0 : Int) ≤ 120 + (j : Int) := by omega
                  have k3 : (120 + (j : Int)).toNat = 120 + j := by omega
                  have k4 : (j : Int) < 32 := by omega
                  go_wp2
                  go_roundw
                  case rel =>
                    refine ⟨j + 1, _, by omega, rfl, by omega, Lib.hid ?_, Lib.hid (grown_set HG.out _ _)⟩
                    have := HS.out
                    rw [show 8 - j = (8 - (j + 1)) + 1 by omega] at this
                    have := this.one x x.toNat rfl
                    rw [List.length_append, p.body_length, List.length_take, Nat.min_eq_left (by omega), List.append_assoc p.body, ← HTK.out] at this
                    exact this
                  case measure => simp [intOf]; omega
                · obtain rfl : j = 8 := by omega
                  obtain rfl : i0 = 8 := by omega
                  clear hi0
                  have S8 := Lib.hid (show SecAt w3 b p.sec.1 wr by
                    have := HS.out
                    have e : p.body ++ (Sha.sum p.body).take 8 ++ List.replicate (8 - 8) 0 = p.sec.1 := by simp [Part.sec]
                    rw [e] at this
                    exact this)
                  have hld := load_secVar (show wr.rangeAt b 0 (secC p.sec) from S8.out.range)
                  have HTZ := Lib.hid (show wr.there (w.heap.size + 1) 0 128 from there_keepb HT2.out (S8.out.grown.block (w.heap.size + 1) (by have := HS3.out; omega) (by have := HBD.out; simp; omega)))
                  have hst := store_sec HTZ.out p.sec
                  have HFIN := Lib.hid (load_put HTZ.out p.sec)
                  have HB8 := Lib.hid (HBW.out _ S8.out.grown)
                  go_wp2_with fail
                  refine bodyPost_ret (ret_cell rfl rfl (secVar_run HFIN.out)) rfl ?_
                  exact ⟨rfl, below_putSec HB8.out (by omega) _ _⟩
end Go.Proofs.YtbhjigejpdbeiaaDoor
end
