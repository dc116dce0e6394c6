import Derived.Test.YtbhjigejpdbeiaaDoorLy
import Derived.Test.YtbhjigejpdbeiaaDoorKSd
import Derived.Test.YtbhjigejpdbeiaaDoorPc
import Derived.Test.YtbhjigejpdbeiaaDoorKDsk
set_option linter.unusedSimpArgs false
set_option linter.unusedVariables false

section
/-
  The program's lay: records in a half.
-/
namespace Go.Proofs.YtbhjigejpdbeiaaDoor
open Go.RowKit Go.Shelf
set_option linter.unusedVariables false
set_option maxRecDepth 8000

theorem far_one {b n c : Nat} {g i m : Int} {A : Option Addr} (h : ∀ x, A = some x → 0 < n → x.block ≠ b) : FarP b [partC g i m A n c] := by
  intro X hX g' i' m' B n' c' e x hx h0
  rw [List.mem_singleton] at hX
  subst hX
  unfold partC at e
  injection e with _ e; injection e with _ e; injection e with _ e; injection e with e _; injection e with q1 q2 q3
  subst q1; subst q2
  exact h x hx h0
set_option maxHeartbeats 2000000 in
theorem lay_f (w : World) (C0 : Array Value) (d : Dk) (h : Nat) (v : Value) (rs : List (List UInt8)) (hd : DiskAt w (.agg C0) d) (h4 : D4 C0) (hh : h ≤ 1) (hrt : d.right = true) (hdn : d.down = false)
    (hv : RecsAt w v rs) (hn : rs.length ≤ 2000) (hr : ∀ r ∈ rs, r.length ≤ 4096) (hL : Laid w) :
    Calls Tryd.prog 41 #[.agg C0, .int .i64 (h : Int), v] w fun e w' => LayPost (.agg C0) (d.lay h rs) w e w' := by
  obtain ⟨A, n, c, vs, rfl, hnl, hrow, hset⟩ := hv
  have hbd := Jp.bounds_of_right hrt
  have hz : D4 #[.slice none 0 0, .slice none 0 0, .int .i64 0, .bool false] := ⟨rfl, fun v hv => by
    simp only [List.mem_cons, List.not_mem_nil, or_false] at hv
    rcases hv with rfl | rfl | rfl | rfl <;> rfl⟩
  obtain ⟨w1, hw1⟩ : ∃ w1, w1 = ((w.alloc (.cells C0 25)).alloc (.cells #[.slice none 0 0, .slice none 0 0, .int .i64 0, .bool false] 25)).alloc (.cells #[.int .i64 0, .int .i64 0, .int .i64 0] 27) := ⟨_, rfl⟩
  obtain ⟨bb, hbb⟩ : ∃ bb, bb = w.heap.size := ⟨_, rfl⟩
  have HSHP := Lib.hid (show ∃ A n c A' n' c' f dn, C0 = #[.slice A n c, .slice A' n' c', .int .i64 f, .bool dn] by
    obtain ⟨A, n, c, A', n', c', e, _⟩ := hd
    injection e with e
    exact ⟨A, n, c, A', n', c', _, _, e⟩)
  have HN := Lib.hid hnl
  have HROW := Lib.hid hrow
  have HSET := Lib.hid hset
  have HW := Lib.hid hw1
  have HBB := Lib.hid hbb
  have HL := Lib.hid hL
  have H4 := Lib.hid h4
  have HD := Lib.hid hd
  have HSZ := Lib.hid hbd.2.1
  have HRT := Lib.hid hrt
  have HDN := Lib.hid hdn
  have HRL := Lib.hid hr
  have hn2 : n ≤ 2000 := by omega
  clear hd h4 hrow hset hr hL hw1 hbb hnl hn hbd hrt hdn
  have HB1 := Lib.hid (show Below bb w w1 by rw [HW.out, HBB.out]; exact (below_two _ _ _).alloc (by simp <;> omega) _)
  have HS1 := Lib.hid (show w1.heap.size = bb + 3 by rw [HW.out, HBB.out]; simp)
  have HL0 := Lib.hid (show 4 < bb by rw [HBB.out]; exact HL.out.size)
  have HBX := Lib.hid (show BoxAt w1 bb C0 d by
    have h1 := box_new HD.out H4.out
    rw [← HBB.out] at h1
    have h2 : Below (bb + 1) (w.alloc (.cells C0 25)) w1 := by
      rw [HW.out, HBB.out]
      exact ((Below.refl _ _).alloc (by simp) _).alloc (by simp) _
    exact h1.below (h2.mono (by simp [HBB.out])))
  have HTD := Lib.hid (show ∀ W, Below (bb + 3) w1 W → W.there (bb + 1) 0 4 ∧ W.there (bb + 2) 0 3 from fun W hW => by
    have h2 := there_disk (w.alloc (.cells C0 25)) hz
    have h3 := size_log3 ((w.alloc (.cells C0 25)).alloc (.cells #[.slice none 0 0, .slice none 0 0, .int .i64 0, .bool false] 25))
    rw [size_alloc, ← HBB.out] at h2
    rw [size_alloc, size_alloc, ← HBB.out, ← HW.out] at h3
    have h4 : w1.there (bb + 1) 0 4 := by
      rw [HW.out]
      exact there_below h2 ((Below.refl (bb + 2) _).alloc (by simp [HBB.out]) _) (by omega)
    exact ⟨there_below h4 hW (by omega), there_below h3 hW (by omega)⟩)
  have hl0 := HBX.out.load
  go_enter Tryd.func41, Tryd.ntmps41
  go_upto_region 1 with fail
  rw [← HW.out, ← HBB.out]
  go_wp2_with fail
  refine (generation_f w1 C0 d HBX.out.disk H4.out HRT.out HDN.out (HL.out.below HB1.out (by rw [HBB.out]; exact HL.out.size))).mono ?_
  rintro e w2 ⟨rfl, hb2⟩
  have HB2 := Lib.hid hb2
  have HBX2 := Lib.hid (HBX.out.below hb2)
  have HB02 := Lib.hid (HB1.out.trans (hb2.mono (by have := HS1.out; omega)))
  have HS2 := Lib.hid (show bb + 3 ≤ w2.heap.size by have := hb2.size; have := HS1.out; omega)
  have HTP := Lib.hid (topBounds d d.secs.length)
  obtain ⟨tp, htp⟩ : ∃ tp, tp = d.top := ⟨_, rfl⟩
  rw [← htp]
  have HTPE := Lib.hid htp
  clear hb2 hl0 htp
  by_cases ht : 1099511627776 ≤ tp
  case pos =>
    rw [if_pos ht, if_pos ht]
    have HRES := Lib.hid (show d.lay h rs = (d, .zero, 5) by rw [lay_is, ← HTPE.out, if_pos ht])
    clear ht
    have hl2 := HBX2.out.load
    obtain ⟨o1, o2, o3, o4, o5⟩ := out3 (w := w) (W := w2) (v0 := .agg C0) (bD := bb + 1) (bL := bb + 1 + 1) (C := C0) (x := d) .zero 5 (by rw [← HBB.out]; omega) (by omega) (by have := HS2.out; omega) (HTD.out w2 (HB2.out.mono (by have := HS1.out; omega))).1 (HTD.out w2 (HB2.out.mono (by have := HS1.out; omega))).2 H4.out HBX2.out.disk (HD.out.clear (by have := HBB.out; omega)) (HD.out.clear (by have := HBB.out; omega)) (fun b _ hb => hb) (by rw [← HBB.out]; exact HB02.out)
    have HO5 := Lib.hid o5
    have o2 : (logSet ⟨bb + 1 + 1, 0, none⟩ (.agg #[.int .i64 0, .int .i64 0, .int .i64 0])).run Tryd.prog (putDisk w2 (bb + 1) C0) = .ok () (putLog (putDisk w2 (bb + 1) C0) (bb + 1 + 1) .zero) := o2
    have HO3 := Lib.hid o3
    have HO4 := Lib.hid o4
    clear o5 o3 o4
    go_wp2_with fail
    refine bodyPost_ret (ret_cell_cell_tmp rfl rfl HO3.out rfl HO4.out) rfl ?_
    rw [LayPost, HRES.out]
    exact HO5.out
  rw [if_neg ht, if_neg ht]
  obtain ⟨gen, hgen⟩ : ∃ gen, gen = tp + 1 := ⟨_, rfl⟩
  rw [← hgen]
  have HRES0 := Lib.hid (show d.lay h rs = layR d h gen rs by rw [lay_is, ← HTPE.out, if_neg ht, hgen])
  clear ht hgen
  go_wp2_with fail
  go_loopw [11, 30] (fun v ix wr => LyRel 100 gen rs bb w2 v ix wr) (fun v ix wr => n - (intOf ix).toNat)
  case atStart => exact ⟨0, [], [], rfl, by omega, Lib.hid (by simp), Lib.hid (Below.refl _ _), Lib.hid (World.ownsRow_nil w2 w2.heap.size 100 4), Lib.hid (partSet_nil _ _), Lib.hid rfl⟩
  case round =>
    obtain ⟨k, cs, ps, rfl, hk, HPL, HBW, HO, HPS, HLP⟩ := hrel
    obtain ⟨Av, cv, rfl, hrowv, hlov⟩ := row_of_own HO.out
    have hkn : k ≤ n := by have := HN.out; omega
    have HLT := Lib.hid (Nat.le_trans HS2.out HBW.out.size)
    have HBL := Lib.hid (HB02.out.trans (HBW.out.mono (by have := HS2.out; omega)))
    clear hrowv hlov
    by_cases hlt : k < n
    case neg =>
      have hdn : decide (k < n) = false := by simp; omega
      obtain ⟨L, hPL⟩ : ∃ L, L = ps.length := ⟨_, rfl⟩
      have HPE := Lib.hid (show Dk.layP gen rs [] = ps by rw [HLP.out, List.drop_eq_nil_of_le (by have := HN.out; omega)]; rfl)
      have hL2 : L ≤ 82000 := by have := HPL.out; omega
      have HPLL := Lib.hid hPL
      rw [← hPL] at HO ⊢
      clear hlt hPL
      have HBXW := Lib.hid (HBX2.out.below HBW.out)
      have HLP2 := Lib.hid (show ∀ p ∈ ps, p.data.length ≤ 100 ∧ 0 ≤ p.index ∧ p.index ≤ 1000000 from fun p hp => by
        have h1 := HPE.out
        rw [← h1] at hp
        exact lay_fine (by rw [h1, ← HPLL.out]; omega) p hp)
      have hl0 := HBXW.out.load
      obtain ⟨A2, c2, e2, hrowv, hlov⟩ := row_of_own HO.out
      injection e2 with e21 e22 e23
      subst e21; subst e23
      have HRV := Lib.hid hrowv
      have HLOV := Lib.hid hlov
      clear hrowv hlov e22
      obtain ⟨S1, S2, S3, S4, S5, S6, S7, S8, rfl⟩ := HSHP.out
      go_upto_region 11 with fail
      obtain ⟨C0, hC0⟩ : ∃ C0 : Array Value, C0 = #[.slice S1 S2 S3, .slice S4 S5 S6, .int .i64 S7, .bool S8] := ⟨_, rfl⟩
      rw [← hC0] at H4 HD HBXW ⊢
      have hsn := side_new HBXW.out.disk H4.out h
      have e66 : (C0.toList ++ [Value.int .i64 (h : Int)]).toArray = #[.slice S1 S2 S3, .slice S4 S5 S6, .int .i64 S7, .bool S8, .int .i64 (h : Int)] := by rw [hC0]; rfl
      rw [e66] at hsn
      obtain ⟨w6, hw6⟩ : ∃ w6, w6 = wr.alloc (.cells #[.slice S1 S2 S3, .slice S4 S5 S6, .int .i64 S7, .bool S8, .int .i64 (h : Int)] 66) := ⟨_, rfl⟩
      obtain ⟨sb, hsb⟩ : ∃ sb, sb = wr.heap.size := ⟨_, rfl⟩
      rw [← hw6, ← hsb] at hsn ⊢
      have HSD6 := Lib.hid hsn
      have HBW6 := Lib.hid (show Below wr.heap.size wr w6 by rw [hw6]; exact (Below.refl _ _).alloc (Nat.le_refl _) _)
      have HS6 := Lib.hid (show w6.heap.size = sb + 1 by rw [hw6, hsb]; simp)
      have HSB := Lib.hid hsb
      have HB16 := Lib.hid (show Below (bb + 3) w1 w6 from ((HB2.out.mono (by have := HS1.out; omega)).trans (HBW.out.mono HS2.out)).trans (HBW6.out.mono HLT.out))
      have HB06 := Lib.hid (HB1.out.trans (HB16.out.mono (by omega)))
      have HLS := Lib.hid (show bb + 3 ≤ sb by rw [hsb]; exact HLT.out)
      have HCE := Lib.hid hC0
      clear hw6 hsb hsn e66 hC0 hl0
      go_wp2_with fail
      refine (swrite_f w6 sb C0 d h Av L cv cs ps HSD6.out (by have := HL0.out; have := HLS.out; omega) hh HSZ.out HPLL.out (by omega) (HRV.out.kept HBW6.out (Nat.le_refl _)) ((HPS.out.below HBW6.out (by have := HLT.out; omega)).up (by have := HS6.out; have := HLS.out; omega)) (fun x hx h0 => by
        have := (HRV.out.2.2.2.2 x hx h0).2.1
        have := HSB.out
        omega) (HPS.out.far (by have := HLS.out; omega)) HLP2.out (HL.out.below HB06.out (by rw [HBB.out]; exact HL.out.size))).mono ?_
      rintro e w7 ⟨C7, rfl, hsd7, hcl7, hg7⟩
      obtain ⟨X, er, hX⟩ : ∃ X er, d.puts h ps = (X, er) := ⟨_, _, rfl⟩
      rw [hX] at hsd7 ⊢
      have HX := Lib.hid hX
      have HSD7 := Lib.hid hsd7
      have HG7 := Lib.hid hg7
      have HB17 := Lib.hid (show Below (bb + 3) w1 w7 from HB16.out.grown hg7 (by have := HS6.out; have := HLS.out; omega) (fun q e => by injection e with e; have := HLS.out; omega))
      have HB07 := Lib.hid (HB1.out.trans (HB17.out.mono (by omega)))
      have HCD := Lib.hid (show ∀ b, b < sb → Clear b (.agg C0) → Clear b (.agg C7) from fun b hb hcl => hcl7 b (by have := HS6.out; omega) hcl)
      have HC0 := Lib.hid (show ∀ b, bb ≤ b → Clear b (.agg C0) from fun b hb => HD.out.clear (by have := HBB.out; omega))
      have HLT7 := Lib.hid (show sb + 1 ≤ w7.heap.size by have := hg7.size; have := HS6.out; omega)
      have HOUT := Lib.hid (fun l r => out3 (w := w) (W := w7) (v0 := .agg C0) (bD := bb + 1) (bL := bb + 1 + 1) (C := C7) (x := X) l r (by rw [← HBB.out]; omega) (by omega) (by have := HLT7.out; have := HLS.out; omega) (HTD.out w7 HB17.out).1 (HTD.out w7 HB17.out).2 hsd7.d4 hsd7.disk (HCD.out _ (by have := HLS.out; omega) (HC0.out _ (by omega))) (HCD.out _ (by have := HLS.out; omega) (HC0.out _ (by omega))) (fun b hb hcl => HCD.out b (by have := HLS.out; have := HBB.out; omega) hcl) (by rw [← HBB.out]; exact HB07.out))
      have hl7 := hsd7.load
      clear hsd7 hcl7 hg7 hX
      by_cases her : er = 0
      case neg =>
        have hne : (er != 0) = true := by rw [bne_iff_ne]; exact her
        have HRES := Lib.hid (show d.lay h rs = (X, .zero, er) by
          rw [HRES0.out, layR, HPE.out, HX.out]
          dsimp only
          rw [if_neg her])
        clear her
        obtain ⟨o1, o2, o3, o4, o5⟩ := HOUT.out .zero er
        have HO5 := Lib.hid o5
        have o2 : (logSet ⟨bb + 1 + 1, 0, none⟩ (.agg #[.int .i64 0, .int .i64 0, .int .i64 0])).run Tryd.prog (putDisk w7 (bb + 1) C7) = .ok () (putLog (putDisk w7 (bb + 1) C7) (bb + 1 + 1) .zero) := o2
        have HO3 := Lib.hid o3
        have HO4 := Lib.hid o4
        clear o5 o3 o4
        go_wp2_with fail
        refine bodyPost_ret (ret_cell_cell_tmp rfl rfl HO3.out rfl HO4.out) rfl ?_
        rw [LayPost, HRES.out, ← HCE.out]
        exact HO5.out
      subst her
      clear hl7
      obtain ⟨i0, hi0, hz0, hz1, hz2⟩ := info_parts infoU8
      go_wp2_with (at_make; refine wpList_make_full _ rfl _ _ 28 rfl w7.heap.size 5 i0 (.int .u8 0) 1 Tryd.underlying28 hi0 hz0 hz1 _ _ _ _ 4 rfl rfl rfl rfl (by rw [hz2]; omega) (by unfold maxLen; omega) (by simp) ?_)
      intro w8 k1 k2
      obtain ⟨b8, hb8⟩ : ∃ b8, b8 = w7.heap.size := ⟨_, rfl⟩
      have e0 : (madeCells #[Value.int .u8 0] 4).toList = List.replicate 4 (.int .u8 0) := made_rep 1 4 _ (by decide)
      rw [e0] at k1
      obtain ⟨g8, hg8, _, hgl8, hgr8, hgt8⟩ := own_there k1 (by omega)
      injection hg8 with hg8; injection hg8 with hg8; subst hg8
      rw [← hb8] at hgl8 hgr8 hgt8 ⊢
      have HB78 := Lib.hid (show Below w7.heap.size w7 w8 from (Below.refl _ _).grown k2 (Nat.le_refl _) (fun q e => by cases e))
      have HT8 := Lib.hid (show w8.there b8 0 4 from hgt8)
      have HB8 := Lib.hid hb8
      have HL8 := Lib.hid hgl8
      clear k1 k2 hb8 hi0 hz0 hz1 hz2 hgr8 hgt8 hgl8
      go_wp2_with fail
      refine (number_f w8 b8 0 4 4 (L : Int) (by omega) (by omega) HT8.out).mono ?_
      rintro e w9 ⟨rfl, hw9⟩
      have HB89 := Lib.hid (show Below w7.heap.size w8 w9 by rw [hw9]; exact below_setCells b8 (by have := HB8.out; omega) _ 0 w8 (Below.refl _ _))
      have HR9 := Lib.hid (show w9.rangeAt b8 0 (Lib.byteCells (leB (L : Int) 4)) by rw [hw9]; exact World.rangeAt_setCells_same w8 b8 0 _ (by rw [Lib.byteCells_length, leB_length]; exact HT8.out))
      have HS9 := Lib.hid (show w9.heap.size = w8.heap.size by rw [hw9, size_setCells])
      have HB79 := Lib.hid (show Below w7.heap.size w7 w9 from HB78.out.trans HB89.out)
      clear hw9
      have hcv := Joins.run_convert_bytes_const_at (P := Tryd.prog) w9 28 5 #[.int .u8 108, .int .u8 111, .int .u8 103] 3 3 w9.heap.size rfl Tryd.underlying28 Tryd.underlying5
      obtain ⟨i0, hi0, hz0, hz1, hz2⟩ := info_parts infoU8
      have HOLD := Lib.hid (show ∀ j u, ([Value.int .u8 108, .int .u8 111, .int .u8 103] : List Value)[j]? = some u → (w9.alloc (.cells #[.int .u8 108, .int .u8 111, .int .u8 103] 5 (3, 4))).cell? ⟨w9.heap.size, 0 + j, none⟩ = some u from fun j u hj => by
        rw [Nat.zero_add, World.cell?_alloc_mark]
        simpa using hj)
      have HNEW := Lib.hid (show ∀ j u, (Lib.byteCells (leB (L : Int) 4))[j]? = some u → (w9.alloc (.cells #[.int .u8 108, .int .u8 111, .int .u8 103] 5 (3, 4))).cell? ⟨b8, 0 + j, none⟩ = some u from fun j u hj => by
        have hlt : b8 < w9.heap.size := by rw [HS9.out]; exact HL8.out
        rw [((Below.refl w9.heap.size w9).alloc (Nat.le_refl _) _).cell (p := ⟨b8, 0 + j, none⟩) hlt]
        exact HR9.out j u hj)
      go_wp2_with (at_builtin; refine wpList_append_grows _ rfl (.tmp 66) (.tmp 67) 28 rfl 5 i0 (.int .u8 0) 1 1 Tryd.underlying28 hi0 hz0 hz1 hz2 rfl (by decide) (some ⟨w9.heap.size, 0, none⟩) 3 3 [.int .u8 108, .int .u8 111, .int .u8 103] rfl (fun q => by cases q) rfl (fun b hb j u hj => by injection hb with hb; subst hb; rw [add_none]; exact HOLD.out j u hj) ⟨b8, 0, none⟩ 4 4 (Lib.byteCells (leB (L : Int) 4)) rfl (by rw [Lib.byteCells_length, leB_length]) (fun j u hj => by rw [add_none]; exact HNEW.out j u hj) (bytes_one _) (by omega) (by unfold maxLen; omega) (by omega) ?_)
      intro v11 w11 k1 k2
      have k1 : w11.ownsRow (w9.heap.size + 1) 5 1 v11 7 (Lib.byteCells (Dk.head gen L).data) := by
        have hdat : Lib.byteCells (Dk.head gen L).data = Value.int .u8 108 :: .int .u8 111 :: .int .u8 103 :: Lib.byteCells (leB (L : Int) 4) := rfl
        rw [hdat]
        simpa using k1
      obtain ⟨A11, c11, rfl, hrow11, hlo11⟩ := row_of_own k1
      have HR11 := Lib.hid hrow11
      have HLO11 := Lib.hid hlo11
      have HB711 := Lib.hid (show Below w7.heap.size w7 w11 from (HB79.out.alloc HB79.out.size (.cells #[.int .u8 108, .int .u8 111, .int .u8 103] 5 (3, 4))).grown k2 (by have := HB79.out.size; simp; omega) (fun q e => by cases e))
      clear hcv hi0 hz0 hz1 hz2 HOLD HNEW k1 k2 hrow11 hlo11
      go_wp2_with fail
      obtain ⟨w12, hw12⟩ : ∃ w12, w12 = w11.alloc (.cells #[.int .i64 gen, .int .i64 0, .int .u8 3, .slice A11 7 c11] 100) := ⟨_, rfl⟩
      have HB1112 := Lib.hid (show Below w11.heap.size w11 w12 by rw [hw12]; exact (Below.refl _ _).alloc (Nat.le_refl _) _)
      have HR12 := Lib.hid (part_row w11 gen 0 3 A11 7 c11 100)
      have HS12 := Lib.hid (show w12.heap.size = w11.heap.size + 1 by rw [hw12]; simp)
      rw [← hw12] at HR12 ⊢
      clear hw12
      have HB712 := Lib.hid (HB711.out.trans (HB1112.out.mono HB711.out.size))
      have HB012 := Lib.hid (HB07.out.trans (HB712.out.mono (by have := HLT7.out; have := HLS.out; omega)))
      have HP12 := Lib.hid (show PartSet w12 w12.heap.size [partC gen 0 3 A11 7 c11] [Dk.head gen L] from partSet_one (p := Dk.head gen L) (by simp [Dk.head, leB_length]) (HR11.out.kept HB1112.out (Nat.le_refl _)) (fun x hx h0 => by
        have := (HR11.out.2.2.2.2 x hx h0).2.1
        have := HS12.out
        omega))
      have HXL := Lib.hid (show X.secs.length ≤ 2048 by
        have := puts_len h ps d
        rw [HX.out] at this
        rw [this]; exact HSZ.out)
      have HSD12 := Lib.hid (HSD7.out.below HB712.out)
      have HB9S := Lib.hid HB79.out.size
      have HB11S := Lib.hid HB711.out.size
      refine (swrite_f w12 sb C7 X h (some ⟨w11.heap.size, 0, none⟩) 1 1 [partC gen 0 3 A11 7 c11] [Dk.head gen L] HSD12.out (by have := HL0.out; have := HLS.out; omega) hh HXL.out rfl (by omega) HR12.out HP12.out (fun x hx _ => by
        injection hx with hx
        rw [← hx]
        have := HLT7.out; have := HB11S.out
        show w11.heap.size ≠ sb
        omega) (far_one (fun x hx _ => by
        have := HLO11.out x hx
        have := HB9S.out; have := HLT7.out
        omega)) (fun p hp => by
        rw [List.mem_singleton] at hp
        subst hp
        exact ⟨by simp [Dk.head, leB_length], Int.le_refl _, by show (0 : Int) ≤ 1000000; omega⟩) (HL.out.below HB012.out (by rw [HBB.out]; exact HL.out.size))).mono ?_
      rintro e w13 ⟨C13, rfl, hsd13, hcl13, hg13⟩
      obtain ⟨Y, er, hY⟩ : ∃ Y er, X.puts h [Dk.head gen L] = (Y, er) := ⟨_, _, rfl⟩
      rw [hY] at hsd13 ⊢
      have HY := Lib.hid hY
      have HB113 := Lib.hid (show Below (bb + 3) w1 w13 from (HB17.out.trans (HB712.out.mono (by have := HLT7.out; have := HLS.out; omega))).grown hg13 (by have := HS12.out; have := HB11S.out; have := HLT7.out; have := HLS.out; omega) (fun q e => by injection e with e; have := HLS.out; omega))
      have HB013 := Lib.hid (HB1.out.trans (HB113.out.mono (by omega)))
      have HLT13 := Lib.hid (show sb + 1 ≤ w12.heap.size ∧ sb + 1 ≤ w13.heap.size by have := hg13.size; have := HS12.out; have := HB11S.out; have := HLT7.out; omega)
      have HCD13 := Lib.hid (show ∀ b, b < sb → Clear b (.agg C0) → Clear b (.agg C13) from fun b hb hcl => hcl13 b (by have := HLT13.out; omega) (HCD.out b hb hcl))
      have HOUT2 := Lib.hid (fun l r => out3 (w := w) (W := w13) (v0 := .agg C0) (bD := bb + 1) (bL := bb + 1 + 1) (C := C13) (x := Y) l r (by rw [← HBB.out]; omega) (by omega) (by have := HLT13.out; have := HLS.out; omega) (HTD.out w13 HB113.out).1 (HTD.out w13 HB113.out).2 hsd13.d4 hsd13.disk (HCD13.out _ (by have := HLS.out; omega) (HC0.out _ (by omega))) (HCD13.out _ (by have := HLS.out; omega) (HC0.out _ (by omega))) (fun b hb hcl => HCD13.out b (by have := HLS.out; have := HBB.out; omega) hcl) (by rw [← HBB.out]; exact HB013.out))
      have HRES := Lib.hid (show d.lay h rs = if er = 0 then (Y, ⟨h, gen, ((1 + L : Nat) : Int)⟩, 0) else (Y, .zero, er) by
        rw [HRES0.out, layR, HPE.out, HX.out]
        dsimp only
        rw [if_pos rfl, ← HPLL.out, HY.out])
      have hl13 := hsd13.load
      clear hsd13 hcl13 hg13 hY HOUT
      by_cases her : er = 0
      case neg =>
        have hne : (er != 0) = true := by rw [bne_iff_ne]; exact her
        have HR2 := Lib.hid (HRES.out.trans (if_neg her))
        clear her
        obtain ⟨o1, o2, o3, o4, o5⟩ := HOUT2.out .zero er
        have HO5 := Lib.hid o5
        have o2 : (logSet ⟨bb + 1 + 1, 0, none⟩ (.agg #[.int .i64 0, .int .i64 0, .int .i64 0])).run Tryd.prog (putDisk w13 (bb + 1) C13) = .ok () (putLog (putDisk w13 (bb + 1) C13) (bb + 1 + 1) .zero) := o2
        have HO3 := Lib.hid o3
        have HO4 := Lib.hid o4
        clear o5 o3 o4
        go_wp2_with fail
        refine bodyPost_ret (ret_cell_cell_tmp rfl rfl HO3.out rfl HO4.out) rfl ?_
        rw [LayPost, HR2.out, ← HCE.out]
        exact HO5.out
      subst her
      have HR2 := Lib.hid (HRES.out.trans (if_pos rfl))
      obtain ⟨o1, o2, o3, o4, o5⟩ := HOUT2.out ⟨h, gen, ((1 + L : Nat) : Int)⟩ 0
      have HO5 := Lib.hid o5
      have hs1 : IntKind.i64.wrap (1 + (L : Int)) = 1 + (L : Int) := IntWalk.i64_in _ (by omega)
      have hcast : ((1 + L : Nat) : Int) = 1 + (L : Int) := by omega
      rw [hcast] at o2 o3 o4
      have HCAST := Lib.hid hcast
      have o2 : (logSet ⟨bb + 1 + 1, 0, none⟩ (.agg #[.int .i64 (h : Int), .int .i64 gen, .int .i64 (1 + (L : Int))])).run Tryd.prog (putDisk w13 (bb + 1) C13) = .ok () (putLog (putDisk w13 (bb + 1) C13) (bb + 1 + 1) ⟨h, gen, 1 + (L : Int)⟩) := o2
      have HO3 := Lib.hid o3
      have HO4 := Lib.hid o4
      clear o5 o3 o4 hcast
      go_wp2_with fail
      refine bodyPost_ret (ret_cell_cell_tmp rfl rfl HO3.out rfl HO4.out) rfl ?_
      rw [LayPost, HR2.out, ← HCE.out]
      have := HO5.out
      rw [HCAST.out] at this ⊢
      exact this
    have hdn : decide (k < n) = true := by simp; omega
    have hkl : k < rs.length := by have := HN.out; omega
    obtain ⟨r, hr⟩ : ∃ r, r = rs[k] := ⟨_, rfl⟩
    have HRK := Lib.hid (show rs[k]? = some r by rw [hr]; exact List.getElem?_eq_getElem hkl)
    have HDR := Lib.hid (show rs.drop k = r :: rs.drop (k + 1) by rw [hr]; exact List.drop_eq_getElem_cons hkl)
    have HR4 := Lib.hid (HRL.out r (by rw [hr]; exact List.getElem_mem hkl))
    clear hr
    obtain ⟨B, m, kk, hck, hm, hrowB, _⟩ := HSET.out.row k r HRK.out
    have HM := Lib.hid hm
    have HRB := Lib.hid hrowB
    obtain ⟨b, o, rfl, hb, hX⟩ := row_at HROW.out (by omega)
    have hc0 : wr.cell? ⟨b, o + k, none⟩ = some (.slice B m kk) := by
      have := range_below hX HBL.out (by rw [HBB.out]; exact hb)
      exact this k _ hck
    clear hck hm hrowB hb hX
    obtain ⟨L, hPL⟩ : ∃ L, L = ps.length := ⟨_, rfl⟩
    have HPLL := Lib.hid hPL
    have hL2 : L ≤ 82000 := by have := HPL.out; omega
    rw [← hPL] at HO
    rw [← hPL]
    clear hPL
    have hs1 : IntKind.i64.wrap (1 + (L : Int)) = 1 + (L : Int) := IntWalk.i64_in _ (by omega)
    have HPARTS := Lib.hid (show Calls Tryd.prog 35 #[.slice B m kk, .int .i64 gen, .int .i64 (1 + (L : Int))] wr fun e w' => PartsPost 100 r gen (1 + L) bb wr e w' by
      have := parts_f wr B m kk r gen (1 + L) bb HM.out (HRB.out.below HBL.out (fun y hy h0 => by rw [HBB.out]; exact (HRB.out.2.2.2.2 y hy h0).2.1)) (by rw [HM.out]; exact HR4.out) (by omega) (fun y hy h0 => by rw [HBB.out]; exact (HRB.out.2.2.2.2 y hy h0).2.1) (by have := HLT.out; omega)
      exact this)
    have HSZ41 := Lib.hid (lay_count HR4.out)
    go_wp2_with fail
    refine HPARTS.out.mono ?_
    rintro e w3 ⟨v3, cs3, rfl, hown3, hps3, hb3⟩
    obtain ⟨A3, c3, rfl, hrow3, hlo3⟩ := row_of_own hown3
    have HB3 := Lib.hid (below_chain HBW.out hb3)
    have HROW3 := Lib.hid hrow3
    have HPS3 := Lib.hid hps3
    have HO3 := Lib.hid (own_below HO.out hb3 (Nat.le_refl _))
    have HPS0 := Lib.hid (HPS.out.below hb3 (by have := HLT.out; omega))
    have HONE := Lib.hid hps3.cellsOne
    have HOL := Lib.hid (own_lt HO.out)
    have hz41 := HSZ41.out
    obtain ⟨z, hz⟩ : ∃ z, z = sizeN r.length := ⟨_, rfl⟩
    rw [← hz] at HROW3 hz41 HSZ41
    rw [← hz]
    have HZ := Lib.hid hz
    clear hown3 hrow3 hlo3 hps3 hb3 hz
    go_wp2_with (at_builtin; refine append_row rfl (.tmp 34) (.tmp 40) 70 100 rfl Tryd.underlying70 w2.heap.size _ 4 48 infopart rfl (by decide) _ _ _ rfl HO3.out A3 z c3 cs3.flatten rfl HROW3.out HONE.out (by omega) (by decide) HB3.out.size ?_)
    intro v4 w4 k1 k2
    have HO4 := Lib.hid k1
    have HG4 := Lib.hid k2
    have HB4 := Lib.hid (HB3.out.grown k2 (by have := HB3.out.size; omega) (fun q e => (HOL.out q e).1))
    clear k1 k2
    go_wp2_with fail
    go_roundw
    case rel =>
      refine ⟨k + 1, cs ++ cs3, ps ++ Dk.parts r gen ((1 + L : Nat) : Int), rfl, by omega, Lib.hid ?_, HB4, Lib.hid ?_, Lib.hid ?_, Lib.hid ?_⟩
      · rw [List.length_append, Dk.parts_length, ← HPLL.out, ← HZ.out]; have := HPL.out; have := HPLL.out; omega
      · rw [List.length_append, Dk.parts_length, ← HPLL.out, ← HZ.out, List.flatten_append]; exact HO4.out
      · refine (HPS0.out.app HPS3.out).keep HG4.out.size (fun q hq hq2 => HG4.out.block q hq (fun e => ?_))
        have := (HOL.out q e.symm).1
        have := HS2.out
        omega
      · rw [HLP.out, HDR.out, Dk.layP, HPLL.out]
    case measure => simp [intOf]; omega
end Go.Proofs.YtbhjigejpdbeiaaDoor
end

section
/-
  What comes back of the journal's functions; Format of both sides.
-/
namespace Go.Proofs.YtbhjigejpdbeiaaDoor
open Go.RowKit Go.Shelf
set_option linter.unusedVariables false
set_option maxRecDepth 8000

/-- Where a disk and a log come back. -/
structure RetAt (w W : World) (bD bL : Nat) : Prop where
  base : w.heap.size ≤ bD
  ne : bD < bL
  lt : bL < W.heap.size
  tD : W.there bD 0 4
  tL : W.there bL 0 3
  below : Below w.heap.size w W
theorem RetAt.on {w W W' : World} {bD bL B : Nat} (k : RetAt w W bD bL) (hb : Below B W W') (hB : bL < B) : RetAt w W' bD bL :=
  ⟨k.base, k.ne, Nat.lt_of_lt_of_le k.lt hb.size, there_below k.tD hb (Nat.lt_trans k.ne hB), there_below k.tL hb hB, k.below.trans (hb.mono (by have := k.base; have := k.ne; omega))⟩
/-- A disk that may come back. -/
structure Dv (w W : World) (v0 : Value) (bD bL : Nat) (C : Array Value) (x : Dk) : Prop where
  d4 : D4 C
  disk : DiskAt W (.agg C) x
  cD : Clear bD (.agg C)
  cL : Clear bL (.agg C)
  got : ∀ b, b < w.heap.size → Clear b v0 → Clear b (.agg C)
theorem Dv.on {w W W' : World} {v0 : Value} {bD bL B : Nat} {C : Array Value} {x : Dk} (k : Dv w W v0 bD bL C x) (hb : Below B W W') (hB : W.heap.size ≤ B) : Dv w W' v0 bD bL C x :=
  ⟨k.d4, k.disk.kept hb hB, k.cD, k.cL, k.got⟩
/-- A disk that a call answered. -/
theorem Dv.step {w W W' : World} {v0 : Value} {bD bL : Nat} {C C' : Array Value} {x y : Dk} (k : Dv w W v0 bD bL C x) (r : RetAt w W bD bL) (g : DiskGot (.agg C) y W (.agg C') W') (h4 : D4 C') : Dv w W' v0 bD bL C' y :=
  ⟨h4, g.1, g.2 _ (Nat.lt_trans r.ne r.lt) k.cD, g.2 _ r.lt k.cL, fun b hb hc => g.2 b (Nat.lt_of_lt_of_le hb r.below.size) (k.got b hb hc)⟩
theorem dv_first {w : World} {C : Array Value} {d : Dk} (h4 : D4 C) (hd : DiskAt w (.agg C) d) {W : World} {bD bL : Nat} (r : RetAt w W bD bL) : Dv w W (.agg C) bD bL C d :=
  ⟨h4, hd.kept r.below (Nat.le_refl _), hd.clear r.base, hd.clear (Nat.le_trans r.base (Nat.le_of_lt r.ne)), fun _ _ h => h⟩
theorem Dv.out {w W : World} {v0 : Value} {bD bL : Nat} {C : Array Value} {x : Dk} (g : Dv w W v0 bD bL C x) (k : RetAt w W bD bL) (l : Dk.Log) (r : Int) :
    (diskSet ⟨bD, 0, none⟩ (.agg C)).run Tryd.prog W = .ok () (putDisk W bD C) ∧ (logSet ⟨bL, 0, none⟩ (logV l)).run Tryd.prog (putDisk W bD C) = .ok () (putLog (putDisk W bD C) bL l) ∧
    (loadVar 25 ⟨bD, 0, none⟩).run Tryd.prog (putLog (putDisk W bD C) bL l) = .ok (.agg C) (putLog (putDisk W bD C) bL l) ∧ (loadVar 27 ⟨bL, 0, none⟩).run Tryd.prog (putLog (putDisk W bD C) bL l) = .ok (logV l) (putLog (putDisk W bD C) bL l) ∧
    DiskOut3 v0 x l r w (.returned (.tuple #[.agg C, logV l, .int .i64 r])) (putLog (putDisk W bD C) bL l) :=
  out3 l r k.base k.ne k.lt k.tD k.tL g.d4 g.disk g.cD g.cL g.got k.below
theorem zeroD4 : D4 #[.slice none 0 0, .slice none 0 0, .int .i64 0, .bool false] := ⟨rfl, fun v hv => by
  simp only [List.mem_cons, List.not_mem_nil, or_false] at hv
  rcases hv with rfl | rfl | rfl | rfl <;> rfl⟩
/-- Three new variables: a disk's box, and where a disk and a log come back. -/
theorem ret_three_new (w : World) {C : Array Value} (h4 : D4 C) {d : Dk} (hd : DiskAt w (.agg C) d) {W : World} (hW : W = ((w.alloc (.cells C 25)).alloc (.cells #[.slice none 0 0, .slice none 0 0, .int .i64 0, .bool false] 25)).alloc (.cells #[.int .i64 0, .int .i64 0, .int .i64 0] 27)) :
    RetAt w W (w.heap.size + 1) (w.heap.size + 1 + 1) ∧ BoxAt W w.heap.size C d ∧ W.there w.heap.size 0 4 ∧ W.heap.size = w.heap.size + 3 := by
  have h1 := there_disk w h4
  have h2 := there_disk (w.alloc (.cells C 25)) zeroD4
  have h3 := size_log3 ((w.alloc (.cells C 25)).alloc (.cells #[.slice none 0 0, .slice none 0 0, .int .i64 0, .bool false] 25))
  rw [size_alloc] at h2
  rw [size_alloc, size_alloc, ← hW] at h3
  have hb : Below (w.heap.size + 1) (w.alloc (.cells C 25)) W := by
    rw [hW]
    exact ((Below.refl _ _).alloc (by simp) _).alloc (by simp) _
  have hb2 : Below (w.heap.size + 2) ((w.alloc (.cells C 25)).alloc (.cells #[.slice none 0 0, .slice none 0 0, .int .i64 0, .bool false] 25)) W := by
    rw [hW]
    exact (Below.refl _ _).alloc (by simp) _
  have hs : W.heap.size = w.heap.size + 3 := by rw [hW]; simp
  have hbw : Below w.heap.size w W := ((Below.refl _ _).alloc (Nat.le_refl _) _).trans (hb.mono (by omega))
  refine ⟨⟨by omega, by omega, by omega, there_below h2 hb2 (by omega), h3, hbw⟩, (box_new hd h4).below (hb.mono (by simp)), there_below h1 hb (by omega), hs⟩
set_option maxHeartbeats 1000000 in
theorem format_f (w : World) (v : Value) (d : Dk) (hd : DiskAt w v d) (hL : Laid w) :
    Calls Tryd.prog 13 #[v] w fun e w' => DiskOut3 v d.format.1 d.format.2.1 d.format.2.2 w e w' := by
  obtain ⟨C, rfl, h4⟩ := hd.agg
  obtain ⟨w1, hw1⟩ : ∃ w1, w1 = ((w.alloc (.cells C 25)).alloc (.cells #[.slice none 0 0, .slice none 0 0, .int .i64 0, .bool false] 25)).alloc (.cells #[.int .i64 0, .int .i64 0, .int .i64 0] 27) := ⟨_, rfl⟩
  obtain ⟨hret, hbox, hth, hs1⟩ := ret_three_new w h4 hd hw1
  have HRET := Lib.hid hret
  have HBOX := Lib.hid hbox
  have HDV := Lib.hid (dv_first h4 hd hret)
  have H4 := Lib.hid h4
  have HL := Lib.hid hL
  have HW := Lib.hid hw1
  have HS1 := Lib.hid hs1
  obtain ⟨bb, hbb⟩ : ∃ bb, bb = w.heap.size := ⟨_, rfl⟩
  have HBB := Lib.hid hbb
  rw [← hbb] at HRET HBOX HDV HS1
  clear hd h4 hL hw1 hret hbox hth hs1 hbb
  have hl0 := HBOX.out.load
  go_enter Tryd.func13, Tryd.ntmps13
  go_upto_region 1 with fail
  rw [← HW.out, ← HBB.out]
  go_wp2_with fail
  refine (able_f w1 C d HBOX.out.disk H4.out).mono ?_
  rintro e w2 ⟨rfl, hb2⟩
  have HB2 := Lib.hid hb2
  have HRET2 := Lib.hid (HRET.out.on hb2 HRET.out.lt)
  have HDV2 := Lib.hid (HDV.out.on hb2 (Nat.le_refl _))
  have HBOX2 := Lib.hid (HBOX.out.below hb2)
  have hl2 := HBOX2.out.load
  obtain ⟨ab, hab⟩ : ∃ ab, ab = d.able := ⟨_, rfl⟩
  rw [← hab]
  have HAB := Lib.hid hab
  clear hb2 hl0 hab
  by_cases h0 : ab = 0
  case neg =>
    have hne : (ab != 0) = true := by rw [bne_iff_ne]; exact h0
    have HRES := Lib.hid (show d.format = (d, .zero, ab) by rw [Dk.format, if_neg (by rw [← HAB.out]; exact h0), HAB.out])
    clear h0
    obtain ⟨o1, o2, o3, o4, o5⟩ := HDV2.out.out HRET2.out .zero ab
    have o2 : (logSet ⟨bb + 1 + 1, 0, none⟩ (.agg #[.int .i64 0, .int .i64 0, .int .i64 0])).run Tryd.prog (putDisk w2 (bb + 1) C) = .ok () (putLog (putDisk w2 (bb + 1) C) (bb + 1 + 1) .zero) := o2
    have HO3 := Lib.hid o3
    have HO4 := Lib.hid o4
    have HO5 := Lib.hid o5
    clear o5 o3 o4
    go_wp2_with fail
    refine bodyPost_ret (ret_cell_cell_tmp rfl rfl HO3.out rfl HO4.out) rfl ?_
    rw [HRES.out]
    exact HO5.out
  subst h0
  have HUP := Lib.hid (able_up HAB.out.symm)
  go_wp2_with fail
  refine (lay_f w2 C d 0 (.slice none 0 0) [] HBOX2.out.disk H4.out (by omega) HUP.out.1 HUP.out.2.1 (recs_nil w2) (by simp) (fun r hr => by cases hr) (HL.out.below (HRET2.out.below) HL.out.size)).mono ?_
  rintro e w3 ⟨⟨u, rfl, hg⟩, hb3⟩
  obtain ⟨C3, rfl, hc3⟩ := hg.1.agg
  have HRES := Lib.hid (show d.format = d.lay 0 [] by rw [Dk.format, if_pos HAB.out.symm])
  obtain ⟨X, l, er, hX⟩ : ∃ X l er, d.lay 0 [] = (X, l, er) := ⟨_, _, _, rfl⟩
  rw [hX] at hg ⊢
  have HX := Lib.hid hX
  have HDV3 := Lib.hid (HDV2.out.step HRET2.out hg hc3)
  have HRET3 := Lib.hid (HRET2.out.on hb3 HRET2.out.lt)
  clear hg hb3 hX hl2
  obtain ⟨o1, o2, o3, o4, o5⟩ := HDV3.out.out HRET3.out l er
  have HO3 := Lib.hid o3
  have HO4 := Lib.hid o4
  have HO5 := Lib.hid o5
  clear o5 o3 o4
  go_wp2_with fail
  refine bodyPost_ret (ret_cell_cell_tmp rfl rfl HO3.out rfl HO4.out) rfl ?_
  rw [HRES.out, HX.out]
  exact HO5.out
theorem able_ref (d : Dk) : d.able = if ableB d then (if d.down then 9 else 0) else 1 := by
  unfold Dk.able
  by_cases h : d.secs.length < 8 ∨ d.right = false
  · have hb : ableB d = false := by
      unfold ableB
      rcases h with h | h
      · have : decide (8 ≤ d.secs.length) = false := by simp; omega
        rw [this, Bool.and_false]
      · rw [h]; rfl
    rw [if_pos h, hb]; rfl
  · have hb : ableB d = true := by
      unfold ableB
      have h1 : d.right = true := by
        cases hr : d.right
        · exact absurd (.inr hr) h
        · rfl
      have h2 : ¬ d.secs.length < 8 := fun a => h (.inl a)
      have : decide (8 ≤ d.secs.length) = true := by simp; omega
      rw [this, h1]; rfl
    rw [if_neg h, hb]; rfl
theorem BoxAt.on {w w' : World} {b B : Nat} {C : Array Value} {d : Dk} (h : BoxAt w b C d) (hb : Below B w w') (hB : b < B) {w0 : World} (hd : DiskAt w0 (.agg C) d) (h0 : Below w0.heap.size w0 w') : BoxAt w' b C d :=
  ⟨h.var.below hb hB, hd.kept h0 (Nat.le_refl _)⟩
set_option maxHeartbeats 1000000 in
theorem rformat_f (w : World) (v : Value) (d : Dk) (hd : DiskAt w v d) (hL : LaidR w) :
    Calls Tryd.prog 14 #[v] w fun e w' => DiskOut3 v d.format.1 d.format.2.1 d.format.2.2 w e w' := by
  obtain ⟨C, rfl, h4⟩ := hd.agg
  obtain ⟨w1, hw1⟩ : ∃ w1, w1 = ((w.alloc (.cells C 25)).alloc (.cells #[.slice none 0 0, .slice none 0 0, .int .i64 0, .bool false] 25)).alloc (.cells #[.int .i64 0, .int .i64 0, .int .i64 0] 27) := ⟨_, rfl⟩
  obtain ⟨hret, hbox, hth, hs1⟩ := ret_three_new w h4 hd hw1
  have HRET := Lib.hid hret
  have HBOX := Lib.hid hbox
  have HDV := Lib.hid (dv_first h4 hd hret)
  have H4 := Lib.hid h4
  have HD := Lib.hid hd
  have HL := Lib.hid hL
  have HW := Lib.hid hw1
  have HS1 := Lib.hid hs1
  obtain ⟨bb, hbb⟩ : ∃ bb, bb = w.heap.size := ⟨_, rfl⟩
  have HBB := Lib.hid hbb
  rw [← hbb] at HRET HBOX HDV HS1
  clear hd h4 hL hw1 hret hbox hth hs1 hbb
  have hl0 := HBOX.out.load
  have HAR := Lib.hid (able_ref d)
  go_enter Tryd.func14, Tryd.ntmps14
  go_upto_region 1 with fail
  rw [← HW.out, ← HBB.out]
  go_wp2_with fail
  refine (rable_f w1 C d HBOX.out.disk H4.out).mono ?_
  rintro e w2 ⟨rfl, hb2⟩
  have HB2 := Lib.hid hb2
  have HRET2 := Lib.hid (HRET.out.on hb2 HRET.out.lt)
  have HDV2 := Lib.hid (HDV.out.on hb2 (Nat.le_refl _))
  have HBOX2 := Lib.hid (HBOX.out.below hb2)
  have HBAD := Lib.hid (show ∀ e, d.able = e → e ≠ 0 → d.format = (d, .zero, e) from fun e he h0 => by rw [Dk.format, if_neg (by rw [he]; exact h0), he])
  have hl2 := HBOX2.out.load
  obtain ⟨A2, c2, c0, c3⟩ := HBOX2.out.cells
  clear hb2 hl0 c0
  have HABL := Lib.hid (show ableB d = true → d.right = true from fun q => by
    rw [ableB, Bool.and_eq_true] at q
    exact q.1)
  have HZ := Lib.hid (fun e => HDV2.out.out HRET2.out .zero e)
  generalize ableB d = ab at *
  cases ab
  case false =>
    have HRES := Lib.hid (HBAD.out 1 HAR.out (by decide))
    obtain ⟨o1, o2, o3, o4, o5⟩ := HZ.out 1
    have o2 : (logSet ⟨bb + 1 + 1, 0, none⟩ (.agg #[.int .i64 0, .int .i64 0, .int .i64 0])).run Tryd.prog (putDisk w2 (bb + 1) C) = .ok () (putLog (putDisk w2 (bb + 1) C) (bb + 1 + 1) .zero) := o2
    have HO3 := Lib.hid o3
    have HO4 := Lib.hid o4
    have HO5 := Lib.hid o5
    clear o5 o3 o4
    go_wp2_with fail
    refine bodyPost_ret (ret_cell_cell_tmp rfl rfl HO3.out rfl HO4.out) rfl ?_
    rw [HRES.out]
    exact HO5.out
  generalize hdn : d.down = dn at *
  cases dn
  case true =>
    have HRES := Lib.hid (HBAD.out 9 HAR.out (by decide))
    obtain ⟨o1, o2, o3, o4, o5⟩ := HZ.out 9
    have o2 : (logSet ⟨bb + 1 + 1, 0, none⟩ (.agg #[.int .i64 0, .int .i64 0, .int .i64 0])).run Tryd.prog (putDisk w2 (bb + 1) C) = .ok () (putLog (putDisk w2 (bb + 1) C) (bb + 1 + 1) .zero) := o2
    have HO3 := Lib.hid o3
    have HO4 := Lib.hid o4
    have HO5 := Lib.hid o5
    clear o5 o3 o4
    go_wp2_with fail
    refine bodyPost_ret (ret_cell_cell_tmp rfl rfl HO3.out rfl HO4.out) rfl ?_
    rw [HRES.out]
    exact HO5.out
  have HDN := Lib.hid hdn
  have HRT := Lib.hid (HABL.out rfl)
  have HAB0 := Lib.hid (show d.able = 0 from HAR.out)
  clear hdn
  have HNEXT := Lib.hid (show ∀ W, Below (bb + 1) w2 W → Calls Tryd.prog 42 #[.agg C] W fun e w' => e = .returned (.int .i64 (d.top + 1)) ∧ Below (bb + 1) w2 w' ∧ Below W.heap.size W w' from fun W hW =>
    (rnext_f W C d (HD.out.kept (HRET2.out.below.trans (hW.mono (by rw [HBB.out]; omega))) (Nat.le_refl _)) H4.out HRT.out HDN.out (HL.out.below (HRET2.out.below.trans (hW.mono (by rw [HBB.out]; omega))) HL.out.size)).mono fun _ _ ⟨h1, h2⟩ => ⟨h1, hW.trans (h2.mono (by have := hW.size; have := HRET2.out.lt; omega)), h2⟩)
  obtain ⟨tp, htp⟩ : ∃ tp, tp = d.top := ⟨_, rfl⟩
  rw [← htp] at HNEXT
  have HTP := Lib.hid htp
  have HTB := Lib.hid (topBounds d d.secs.length)
  clear htp
  go_wp2_with fail
  refine (HNEXT.out w2 (Below.refl _ _)).mono ?_
  rintro e w3 ⟨rfl, hb3, hx3⟩
  have HB3 := Lib.hid hb3
  have HRET3 := Lib.hid (HRET2.out.on hx3 HRET2.out.lt)
  have HDV3 := Lib.hid (HDV2.out.on hx3 (Nat.le_refl _))
  have HBOX3 := Lib.hid (HBOX2.out.below hx3)
  have hl3 := HBOX3.out.load
  clear hb3 hx3 hl2 c3
  by_cases ht : 1099511627776 ≤ tp
  case pos =>
    have hd5 : decide (1099511627776 < tp + 1) = true := by simp; omega
    have HRES := Lib.hid (show d.format = (d, .zero, 5) by rw [Dk.format, if_pos HAB0.out, Dk.lay, if_pos (by rw [← HTP.out]; exact ht)])
    clear ht
    obtain ⟨o1, o2, o3, o4, o5⟩ := HDV3.out.out HRET3.out .zero 5
    have o2 : (logSet ⟨bb + 1 + 1, 0, none⟩ (.agg #[.int .i64 0, .int .i64 0, .int .i64 0])).run Tryd.prog (putDisk w3 (bb + 1) C) = .ok () (putLog (putDisk w3 (bb + 1) C) (bb + 1 + 1) .zero) := o2
    have HO3 := Lib.hid o3
    have HO4 := Lib.hid o4
    have HO5 := Lib.hid o5
    clear o5 o3 o4
    go_wp2_with fail
    refine bodyPost_ret (ret_cell_cell_tmp rfl rfl HO3.out rfl HO4.out) rfl ?_
    rw [HRES.out]
    exact HO5.out
  have hd5 : decide (1099511627776 < tp + 1) = false := by simp; omega
  have HRES := Lib.hid (show d.format = layR d 0 (tp + 1) [] by rw [Dk.format, if_pos HAB0.out, lay_is, if_neg (by rw [← HTP.out]; exact ht), HTP.out])
  clear ht
  obtain ⟨X, l, er, hX⟩ : ∃ X l er, layR d 0 (tp + 1) [] = (X, l, er) := ⟨_, _, _, rfl⟩
  have HX := Lib.hid hX
  clear hX
  have HLAY := Lib.hid (show ∀ W, Below (bb + 1) w3 W → RetAt w W (bb + 1) (bb + 1 + 1) → Calls Tryd.prog 43 #[.agg C, .int .i64 0, .int .i64 (tp + 1), .slice none 0 0] W fun e w' => ∃ C2, e = .returned (.tuple #[.agg C2, logV l, .int .i64 er]) ∧ Below (bb + 1) w3 w' ∧ RetAt w w' (bb + 1) (bb + 1 + 1) ∧ Dv w w' (.agg C) (bb + 1) (bb + 1 + 1) C2 X from fun W hW hR =>
    (rlay_f W C d 0 (tp + 1) (.slice none 0 0) [] (HD.out.kept hR.below (Nat.le_refl _)) H4.out (by omega) (Jp.bounds_of_right HRT.out).2.1 (recs_nil W) (by simp) (fun r hr => by cases hr) (HL.out.below hR.below HL.out.size)).mono fun e w' ⟨⟨u, h1, hg⟩, hb⟩ => by
      rw [HX.out] at h1 hg
      obtain ⟨C2, rfl, hc2⟩ := hg.1.agg
      exact ⟨C2, h1, hW.trans (hb.mono (by have := hR.lt; omega)), hR.on hb hR.lt, (dv_first H4.out HD.out hR).step hR hg hc2⟩)
  have HK := Lib.hid (show ∀ W, Below (bb + 1) w3 W → (diskVar ⟨bb, 0, none⟩).run Tryd.prog W = .ok (.agg C) W from fun W hW => (HBOX3.out.var.below hW (by omega)).load)
  have hb0 : Below (bb + 1) w3 w3.drew := (Below.refl _ _).drew
  clear hl3
  go_wp2_with fail
  have hr0 : RetAt w w3.drew (bb + 1) (bb + 1 + 1) := HRET3.out.on (Below.refl w3.heap.size w3).drew HRET3.out.lt
  have HNEXT3 := Lib.hid (show ∀ W, Below (bb + 1) w3 W → RetAt w W (bb + 1) (bb + 1 + 1) → Calls Tryd.prog 42 #[.agg C] W fun e w' => e = .returned (.int .i64 (tp + 1)) ∧ Below (bb + 1) w3 w' ∧ RetAt w w' (bb + 1) (bb + 1 + 1) from fun W hW hR =>
    (HNEXT.out W (HB3.out.trans hW)).mono fun _ _ ⟨h1, h2, h3⟩ => ⟨h1, hW.trans (h3.mono (by have := hR.lt; omega)), hR.on h3 hR.lt⟩)
  go_region_held3 (fun W => (diskVar ⟨bb, 0, none⟩).run Tryd.prog W = .ok (.agg C) W) (first | exact HK.out _ (by assumption) | exact HK.out _ (below_putDisk (by assumption) (Nat.le_refl _) _) | exact HK.out _ (below_putLog (below_putDisk (by assumption) (Nat.le_refl _) _) (Nat.le_succ _) _))
    (first
      | (go_at_call 42
         (with_reducible refine (HNEXT3.out _ ?_ ?_).mono ?_)
         · assumption
         · assumption
         rintro e wa ⟨rfl, hba, hra⟩)
      | (go_at_call 43
         (with_reducible refine (HLAY.out _ ?_ ?_).mono ?_)
         · assumption
         · assumption
         rintro e wc ⟨C2, rfl, hbc, hrc, hdc⟩
         obtain ⟨o1, o2, o3, o4, o5⟩ := hdc.out hrc l er
         have HO3 := Lib.hid o3
         have HO4 := Lib.hid o4
         have HO5 := Lib.hid o5
         clear o5 o3 o4))
  all_goals go_wp2_with fail
  all_goals
    refine bodyPost_ret (ret_cell_cell_tmp rfl rfl HO3.out rfl HO4.out) rfl ?_
    rw [HRES.out, HX.out]
    exact HO5.out
end Go.Proofs.YtbhjigejpdbeiaaDoor
end

section
/-
  Append, of the program.
-/
namespace Go.Proofs.YtbhjigejpdbeiaaDoor
open Go.RowKit Go.Shelf
set_option linter.unusedVariables false
set_option maxRecDepth 8000

/-- A log's variable. -/
structure LogAt (w : World) (b : Nat) (l : Dk.Log) : Prop where
  range : w.rangeAt b 0 (logC l)
  there : w.there b 0 3
theorem LogAt.lt {w : World} {b : Nat} {l : Dk.Log} (h : LogAt w b l) : b < w.heap.size := range_lt h.range (by simp [logC])
theorem LogAt.on {w w' : World} {b B : Nat} {l : Dk.Log} (h : LogAt w b l) (hb : Below B w w') (hB : b < B) : LogAt w' b l := ⟨range_below h.range hb hB, there_below h.there hb hB⟩
theorem LogAt.load {w : World} {b : Nat} {l : Dk.Log} (h : LogAt w b l) : (logVar ⟨b, 0, none⟩).run Tryd.prog w = .ok (logV l) w := load_log h.range
theorem LogAt.cells {w : World} {b : Nat} {l : Dk.Log} (h : LogAt w b l) : w.cell? ⟨b, 0, none⟩ = some (.int .i64 l.half) ∧ w.cell? ⟨b, 1, none⟩ = some (.int .i64 l.gen) ∧ w.cell? ⟨b, 2, none⟩ = some (.int .i64 l.used) := by
  have hk : ∀ j u, (logC l)[j]? = some u → w.cell? ⟨b, j, none⟩ = some u := fun j u hu => by have := h.range j u hu; rwa [Nat.zero_add] at this
  exact ⟨hk 0 _ rfl, hk 1 _ rfl, hk 2 _ rfl⟩
theorem LogAt.keepb {w w' : World} {b : Nat} {l : Dk.Log} (h : LogAt w b l) (hk : w'.heap[b]? = w.heap[b]?) : LogAt w' b l := ⟨range_keepb h.range hk, there_keepb h.there hk⟩
theorem logAt_put {w : World} {b : Nat} (h : w.there b 0 3) (l : Dk.Log) : LogAt (putLog w b l) b l := ⟨range_putLog h l, World.there_setCells h _ _ _⟩
theorem logAt_new (w : World) (l : Dk.Log) : LogAt (w.alloc (.cells #[.int .i64 l.half, .int .i64 l.gen, .int .i64 l.used] 27)) w.heap.size l := ⟨range_new w (logC l) 27, there_new w (logC l) 27⟩
/-- Four new variables: a disk's box, a log's box, and where a disk and a log come back. -/
theorem ret_four_new (w : World) {C : Array Value} (h4 : D4 C) {d : Dk} (hd : DiskAt w (.agg C) d) (l : Dk.Log) {W : World}
    (hW : W = (((w.alloc (.cells C 25)).alloc (.cells #[.int .i64 l.half, .int .i64 l.gen, .int .i64 l.used] 27)).alloc (.cells #[.slice none 0 0, .slice none 0 0, .int .i64 0, .bool false] 25)).alloc (.cells #[.int .i64 0, .int .i64 0, .int .i64 0] 27)) :
    RetAt w W (w.heap.size + 1 + 1) (w.heap.size + 1 + 1 + 1) ∧ BoxAt W w.heap.size C d ∧ W.there w.heap.size 0 4 ∧ LogAt W (w.heap.size + 1) l ∧ W.heap.size = w.heap.size + 4 := by
  have h1 := there_disk w h4
  have hl := logAt_new (w.alloc (.cells C 25)) l
  have h2 := there_disk ((w.alloc (.cells C 25)).alloc (.cells #[.int .i64 l.half, .int .i64 l.gen, .int .i64 l.used] 27)) zeroD4
  have h3 := size_log3 (((w.alloc (.cells C 25)).alloc (.cells #[.int .i64 l.half, .int .i64 l.gen, .int .i64 l.used] 27)).alloc (.cells #[.slice none 0 0, .slice none 0 0, .int .i64 0, .bool false] 25))
  rw [size_alloc] at hl
  rw [size_alloc, size_alloc] at h2
  rw [size_alloc, size_alloc, size_alloc, ← hW] at h3
  have hb : Below (w.heap.size + 1) (w.alloc (.cells C 25)) W := by
    rw [hW]
    exact (((Below.refl _ _).alloc (by simp) _).alloc (by simp) _).alloc (by simp) _
  have hbl : Below (w.heap.size + 2) ((w.alloc (.cells C 25)).alloc (.cells #[.int .i64 l.half, .int .i64 l.gen, .int .i64 l.used] 27)) W := by
    rw [hW]
    exact ((Below.refl _ _).alloc (by simp) _).alloc (by simp) _
  have hb2 : Below (w.heap.size + 3) (((w.alloc (.cells C 25)).alloc (.cells #[.int .i64 l.half, .int .i64 l.gen, .int .i64 l.used] 27)).alloc (.cells #[.slice none 0 0, .slice none 0 0, .int .i64 0, .bool false] 25)) W := by
    rw [hW]
    exact (Below.refl _ _).alloc (by simp) _
  have hs : W.heap.size = w.heap.size + 4 := by rw [hW]; simp
  have hbw : Below w.heap.size w W := ((Below.refl _ _).alloc (Nat.le_refl _) _).trans (hb.mono (by omega))
  refine ⟨⟨by omega, by omega, by omega, there_below h2 hb2 (by omega), h3, hbw⟩, (box_new hd h4).below (hb.mono (by simp)), there_below h1 hb (by omega), hl.on hbl (by omega), hs⟩
/-- A region that loads a disk and a log, and stores both where they come back. -/
def RetS (a b : Nat) (C : Array Value) (l : Dk.Log) (W : World) : Prop := (diskVar ⟨a, 0, none⟩).run Tryd.prog W = .ok (.agg C) W ∧ (logVar ⟨b, 0, none⟩).run Tryd.prog W = .ok (logV l) W
theorem ret_region {w W : World} {v0 : Value} {bD bL a b : Nat} {C : Array Value} {x : Dk} {l : Dk.Log} (g : Dv w W v0 bD bL C x) (k : RetAt w W bD bL) (hv : DVar W a C) (hl : LogAt W b l) (ha : a ≠ bD ∧ a ≠ bL) (hb : b ≠ bD ∧ b ≠ bL) (r : Int) :
    ((diskVar ⟨a, 0, none⟩).run Tryd.prog W.drew = .ok (.agg C) W.drew ∧ (logVar ⟨b, 0, none⟩).run Tryd.prog W.drew = .ok (logV l) W.drew) ∧
    ((diskVar ⟨a, 0, none⟩).run Tryd.prog (putDisk W.drew bD C) = .ok (.agg C) (putDisk W.drew bD C) ∧ (logVar ⟨b, 0, none⟩).run Tryd.prog (putDisk W.drew bD C) = .ok (logV l) (putDisk W.drew bD C)) ∧
    ((diskVar ⟨a, 0, none⟩).run Tryd.prog (putLog (putDisk W.drew bD C) bL l) = .ok (.agg C) (putLog (putDisk W.drew bD C) bL l) ∧ (logVar ⟨b, 0, none⟩).run Tryd.prog (putLog (putDisk W.drew bD C) bL l) = .ok (logV l) (putLog (putDisk W.drew bD C) bL l)) ∧
    (diskSet ⟨bD, 0, none⟩ (.agg C)).run Tryd.prog W.drew = .ok () (putDisk W.drew bD C) ∧ (logSet ⟨bL, 0, none⟩ (logV l)).run Tryd.prog (putDisk W.drew bD C) = .ok () (putLog (putDisk W.drew bD C) bL l) ∧
    Hid ((loadVar 25 ⟨bD, 0, none⟩).run Tryd.prog (putLog (putDisk W.drew bD C) bL l) = .ok (.agg C) (putLog (putDisk W.drew bD C) bL l)) ∧ Hid ((loadVar 27 ⟨bL, 0, none⟩).run Tryd.prog (putLog (putDisk W.drew bD C) bL l) = .ok (logV l) (putLog (putDisk W.drew bD C) bL l)) ∧
    Hid (DiskOut3 v0 x l r w (.returned (.tuple #[.agg C, logV l, .int .i64 r])) (putLog (putDisk W.drew bD C) bL l)) := by
  have hb0 : Below W.heap.size W W.drew := (Below.refl _ _).drew
  have k' := k.on hb0 k.lt
  have g' := g.on hb0 (Nat.le_refl _)
  have hv0 : DVar W.drew a C := hv.below hb0 hv.lt
  have hl0 := hl.on hb0 hl.lt
  obtain ⟨o1, o2, o3, o4, o5⟩ := g'.out k' l r
  have hv1 : DVar (putDisk W.drew bD C) a C := hv0.keepb (by rw [size_putDisk]; exact Nat.le_refl _) (heap_putDisk _ _ _ _ ha.1)
  have hl1 : LogAt (putDisk W.drew bD C) b l := hl0.keepb (heap_putDisk _ _ _ _ hb.1)
  have hv2 : DVar (putLog (putDisk W.drew bD C) bL l) a C := hv1.keepb (by rw [size_putLog]; exact Nat.le_refl _) (heap_putLog _ _ _ _ ha.2)
  have hl2 : LogAt (putLog (putDisk W.drew bD C) bL l) b l := hl1.keepb (heap_putLog _ _ _ _ hb.2)
  exact ⟨⟨hv0.load, hl0.load⟩, ⟨hv1.load, hl1.load⟩, ⟨hv2.load, hl2.load⟩, o1, o2, Lib.hid o3, Lib.hid o4, Lib.hid o5⟩
theorem ready_zero {d : Dk} {l : Dk.Log} (h : d.ready l = 0) : d.able = 0 ∧ ∃ hf u : Nat, l.half = (hf : Int) ∧ l.used = (u : Int) ∧ hf ≤ 1 ∧ 1 ≤ u ∧ u ≤ d.half ∧ 1 ≤ l.gen ∧ l.gen ≤ 1099511627776 := by
  unfold Dk.ready at h
  by_cases ha : d.able = 0
  · rw [if_pos ha] at h
    cases hl : d.logged l with
    | false => rw [hl] at h; cases h
    | true =>
      simp only [Dk.logged, Bool.and_eq_true, decide_eq_true_eq] at hl
      exact ⟨ha, l.half.toNat, l.used.toNat, by omega, by omega, by omega, by omega, by omega, hl.1.1.1.2, hl.1.1.2⟩
  · rw [if_neg ha] at h; exact absurd h ha
theorem RetAt.grown {w W W' : World} {bD bL sb : Nat} (k : RetAt w W bD bL) (hg : W.grownBy W' (some sb)) (h1 : bD ≠ sb) (h2 : bL ≠ sb) (h3 : w.heap.size ≤ sb) : RetAt w W' bD bL :=
  ⟨k.base, k.ne, Nat.lt_of_lt_of_le k.lt hg.size, there_keepb k.tD (hg.block bD (Nat.lt_trans k.ne k.lt) (fun e => by injection e with e; omega)), there_keepb k.tL (hg.block bL k.lt (fun e => by injection e with e; omega)),
    k.below.grown hg (by have := k.below.size; omega) (fun q e => by injection e with e; omega)⟩
theorem parts_fine {r : List UInt8} {gen : Int} {u : Nat} (hu : u ≤ 2000) (hr : r.length ≤ 4096) : ∀ p ∈ Dk.parts r gen (u : Int), p.data.length ≤ 100 ∧ 0 ≤ p.index ∧ p.index ≤ 1000000 := fun p hp => by
  obtain ⟨j, hj⟩ := List.getElem?_of_mem hp
  obtain ⟨h1, h2⟩ := Jp.parts_at hj
  have := lay_count hr
  rw [h2]
  refine ⟨?_, ?_, ?_⟩
  · show ((r.drop (100 * j)).take 100).length ≤ 100
    rw [List.length_take]; omega
  · show (0 : Int) ≤ (u : Int) + (j : Int)
    omega
  · show (u : Int) + (j : Int) ≤ 1000000
    omega
theorem LogAt.setUsed {w : World} {b : Nat} {l : Dk.Log} (h : LogAt w b l) (x : Int) : LogAt ((w.setCell ⟨b, 2, none⟩ (.int .i64 x)).drew) b { l with used := x } := by
  have k := range_setCells h.range 2 [.int .i64 x] (by simp [logC])
  exact ⟨k, World.there_setCells h.there b 2 [.int .i64 x]⟩
theorem grown_cell (w : World) (b o : Nat) (v : Value) : w.grownBy ((w.setCell ⟨b, o, none⟩ v).drew) (some b) := by
  obtain ⟨e1, e2, e3⟩ := streams_setCells b [v] o w
  exact ⟨e1, e2, e3, Nat.le_of_eq (size_setCells b [v] o w).symm, fun q hq hr => heap_setCells b q (fun e => hr (by rw [e])) [v] o w⟩
theorem SideAt.dvar {w : World} {b : Nat} {C : Array Value} {d : Dk} {h : Nat} (s : SideAt w b C d h) : DVar w b C :=
  ⟨s.lt, s.d4.size, fun j v hv => s.range j v (by rw [List.getElem?_append_left (List.getElem?_eq_some_iff.1 hv).1]; exact hv)⟩
set_option maxHeartbeats 2000000 in
theorem append_f (w : World) (v : Value) (d : Dk) (l : Dk.Log) (A : Option Addr) (n c : Nat) (r : List UInt8) (hd : DiskAt w v d) (hL : Laid w) (hs : d.secs.length ≤ 1000000) (hn : n = r.length) (hn2 : n ≤ 1000000) (hr : RowOf w 1 A n c (Lib.byteCells r)) :
    Calls Tryd.prog 11 #[v, logV l, .slice A n c] w fun e w' => DiskOut3 v (d.append l r).1 (d.append l r).2.1 (d.append l r).2.2 w e w' := by
  have HSHP := Lib.hid (show ∃ A n c A' n' c' f dn, v = .agg #[.slice A n c, .slice A' n' c', .int .i64 f, .bool dn] by
    obtain ⟨A, n, c, A', n', c', e, _⟩ := hd
    exact ⟨A, n, c, A', n', c', _, _, e⟩)
  obtain ⟨C, rfl, h4⟩ := hd.agg
  obtain ⟨w1, hw1⟩ : ∃ w1, w1 = (((w.alloc (.cells C 25)).alloc (.cells #[.int .i64 l.half, .int .i64 l.gen, .int .i64 l.used] 27)).alloc (.cells #[.slice none 0 0, .slice none 0 0, .int .i64 0, .bool false] 25)).alloc (.cells #[.int .i64 0, .int .i64 0, .int .i64 0] 27) := ⟨_, rfl⟩
  obtain ⟨hret, hbox, hth, hlog, hs1⟩ := ret_four_new w h4 hd l hw1
  have HRET := Lib.hid hret
  have HBOX := Lib.hid hbox
  have HDV := Lib.hid (dv_first h4 hd hret)
  have HLOG := Lib.hid hlog
  have H4 := Lib.hid h4
  have HD := Lib.hid hd
  have HL := Lib.hid hL
  have HW := Lib.hid hw1
  have HS1 := Lib.hid hs1
  have HSEC := Lib.hid hs
  have HN := Lib.hid hn
  have HR := Lib.hid hr
  obtain ⟨bb, hbb⟩ : ∃ bb, bb = w.heap.size := ⟨_, rfl⟩
  have HBB := Lib.hid hbb
  rw [← hbb] at HRET HBOX HDV HS1 HLOG
  clear hd h4 hL hw1 hret hbox hth hlog hs1 hbb hs hn hr
  have HAPP := Lib.hid (show d.append l r = if d.ready l = 0 then
    (if 4096 < r.length then (d, l, 3)
     else if (d.half : Int) - l.used < sizeN r.length then (d, l, 10)
     else match d.puts l.half.toNat (Dk.parts r l.gen l.used) with
      | (x, e) => if e = 0 then (x, { l with used := l.used + sizeN r.length }, 0) else (x, l, e))
    else (d, l, d.ready l) from rfl)
  obtain ⟨S1, S2, S3, S4, S5, S6, S7, S8, hC⟩ := HSHP.out
  injection hC with hC
  have HCE := Lib.hid hC
  subst hC
  have hl0 := HBOX.out.load
  obtain ⟨g0, g1, g2⟩ := HLOG.out.cells
  go_enter Tryd.func11, Tryd.ntmps11
  go_upto_region 1 with fail
  rw [← HW.out, ← HBB.out]
  go_upto_region 2 with fail
  obtain ⟨C, hC⟩ : ∃ C : Array Value, C = #[.slice S1 S2 S3, .slice S4 S5 S6, .int .i64 S7, .bool S8] := ⟨_, rfl⟩
  rw [← hC] at HBOX H4 HD HDV ⊢
  obtain ⟨w2, hw2⟩ : ∃ w2, w2 = w1.alloc (.cells #[.slice S1 S2 S3, .slice S4 S5 S6, .int .i64 S7, .bool S8, .int .i64 l.half] 66) := ⟨_, rfl⟩
  obtain ⟨sb, hsb⟩ : ∃ sb, sb = w1.heap.size := ⟨_, rfl⟩
  rw [← hw2, ← hsb]
  have HB12 := Lib.hid (show Below w1.heap.size w1 w2 by rw [hw2]; exact (Below.refl _ _).alloc (Nat.le_refl _) _)
  have HSB := Lib.hid (show sb = bb + 4 by rw [hsb]; exact HS1.out)
  have HS2 := Lib.hid (show w2.heap.size = sb + 1 by rw [hw2, hsb]; simp)
  have HSIDE := Lib.hid (show ∀ h : Nat, l.half = (h : Int) → SideAt w2 sb C d h from fun h hh => by
    have := side_new HBOX.out.disk H4.out h
    have e : (C.toList ++ [Value.int .i64 (h : Int)]).toArray = #[.slice S1 S2 S3, .slice S4 S5 S6, .int .i64 S7, .bool S8, .int .i64 l.half] := by rw [hC, hh]; rfl
    rw [e, ← hw2, ← hsb] at this
    exact this)
  have HRET2 := Lib.hid (HRET.out.on HB12.out HRET.out.lt)
  have HDV2 := Lib.hid (HDV.out.on HB12.out (Nat.le_refl _))
  have HBOX2 := Lib.hid (HBOX.out.below HB12.out)
  have HLOG2 := Lib.hid (HLOG.out.on HB12.out HLOG.out.lt)
  have HC := Lib.hid hC
  clear hl0 g0 g1 g2 hC hw2 hsb
  have hl0 := HBOX2.out.load
  have hg0 := HLOG2.out.load
  go_wp2_with fail
  refine (ready_f w2 C d l HBOX2.out.disk H4.out HSEC.out).mono ?_
  rintro e w3 ⟨rfl, hb3⟩
  have HB3 := Lib.hid hb3
  have HRET3 := Lib.hid (HRET2.out.on hb3 HRET2.out.lt)
  have HDV3 := Lib.hid (HDV2.out.on hb3 (Nat.le_refl _))
  have HBOX3 := Lib.hid (HBOX2.out.below hb3)
  have HLOG3 := Lib.hid (HLOG2.out.on hb3 HLOG2.out.lt)
  have HSIDE3 := Lib.hid (show ∀ h : Nat, l.half = (h : Int) → SideAt w3 sb C d h from fun h hh => (HSIDE.out h hh).below hb3)
  have HRR := Lib.hid (fun e => ret_region HDV3.out HRET3.out HBOX3.out.var HLOG3.out (by omega) (by omega) e)
  obtain ⟨rd, hrd⟩ : ∃ rd, rd = d.ready l := ⟨_, rfl⟩
  rw [← hrd] at HAPP ⊢
  have HRD := Lib.hid hrd
  clear hb3 hl0 hg0 hrd
  by_cases h0 : rd = 0
  case neg =>
    have hne : (rd != 0) = true := by rw [bne_iff_ne]; exact h0
    have HRES := Lib.hid (HAPP.out.trans (if_neg h0))
    clear h0
    obtain ⟨p1, p2, p3, o1, o2, o3, o4, o5⟩ := HRR.out rd
    go_wp2_with fail
    go_region_held3 (fun W => (diskVar ⟨bb, 0, none⟩).run Tryd.prog W = .ok (.agg C) W ∧ (logVar ⟨bb + 1, 0, none⟩).run Tryd.prog W = .ok (logV l) W) (first | exact p1 | exact p2 | exact p3) (fail)
    all_goals go_wp2_with fail
    all_goals
      refine bodyPost_ret (ret_cell_cell_tmp rfl rfl o3.out rfl o4.out) rfl ?_
      rw [HRES.out, ← HC.out]
      exact o5.out
  subst h0
  rw [if_pos rfl] at HAPP
  obtain ⟨hab, hf, u, hlh, hlu, hf1, hu1, hu2, hg1, hg2⟩ := ready_zero HRD.out.symm
  have HUP := Lib.hid (able_up hab)
  have hhf : d.half = d.secs.length / 2 := rfl
  have HHF := Lib.hid (show d.half ≤ 1024 by have := HUP.out.2.2.2; omega)
  have HSD3 := Lib.hid (HSIDE3.out hf hlh)
  have HLH := Lib.hid hlh
  have HLU := Lib.hid hlu
  have HG := Lib.hid (And.intro hg1 hg2)
  have HU := Lib.hid (And.intro hu1 hu2)
  clear hab hlh hhf hg1 hg2
  by_cases hlong : 4096 < n
  case pos =>
    have hdl : decide (4096 < (n : Int)) = true := by simp; omega
    have HRES := Lib.hid (HAPP.out.trans (if_pos (by rw [← HN.out]; exact hlong)))
    clear hlong
    obtain ⟨p1, p2, p3, o1, o2, o3, o4, o5⟩ := HRR.out 3
    go_wp2_with fail
    go_region_held3 (fun W => (diskVar ⟨bb, 0, none⟩).run Tryd.prog W = .ok (.agg C) W ∧ (logVar ⟨bb + 1, 0, none⟩).run Tryd.prog W = .ok (logV l) W) (first | exact p1 | exact p2 | exact p3) (fail)
    all_goals go_wp2_with fail
    all_goals
      refine bodyPost_ret (ret_cell_cell_tmp rfl rfl o3.out rfl o4.out) rfl ?_
      rw [HRES.out, ← HC.out]
      exact o5.out
  have hdl : decide (4096 < (n : Int)) = false := by simp; omega
  have HAPP2 := Lib.hid (HAPP.out.trans (if_neg (by rw [← HN.out]; exact hlong)))
  have HSZ := Lib.hid (size_f w3 (n : Int) (by omega) (by omega))
  rw [jsize_cast] at HSZ
  have HSZW := Lib.hid (show ∀ W, Calls Tryd.prog 16 #[.int .i64 (n : Int)] W fun e w' => e = .returned (.int .i64 (sizeN n)) ∧ w' = W from fun W => by
    have := size_f W (n : Int) (by omega) (by omega)
    rwa [jsize_cast] at this)
  have HSSZ := Lib.hid (show ∀ W, Below w3.heap.size w3 W → Calls Tryd.prog 33 #[.pointer (some ⟨sb, 0, none⟩)] W fun e w' => e = .returned (.int .i64 (d.half : Int)) ∧ w' = W from fun W hW =>
    sideSize_f W sb C d hf (HSD3.out.below hW) (by have := HUP.out.2.2.2; omega))
  obtain ⟨z, hz⟩ : ∃ z, z = sizeN n := ⟨_, rfl⟩
  have hz41 : z ≤ 41 ∧ 1 ≤ z := by
    have := Jp.sizeN_pos (n := n) (by omega)
    omega
  have HZ := Lib.hid hz
  rw [← hz] at HSZ
  rw [← hz] at HSZW
  rw [← HN.out, ← hz] at HAPP2
  clear hz HAPP
  have HK := Lib.hid (show ∀ W, Below w3.heap.size w3 W → W.cell? ⟨bb + 1, 2, none⟩ = some (.int .i64 (u : Int)) from fun W hW => by
    have := ((HLOG3.out.on hW HLOG3.out.lt).cells).2.2
    rw [HLU.out] at this
    exact this)
  have hb0 : Below w3.heap.size w3 w3.drew := (Below.refl _ _).drew
  have hhm : d.half ≤ 1024 := HHF.out
  have hs1 : IntKind.i64.wrap ((d.half : Int) - (u : Int)) = (d.half : Int) - (u : Int) := IntWalk.i64_in _ (by have := HU.out; omega)
  obtain ⟨m, hm⟩ : ∃ m, m = d.half := ⟨_, rfl⟩
  rw [← hm] at hs1 HAPP2 HSSZ
  have HM := Lib.hid hm
  clear hm hhm hu2
  go_wp2_with fail
  go_region_held3 (fun W => W.cell? ⟨bb + 1, 2, none⟩ = some (.int .i64 (u : Int))) (exact HK.out _ (by assumption))
    (first
      | (go_at_call 16
         (with_reducible refine (HSZW.out _).mono ?_)
         rintro e wa ⟨rfl, rfl⟩)
      | (go_at_call 33
         (with_reducible refine (HSSZ.out _ ?_).mono ?_)
         · assumption
         rintro e wa ⟨rfl, rfl⟩))
  obtain ⟨w4, hw4⟩ : ∃ w4, w4 = w3.drew := ⟨_, rfl⟩
  rw [← hw4] at hb0 ⊢
  have HB4 := Lib.hid hb0
  have HRET4 := Lib.hid (HRET3.out.on hb0 HRET3.out.lt)
  have HDV4 := Lib.hid (HDV3.out.on hb0 (Nat.le_refl _))
  have HBOX4 := Lib.hid (HBOX3.out.below hb0)
  have HLOG4 := Lib.hid (HLOG3.out.on hb0 HLOG3.out.lt)
  have HSD4 := Lib.hid (HSD3.out.below hb0)
  rename_i hHeld
  clear hHeld hw4 hb0
  by_cases hfull : (m : Int) - (u : Int) < (z : Int)
  case pos =>
    have hdf : decide ((m : Int) - (u : Int) < (z : Int)) = true := decide_eq_true hfull
    have HRES := Lib.hid (HAPP2.out.trans (if_pos (by rw [HLU.out]; exact hfull)))
    clear hfull
    rw [hdf]
    obtain ⟨p1, p2, p3, o1, o2, o3, o4, o5⟩ := ret_region HDV4.out HRET4.out HBOX4.out.var HLOG4.out (by omega) (by omega) 10
    go_wp2_with fail
    go_region_held3 (fun W => (diskVar ⟨bb, 0, none⟩).run Tryd.prog W = .ok (.agg C) W ∧ (logVar ⟨bb + 1, 0, none⟩).run Tryd.prog W = .ok (logV l) W) (first | exact p1 | exact p2 | exact p3) (fail)
    all_goals go_wp2_with fail
    all_goals
      refine bodyPost_ret (ret_cell_cell_tmp rfl rfl o3.out rfl o4.out) rfl ?_
      rw [HRES.out, ← HC.out]
      exact o5.out
  have hdf : decide ((m : Int) - (u : Int) < (z : Int)) = false := decide_eq_false hfull
  have HAPP3 := Lib.hid (HAPP2.out.trans (if_neg (by rw [HLU.out]; exact hfull)))
  rw [hdf]
  have HFIT := Lib.hid hfull
  clear HAPP2 hfull
  obtain ⟨q0, q1, q2⟩ := HLOG4.out.cells
  rw [HLU.out] at q2
  obtain ⟨gen, hgen⟩ : ∃ gen, gen = l.gen := ⟨_, rfl⟩
  rw [← hgen] at q1
  have HGEN := Lib.hid hgen
  clear hgen
  have HPARTS := Lib.hid (parts_f w4 A n c r gen u bb HN.out (HR.out.kept HRET4.out.below (Nat.le_refl _)) (by omega) (by have := HU.out; have := HHF.out; have := HM.out; omega) (fun x hx h0 => by rw [HBB.out]; exact (HR.out.2.2.2.2 x hx h0).2.1) (by rw [HBB.out]; exact HRET4.out.below.size))
  go_wp2_with fail
  refine HPARTS.out.mono ?_
  rintro e w5 ⟨v5, cs5, rfl, hown5, hps5, hb5⟩
  obtain ⟨A5, c5, rfl, hrow5, hlo5⟩ := row_of_own hown5
  rw [← HN.out, ← HZ.out] at hrow5 ⊢
  have HROW5 := Lib.hid hrow5
  have HLO5 := Lib.hid hlo5
  have HPS5 := Lib.hid hps5
  have HB5 := Lib.hid hb5
  have HRET5 := Lib.hid (HRET4.out.on hb5 HRET4.out.lt)
  have HLOG5 := Lib.hid (HLOG4.out.on hb5 HLOG4.out.lt)
  have HSD5 := Lib.hid (HSD4.out.below hb5)
  have HS4 := Lib.hid (show sb < w4.heap.size from HSD4.out.lt)
  clear hown5 hrow5 hlo5 hps5 hb5 q0 q1 q2
  go_wp2_with fail
  refine (swrite_f w5 sb C d hf A5 z c5 cs5 (Dk.parts r gen (u : Int)) HSD5.out (by rw [HSB.out, HBB.out]; have := HL.out.size; omega) hf1 HUP.out.2.2.2 (by rw [Dk.parts_length, HZ.out, HN.out]) (by omega) HROW5.out (HPS5.out.up (by rw [HBB.out]; exact HRET5.out.below.size)) (fun x hx _ => by
    have := HLO5.out x hx
    have := HS4.out
    omega) (HPS5.out.far (by have := HSB.out; omega)) (parts_fine (by have := HU.out; have := HHF.out; have := HM.out; omega) (by rw [← HN.out]; omega)) (HL.out.below HRET5.out.below HL.out.size)).mono ?_
  rintro e w6 ⟨C6, rfl, hsd6, hcl6, hg6⟩
  obtain ⟨X, er, hX⟩ : ∃ X er, d.puts hf (Dk.parts r gen (u : Int)) = (X, er) := ⟨_, _, rfl⟩
  rw [hX] at hsd6 ⊢
  have HSD6 := Lib.hid hsd6
  have HRES0 := Lib.hid (show d.append l r = if er = 0 then (X, { l with used := l.used + (z : Int) }, 0) else (X, l, er) by
    have e1 : l.half.toNat = hf := by rw [HLH.out]; rfl
    rw [HAPP3.out, e1, ← HGEN.out, HLU.out, hX])
  have HRET6 := Lib.hid (HRET5.out.grown hg6 (by have := HSB.out; omega) (by have := HSB.out; omega) (by have := HSB.out; have := HBB.out; omega))
  have HLOG6 := Lib.hid (HLOG5.out.keepb (hg6.block (bb + 1) HLOG5.out.lt (fun e => by injection e with e; have := HSB.out; omega)))
  have HDV6 := Lib.hid (show Dv w w6 (.agg C) (bb + 1 + 1) (bb + 1 + 1 + 1) C6 X from
    ⟨hsd6.d4, hsd6.disk, hcl6 _ (by have := HRET5.out.lt; have := HRET5.out.ne; omega) HDV.out.cD, hcl6 _ HRET5.out.lt HDV.out.cL, fun b hb hc => hcl6 b (Nat.lt_of_lt_of_le hb HRET5.out.below.size) hc⟩)
  have HS6 := Lib.hid (show sb < w6.heap.size from hsd6.lt)
  have HCL6 := Lib.hid (show Clear (bb + 1) (.agg C6) from hcl6 _ HLOG5.out.lt (HD.out.clear (by rw [HBB.out]; omega)))
  clear hsd6 hcl6 hg6 hX HAPP3
  by_cases her : er = 0
  case neg =>
    have hne : (er != 0) = true := by rw [bne_iff_ne]; exact her
    have HRES := Lib.hid (HRES0.out.trans (if_neg her))
    clear her
    obtain ⟨p1, p2, p3, o1, o2, o3, o4, o5⟩ := ret_region HDV6.out HRET6.out HSD6.out.dvar HLOG6.out (by have := HSB.out; omega) (by omega) er
    go_wp2_with fail
    go_region_held3 (fun W => (diskVar ⟨sb, 0, none⟩).run Tryd.prog W = .ok (.agg C6) W ∧ (logVar ⟨bb + 1, 0, none⟩).run Tryd.prog W = .ok (logV l) W) (first | exact p1 | exact p2 | exact p3) (fail)
    all_goals go_wp2_with fail
    all_goals
      refine bodyPost_ret (ret_cell_cell_tmp rfl rfl o3.out rfl o4.out) rfl ?_
      rw [HRES.out, ← HC.out]
      exact o5.out
  subst her
  have HRES := Lib.hid (HRES0.out.trans (if_pos rfl))
  obtain ⟨q0, q1, q2⟩ := HLOG6.out.cells
  rw [HLU.out] at q2
  have hs2 : IntKind.i64.wrap ((u : Int) + (z : Int)) = (u : Int) + (z : Int) := IntWalk.i64_in _ (by have := HU.out; have := HM.out; have := HHF.out; omega)
  have hb6 : Below w6.heap.size w6 w6.drew := (Below.refl _ _).drew
  have q2' : w6.drew.cell? ⟨bb + 1, 2, none⟩ = some (.int .i64 (u : Int)) := q2
  have q3' : w6.drew.frozen? ⟨bb + 1, 2, none⟩ = false := by
    have := (HLOG6.out.on hb6 HLOG6.out.lt).there 2 (by omega)
    rw [Nat.zero_add] at this
    exact this.2
  clear q0 q1 q2
  go_wp2_with fail
  go_region_with (first
      | (go_at_call 16
         (with_reducible refine (HSZW.out _).mono ?_)
         rintro e wa ⟨rfl, rfl⟩))
  all_goals
    obtain ⟨w7, hw7⟩ : ∃ w7, w7 = (w6.setCell ⟨bb + 1, 2, none⟩ (.int .i64 ((u : Int) + (z : Int)))).drew := ⟨_, rfl⟩
    have HG7 := Lib.hid (grown_cell w6 (bb + 1) 2 (.int .i64 ((u : Int) + (z : Int))))
    have HLOG7 := Lib.hid (HLOG6.out.setUsed ((u : Int) + (z : Int)))
    rw [← hw7] at HG7 HLOG7 ⊢
    clear hw7 q2' q3' hb6
    have HRET7 := Lib.hid (HRET6.out.grown HG7.out (by omega) (by omega) (by rw [HBB.out]; omega))
    have HDV7 := Lib.hid (show Dv w w7 (.agg C) (bb + 1 + 1) (bb + 1 + 1 + 1) C6 X from
      ⟨HDV6.out.d4, HDV6.out.disk.keep HCL6.out HG7.out.size (fun q hq hne => HG7.out.block q hq (fun e => by injection e with e; omega)), HDV6.out.cD, HDV6.out.cL, HDV6.out.got⟩)
    have HSV7 := Lib.hid (show DVar w7 sb C6 from HSD6.out.dvar.keepb HG7.out.size (HG7.out.block sb HS6.out (fun e => by injection e with e; have := HSB.out; omega)))
    have HRES2 := Lib.hid (show d.append l r = (X, { l with used := (u : Int) + (z : Int) }, 0) by rw [HRES.out, HLU.out])
    obtain ⟨p1, p2, p3, o1, o2, o3, o4, o5⟩ := ret_region HDV7.out HRET7.out HSV7.out HLOG7.out (by have := HSB.out; omega) (by omega) 0
    obtain ⟨l2, hl2⟩ : ∃ l2 : Dk.Log, l2 = { l with used := (u : Int) + (z : Int) } := ⟨_, rfl⟩
    rw [← hl2] at p1 p2 p3 o2 o3 o4 o5 HRES2
    clear hl2
    go_wp2_with fail
    go_region_held3 (fun W => (diskVar ⟨sb, 0, none⟩).run Tryd.prog W = .ok (.agg C6) W ∧ (logVar ⟨bb + 1, 0, none⟩).run Tryd.prog W = .ok (logV l2) W) (first | exact p1 | exact p2 | exact p3) (fail)
  all_goals go_wp2_with fail
  all_goals
    refine bodyPost_ret (ret_cell_cell_tmp rfl rfl o3.out rfl o4.out) rfl ?_
    rw [HRES2.out, ← HC.out]
    exact o5.out
end Go.Proofs.YtbhjigejpdbeiaaDoor
end

section
/-
  Append, of the reference.
-/
namespace Go.Proofs.YtbhjigejpdbeiaaDoor
open Go.RowKit Go.Shelf
set_option linter.unusedVariables false
set_option maxRecDepth 8000

theorem ready_ref (d : Dk) (l : Dk.Log) : d.ready l = if ableB d then (if d.down then 9 else if d.logged l then 0 else 1) else 1 := by
  unfold Dk.ready
  rw [able_ref]
  cases ableB d
  · rfl
  · cases d.down
    · rfl
    · rfl
theorem LogAt.setUsed1 {w : World} {b : Nat} {l : Dk.Log} (h : LogAt w b l) (x : Int) : LogAt (w.setCell ⟨b, 2, none⟩ (.int .i64 x)) b { l with used := x } := by
  have k := range_setCells h.range 2 [.int .i64 x] (by simp [logC])
  exact ⟨k, World.there_setCells h.there b 2 [.int .i64 x]⟩
theorem grown_put1 (w : World) (b o : Nat) (v : Value) : w.grownBy (w.setCell ⟨b, o, none⟩ v) (some b) := by
  obtain ⟨e1, e2, e3⟩ := streams_setCells b [v] o w
  exact ⟨e1, e2, e3, Nat.le_of_eq (size_setCells b [v] o w).symm, fun q hq hr => heap_setCells b q (fun e => hr (by rw [e])) [v] o w⟩
set_option maxHeartbeats 2000000 in
theorem rappend_f (w : World) (v : Value) (d : Dk) (l : Dk.Log) (A : Option Addr) (n c : Nat) (r : List UInt8) (hd : DiskAt w v d) (hL : LaidR w) (hs : d.secs.length ≤ 1000000) (hn : n = r.length) (hn2 : n ≤ 1000000) (hr : RowOf w 1 A n c (Lib.byteCells r)) :
    Calls Tryd.prog 12 #[v, logV l, .slice A n c] w fun e w' => DiskOut3 v (d.append l r).1 (d.append l r).2.1 (d.append l r).2.2 w e w' := by
  obtain ⟨C, rfl, h4⟩ := hd.agg
  obtain ⟨w1, hw1⟩ : ∃ w1, w1 = (((w.alloc (.cells C 25)).alloc (.cells #[.int .i64 l.half, .int .i64 l.gen, .int .i64 l.used] 27)).alloc (.cells #[.slice none 0 0, .slice none 0 0, .int .i64 0, .bool false] 25)).alloc (.cells #[.int .i64 0, .int .i64 0, .int .i64 0] 27) := ⟨_, rfl⟩
  obtain ⟨hret, hbox, hth, hlog, hs1⟩ := ret_four_new w h4 hd l hw1
  have HRET := Lib.hid hret
  have HBOX := Lib.hid hbox
  have HDV := Lib.hid (dv_first h4 hd hret)
  have HLOG := Lib.hid hlog
  have H4 := Lib.hid h4
  have HD := Lib.hid hd
  have HL := Lib.hid hL
  have HW := Lib.hid hw1
  have HS1 := Lib.hid hs1
  have HSEC := Lib.hid hs
  have HN := Lib.hid hn
  have HR := Lib.hid hr
  obtain ⟨bb, hbb⟩ : ∃ bb, bb = w.heap.size := ⟨_, rfl⟩
  have HBB := Lib.hid hbb
  rw [← hbb] at HRET HBOX HDV HS1 HLOG
  clear hd h4 hL hw1 hret hbox hth hlog hs1 hbb hs hn hr
  have HAPP := Lib.hid (show d.append l r = if d.ready l = 0 then
    (if 4096 < r.length then (d, l, 3)
     else if (d.half : Int) - l.used < sizeN r.length then (d, l, 10)
     else match d.puts l.half.toNat (Dk.parts r l.gen l.used) with
      | (x, e) => if e = 0 then (x, { l with used := l.used + sizeN r.length }, 0) else (x, l, e))
    else (d, l, d.ready l) from rfl)
  have HRF := Lib.hid (ready_ref d l)
  have HBAD := Lib.hid (show ∀ e, d.ready l = e → e ≠ 0 → d.append l r = (d, l, e) from fun e he h0 => by rw [HAPP.out, if_neg (by rw [he]; exact h0), he])
  have hl0 := HBOX.out.load
  go_enter Tryd.func12, Tryd.ntmps12
  go_upto_region 1 with fail
  rw [← HW.out, ← HBB.out]
  go_wp2_with fail
  refine (rable_f w1 C d HBOX.out.disk H4.out).mono ?_
  rintro e w2 ⟨rfl, hb2⟩
  have HRET2 := Lib.hid (HRET.out.on hb2 HRET.out.lt)
  have HDV2 := Lib.hid (HDV.out.on hb2 (Nat.le_refl _))
  have HBOX2 := Lib.hid (HBOX.out.below hb2)
  have HLOG2 := Lib.hid (HLOG.out.on hb2 HLOG.out.lt)
  have HRR := Lib.hid (fun e => ret_region HDV2.out HRET2.out HBOX2.out.var HLOG2.out (by omega) (by omega) e)
  obtain ⟨A2, c2, c0, c3⟩ := HBOX2.out.cells
  have HABL := Lib.hid (show ableB d = true → d.right = true from fun q => by
    rw [ableB, Bool.and_eq_true] at q
    exact q.1)
  clear hb2 hl0 c0
  generalize ableB d = ab at *
  cases ab
  case false =>
    have HRES := Lib.hid (HBAD.out 1 HRF.out (by decide))
    obtain ⟨p1, p2, p3, o1, o2, o3, o4, o5⟩ := HRR.out 1
    go_wp2_with fail
    go_region_held3 (fun W => (diskVar ⟨bb, 0, none⟩).run Tryd.prog W = .ok (.agg C) W ∧ (logVar ⟨bb + 1, 0, none⟩).run Tryd.prog W = .ok (logV l) W) (first | exact p1 | exact p2 | exact p3) (fail)
    all_goals go_wp2_with fail
    all_goals
      refine bodyPost_ret (ret_cell_cell_tmp rfl rfl o3.out rfl o4.out) rfl ?_
      rw [HRES.out]
      exact o5.out
  generalize hdn : d.down = dn at *
  cases dn
  case true =>
    have HRES := Lib.hid (HBAD.out 9 HRF.out (by decide))
    obtain ⟨p1, p2, p3, o1, o2, o3, o4, o5⟩ := HRR.out 9
    go_wp2_with fail
    go_region_held3 (fun W => (diskVar ⟨bb, 0, none⟩).run Tryd.prog W = .ok (.agg C) W ∧ (logVar ⟨bb + 1, 0, none⟩).run Tryd.prog W = .ok (logV l) W) (first | exact p1 | exact p2 | exact p3) (fail)
    all_goals go_wp2_with fail
    all_goals
      refine bodyPost_ret (ret_cell_cell_tmp rfl rfl o3.out rfl o4.out) rfl ?_
      rw [HRES.out]
      exact o5.out
  have HRT := Lib.hid (HABL.out rfl)
  clear hdn
  have hl2 := HBOX2.out.load
  have hg2 := HLOG2.out.load
  go_wp2_with fail
  refine (rlogged_f w2 C d l HBOX2.out.disk H4.out HSEC.out).mono ?_
  rintro e w3 ⟨rfl, hb3⟩
  have HRET3 := Lib.hid (HRET2.out.on hb3 HRET2.out.lt)
  have HDV3 := Lib.hid (HDV2.out.on hb3 (Nat.le_refl _))
  have HBOX3 := Lib.hid (HBOX2.out.below hb3)
  have HLOG3 := Lib.hid (HLOG2.out.on hb3 HLOG2.out.lt)
  have HRR3 := Lib.hid (fun e => ret_region HDV3.out HRET3.out HBOX3.out.var HLOG3.out (by omega) (by omega) e)
  have HLGD := Lib.hid (show d.logged l = true → d.ready l = 0 from fun q => by rw [HRF.out, q]; rfl)
  clear hb3 hl2 hg2 c3
  generalize d.logged l = lg at *
  cases lg
  case false =>
    have HRES := Lib.hid (HBAD.out 1 HRF.out (by decide))
    obtain ⟨p1, p2, p3, o1, o2, o3, o4, o5⟩ := HRR3.out 1
    go_wp2_with fail
    go_region_held3 (fun W => (diskVar ⟨bb, 0, none⟩).run Tryd.prog W = .ok (.agg C) W ∧ (logVar ⟨bb + 1, 0, none⟩).run Tryd.prog W = .ok (logV l) W) (first | exact p1 | exact p2 | exact p3) (fail)
    all_goals go_wp2_with fail
    all_goals
      refine bodyPost_ret (ret_cell_cell_tmp rfl rfl o3.out rfl o4.out) rfl ?_
      rw [HRES.out]
      exact o5.out
  have hready := HLGD.out rfl
  have HAPP1 := Lib.hid (HAPP.out.trans (if_pos hready))
  obtain ⟨hab, hf, u, hlh, hlu, hf1, hu1, hu2, hg1, hg2⟩ := ready_zero hready
  have HUP := Lib.hid (able_up hab)
  have hhf : d.half = d.secs.length / 2 := rfl
  have HHF := Lib.hid (show d.half ≤ 1024 by have := HUP.out.2.2.2; omega)
  have HLH := Lib.hid hlh
  have HLU := Lib.hid hlu
  have HU := Lib.hid (And.intro hu1 hu2)
  clear hab hlh hhf hg1 hg2 hready HAPP
  by_cases hlong : 4096 < n
  case pos =>
    have hdl : decide (4096 < (n : Int)) = true := by simp; omega
    have HRES := Lib.hid (HAPP1.out.trans (if_pos (by rw [← HN.out]; exact hlong)))
    clear hlong
    obtain ⟨p1, p2, p3, o1, o2, o3, o4, o5⟩ := HRR3.out 3
    go_wp2_with fail
    go_region_held3 (fun W => (diskVar ⟨bb, 0, none⟩).run Tryd.prog W = .ok (.agg C) W ∧ (logVar ⟨bb + 1, 0, none⟩).run Tryd.prog W = .ok (logV l) W) (first | exact p1 | exact p2 | exact p3) (fail)
    all_goals go_wp2_with fail
    all_goals
      refine bodyPost_ret (ret_cell_cell_tmp rfl rfl o3.out rfl o4.out) rfl ?_
      rw [HRES.out]
      exact o5.out
  have hdl : decide (4096 < (n : Int)) = false := by simp; omega
  have HAPP2 := Lib.hid (HAPP1.out.trans (if_neg (by rw [← HN.out]; exact hlong)))
  have HSZW := Lib.hid (show ∀ W, Calls Tryd.prog 17 #[.int .i64 (n : Int)] W fun e w' => e = .returned (.int .i64 (sizeN n)) ∧ w' = W from fun W => by
    have := rsize_f W (n : Int) (by omega) (by omega)
    rwa [jsize_cast] at this)
  obtain ⟨z, hz⟩ : ∃ z, z = sizeN n := ⟨_, rfl⟩
  have hz41 : z ≤ 41 ∧ 1 ≤ z := by
    have := Jp.sizeN_pos (n := n) (by omega)
    omega
  have HZ := Lib.hid hz
  rw [← hz] at HSZW
  rw [← HN.out, ← hz] at HAPP2
  clear hz HAPP1
  obtain ⟨sn, hsn⟩ : ∃ sn, sn = d.secs.length := ⟨_, rfl⟩
  have hd2 : (sn : Int) / 2 = (d.half : Int) := by rw [hsn]; rfl
  have HK := Lib.hid (show ∀ W, Below w3.heap.size w3 W → W.cell? ⟨bb + 1, 2, none⟩ = some (.int .i64 (u : Int)) ∧ ∃ As cS, W.cell? ⟨bb, 0, none⟩ = some (.slice As sn cS) from fun W hW => by
    have h1 := ((HLOG3.out.on hW HLOG3.out.lt).cells).2.2
    obtain ⟨As, cS, h2, _⟩ := (HBOX3.out.below hW).cells
    rw [HLU.out] at h1
    rw [hsn]
    exact ⟨h1, As, cS, h2⟩)
  have hsn2 : sn ≤ 2048 := by rw [hsn]; exact HUP.out.2.2.2
  have HSN := Lib.hid hsn
  have hb0 : Below w3.heap.size w3 w3.drew := (Below.refl _ _).drew
  have hhm : d.half ≤ 1024 := HHF.out
  have hs1 : IntKind.i64.wrap ((d.half : Int) - (u : Int)) = (d.half : Int) - (u : Int) := IntWalk.i64_in _ (by have := HU.out; omega)
  have hs0 : IntKind.i64.wrap (d.half : Int) = (d.half : Int) := IntWalk.i64_in _ (by omega)
  obtain ⟨m, hm⟩ : ∃ m, m = d.half := ⟨_, rfl⟩
  rw [← hm] at hs1 HAPP2 hd2 hs0
  have HM := Lib.hid hm
  obtain ⟨As, cS, e0⟩ := (HK.out w3 (Below.refl _ _)).2
  have HK2 := Lib.hid (show ∀ W, Below w3.heap.size w3 W → W.cell? ⟨bb + 1, 2, none⟩ = some (.int .i64 (u : Int)) ∧ W.cell? ⟨bb, 0, none⟩ = some (.slice As sn cS) from fun W hW =>
    ⟨(HK.out W hW).1, (hW.cell (p := ⟨bb, 0, none⟩) HBOX3.out.var.lt).trans e0⟩)
  clear hm hhm hu2 hsn e0
  go_wp2_with fail
  go_region_held3 (fun W => W.cell? ⟨bb + 1, 2, none⟩ = some (.int .i64 (u : Int)) ∧ W.cell? ⟨bb, 0, none⟩ = some (.slice As sn cS)) (exact HK2.out _ (by assumption))
    (first
      | (go_at_call 17
         (with_reducible refine (HSZW.out _).mono ?_)
         rintro e wa ⟨rfl, rfl⟩))
  obtain ⟨w4, hw4⟩ : ∃ w4, w4 = w3.drew := ⟨_, rfl⟩
  rw [← hw4] at hb0 ⊢
  have HRET4 := Lib.hid (HRET3.out.on hb0 HRET3.out.lt)
  have HDV4 := Lib.hid (HDV3.out.on hb0 (Nat.le_refl _))
  have HBOX4 := Lib.hid (HBOX3.out.below hb0)
  have HLOG4 := Lib.hid (HLOG3.out.on hb0 HLOG3.out.lt)
  rename_i hHeld
  clear hHeld hw4 hb0
  by_cases hfull : (m : Int) - (u : Int) < (z : Int)
  case pos =>
    have hdf : decide ((m : Int) - (u : Int) < (z : Int)) = true := decide_eq_true hfull
    have HRES := Lib.hid (HAPP2.out.trans (if_pos (by rw [HLU.out]; exact hfull)))
    clear hfull
    rw [hdf]
    obtain ⟨p1, p2, p3, o1, o2, o3, o4, o5⟩ := ret_region HDV4.out HRET4.out HBOX4.out.var HLOG4.out (by omega) (by omega) 10
    go_wp2_with fail
    go_region_held3 (fun W => (diskVar ⟨bb, 0, none⟩).run Tryd.prog W = .ok (.agg C) W ∧ (logVar ⟨bb + 1, 0, none⟩).run Tryd.prog W = .ok (logV l) W) (first | exact p1 | exact p2 | exact p3) (fail)
    all_goals go_wp2_with fail
    all_goals
      refine bodyPost_ret (ret_cell_cell_tmp rfl rfl o3.out rfl o4.out) rfl ?_
      rw [HRES.out]
      exact o5.out
  have hdf : decide ((m : Int) - (u : Int) < (z : Int)) = false := decide_eq_false hfull
  have HAPP3 := Lib.hid (HAPP2.out.trans (if_neg (by rw [HLU.out]; exact hfull)))
  rw [hdf]
  clear HAPP2 hfull
  obtain ⟨q0, q1, q2⟩ := HLOG4.out.cells
  rw [HLU.out] at q2
  obtain ⟨gen, hgen⟩ : ∃ gen, gen = l.gen := ⟨_, rfl⟩
  rw [← hgen] at q1
  have HGEN := Lib.hid hgen
  clear hgen
  have HPARTS := Lib.hid (rparts_f w4 A n c r gen u HN.out (HR.out.kept HRET4.out.below (Nat.le_refl _)) (by omega) (by have := HU.out; have := HHF.out; have := HM.out; omega) bb (fun x hx h0 => by rw [HBB.out]; exact (HR.out.2.2.2.2 x hx h0).2.1) (by rw [HBB.out]; exact HRET4.out.below.size))
  go_wp2_with fail
  refine HPARTS.out.mono ?_
  rintro e w5 ⟨v5, cs5, rfl, hown5, hps5, hb5⟩
  obtain ⟨A5, c5, rfl, hrow5, hlo5⟩ := row_of_own hown5
  rw [← HN.out, ← HZ.out] at hrow5 ⊢
  have HROW5 := Lib.hid hrow5
  have HPS5 := Lib.hid hps5
  have HRET5 := Lib.hid (HRET4.out.on hb5 HRET4.out.lt)
  have HLOG5 := Lib.hid (HLOG4.out.on hb5 HLOG4.out.lt)
  have HDV5 := Lib.hid (HDV4.out.on hb5 (Nat.le_refl _))
  have HBOX5 := Lib.hid (HBOX4.out.below hb5)
  clear hown5 hrow5 hlo5 hps5 hb5 q0 q1 q2
  obtain ⟨q0, q1, q2⟩ := HLOG5.out.cells
  rw [HLH.out] at q0
  have hl5 := HBOX5.out.load
  go_wp2_with fail
  refine (rput_f w5 C d hf A5 z c5 cs5 (Dk.parts r gen (u : Int)) HBOX5.out.disk H4.out hf1 HUP.out.2.2.2 (by rw [Dk.parts_length, HZ.out, HN.out]) (by omega) HROW5.out (HPS5.out.up (by rw [HBB.out]; exact HRET5.out.below.size)) (parts_fine (by have := HU.out; have := HHF.out; have := HM.out; omega) (by rw [← HN.out]; omega)) (HL.out.below HRET5.out.below HL.out.size)).mono ?_
  rintro e w6 ⟨⟨u6, rfl, hg6⟩, hb6⟩
  obtain ⟨C6, rfl, hc6⟩ := hg6.1.agg
  obtain ⟨X, er, hX⟩ : ∃ X er, d.puts hf (Dk.parts r gen (u : Int)) = (X, er) := ⟨_, _, rfl⟩
  rw [hX] at hg6 ⊢
  have HC6 := Lib.hid hc6
  have HRES0 := Lib.hid (show d.append l r = if er = 0 then (X, { l with used := l.used + (z : Int) }, 0) else (X, l, er) by
    have e1 : l.half.toNat = hf := by rw [HLH.out]; rfl
    rw [HAPP3.out, e1, ← HGEN.out, HLU.out, hX])
  have HRET6 := Lib.hid (HRET5.out.on hb6 HRET5.out.lt)
  have HLOG6 := Lib.hid (HLOG5.out.on hb6 HLOG5.out.lt)
  have HDV6 := Lib.hid (HDV5.out.step HRET5.out hg6 hc6)
  have HCL6 := Lib.hid (show Clear (bb + 1) (.agg C6) from hg6.2 _ HLOG5.out.lt (HD.out.clear (by rw [HBB.out]; omega)))
  clear hg6 hb6 hX HAPP3 q0 q1 q2 hl5
  go_upto_region 13 with fail
  obtain ⟨w7, hw7⟩ : ∃ w7, w7 = w6.alloc (.cells C6 25) := ⟨_, rfl⟩
  obtain ⟨b7, hb7⟩ : ∃ b7, b7 = w6.heap.size := ⟨_, rfl⟩
  rw [← hw7, ← hb7]
  have hb67 : Below w6.heap.size w6 w7 := by rw [hw7]; exact (Below.refl _ _).alloc (Nat.le_refl _) _
  have HRET7 := Lib.hid (HRET6.out.on hb67 HRET6.out.lt)
  have HLOG7 := Lib.hid (HLOG6.out.on hb67 HLOG6.out.lt)
  have HDV7 := Lib.hid (HDV6.out.on hb67 (Nat.le_refl _))
  have HB7 := Lib.hid (show bb + 1 + 1 + 1 < b7 by rw [hb7]; exact HRET6.out.lt)
  have HV7 := Lib.hid (show DVar w7 b7 C6 by rw [hw7, hb7]; exact dvar_new w6 HC6.out)
  clear hw7 hb7 hb67
  by_cases her : er = 0
  case neg =>
    have hne : (er != 0) = true := by rw [bne_iff_ne]; exact her
    have HRES := Lib.hid (HRES0.out.trans (if_neg her))
    clear her
    obtain ⟨p1, p2, p3, o1, o2, o3, o4, o5⟩ := ret_region HDV7.out HRET7.out HV7.out HLOG7.out (by have := HB7.out; omega) (by omega) er
    go_wp2_with fail
    go_region_held3 (fun W => (diskVar ⟨b7, 0, none⟩).run Tryd.prog W = .ok (.agg C6) W ∧ (logVar ⟨bb + 1, 0, none⟩).run Tryd.prog W = .ok (logV l) W) (first | exact p1 | exact p2 | exact p3) (fail)
    all_goals go_wp2_with fail
    all_goals
      refine bodyPost_ret (ret_cell_cell_tmp rfl rfl o3.out rfl o4.out) rfl ?_
      rw [HRES.out]
      exact o5.out
  subst her
  have HRES := Lib.hid (HRES0.out.trans (if_pos rfl))
  obtain ⟨q0, q1, q2⟩ := HLOG7.out.cells
  rw [HLU.out] at q2
  have hs2 : IntKind.i64.wrap ((u : Int) + (z : Int)) = (u : Int) + (z : Int) := IntWalk.i64_in _ (by have := HU.out; have := HM.out; have := HHF.out; omega)
  have q3 : w7.frozen? ⟨bb + 1, 2, none⟩ = false := by
    have := HLOG7.out.there 2 (by omega)
    rw [Nat.zero_add] at this
    exact this.2
  go_upto_region 16 with fail
  obtain ⟨w8, hw8⟩ : ∃ w8, w8 = w7.setCell ⟨bb + 1, 2, none⟩ (.int .i64 ((u : Int) + (z : Int))) := ⟨_, rfl⟩
  rw [← hw8]
  have HG8 := Lib.hid (grown_put1 w7 (bb + 1) 2 (.int .i64 ((u : Int) + (z : Int))))
  have HLOG8 := Lib.hid (HLOG7.out.setUsed1 ((u : Int) + (z : Int)))
  rw [← hw8] at HG8 HLOG8
  clear hw8 q0 q1 q2 q3
  have HRET8 := Lib.hid (HRET7.out.grown HG8.out (by omega) (by omega) (by rw [HBB.out]; omega))
  have HDV8 := Lib.hid (show Dv w w8 (.agg C) (bb + 1 + 1) (bb + 1 + 1 + 1) C6 X from
    ⟨HDV7.out.d4, HDV7.out.disk.keep HCL6.out HG8.out.size (fun q hq hne => HG8.out.block q hq (fun e => by injection e with e; omega)), HDV7.out.cD, HDV7.out.cL, HDV7.out.got⟩)
  have HV8 := Lib.hid (show DVar w8 b7 C6 from HV7.out.keepb HG8.out.size (HG8.out.block b7 HV7.out.lt (fun e => by injection e with e; have := HB7.out; omega)))
  have HRES2 := Lib.hid (show d.append l r = (X, { l with used := (u : Int) + (z : Int) }, 0) by rw [HRES.out, HLU.out])
  obtain ⟨p1, p2, p3, o1, o2, o3, o4, o5⟩ := ret_region HDV8.out HRET8.out HV8.out HLOG8.out (by have := HB7.out; omega) (by omega) 0
  obtain ⟨l2, hl2⟩ : ∃ l2 : Dk.Log, l2 = { l with used := (u : Int) + (z : Int) } := ⟨_, rfl⟩
  rw [← hl2] at p1 p2 p3 o2 o3 o4 o5 HRES2
  clear hl2
  go_region_held3 (fun W => (diskVar ⟨b7, 0, none⟩).run Tryd.prog W = .ok (.agg C6) W ∧ (logVar ⟨bb + 1, 0, none⟩).run Tryd.prog W = .ok (logV l2) W) (first | exact p1 | exact p2 | exact p3) (fail)
  all_goals go_wp2_with fail
  all_goals
    refine bodyPost_ret (ret_cell_cell_tmp rfl rfl o3.out rfl o4.out) rfl ?_
    rw [HRES2.out]
    exact o5.out
end Go.Proofs.YtbhjigejpdbeiaaDoor
end

section
/-
  Compact, of the program.
-/
namespace Go.Proofs.YtbhjigejpdbeiaaDoor
open Go.RowKit Go.Shelf
set_option linter.unusedVariables false
set_option maxRecDepth 8000

theorem Dv.grown {w W W' : World} {v0 : Value} {bD bL sb : Nat} {C : Array Value} {x : Dk} (k : Dv w W v0 bD bL C x) (hg : W.grownBy W' (some sb)) (hc : Clear sb (.agg C)) : Dv w W' v0 bD bL C x :=
  ⟨k.d4, k.disk.keep hc hg.size (fun q hq hne => hg.block q hq (fun e => by injection e with e; omega)), k.cD, k.cL, k.got⟩
theorem grown_log {w : World} {b : Nat} {l : Dk.Log} : w.grownBy (putLog w b l) (some b) := by
  obtain ⟨e1, e2, e3⟩ := streams_setCells b (logC l) 0 w
  exact ⟨e1, e2, e3, by rw [size_putLog]; exact Nat.le_refl _, fun q hq hr => heap_putLog _ _ _ _ (fun e => hr (by rw [e]))⟩
theorem LogAt.grown {w w' : World} {b sb : Nat} {l : Dk.Log} (h : LogAt w b l) (hg : w.grownBy w' (some sb)) (hne : b ≠ sb) : LogAt w' b l := h.keepb (hg.block b h.lt (fun e => by injection e with e; omega))
theorem DVar.grown {w w' : World} {b sb : Nat} {C : Array Value} (h : DVar w b C) (hg : w.grownBy w' (some sb)) (hne : b ≠ sb) : DVar w' b C := h.keepb hg.size (hg.block b h.lt (fun e => by injection e with e; omega))
theorem compact_is (d : Dk) (l : Dk.Log) (rs : List (List UInt8)) : d.compact l rs = if d.ready l = 0 then
    (match Dk.wantF rs 1 with
     | none => (d, l, 3)
     | some n => if d.half < n then (d, l, 10) else
       match d.lay (1 - l.half).toNat rs with
       | (x, m, e) => if e = 0 then (x, m, 0) else (x, l, e))
  else (d, l, d.ready l) := rfl
theorem want_len : ∀ (rs : List (List UInt8)) (n m : Nat), Dk.wantF rs n = some m → n + rs.length ≤ m ∧ ∀ r ∈ rs, r.length ≤ 4096
  | [], n, m, h => by
    simp [Dk.wantF] at h
    exact ⟨by simp; omega, fun r hr => by cases hr⟩
  | r :: rs, n, m, h => by
    rw [Dk.wantF] at h
    by_cases q : 4096 < r.length
    · rw [if_pos q] at h; cases h
    · rw [if_neg q] at h
      obtain ⟨h1, h2⟩ := want_len rs _ m h
      have := (Jp.sizeN_pos (n := r.length) (by omega)).1
      refine ⟨by rw [List.length_cons]; omega, fun x hx => ?_⟩
      rcases List.mem_cons.1 hx with rfl | hx
      · omega
      · exact h2 x hx
set_option maxHeartbeats 2000000 in
theorem compact_f (w : World) (v : Value) (d : Dk) (l : Dk.Log) (v2 : Value) (rs : List (List UInt8)) (hd : DiskAt w v d) (hL : Laid w) (hs : d.secs.length ≤ 1000000) (hn2 : rs.length ≤ 100000) (hrl : ∀ r ∈ rs, r.length ≤ 100000000) (hr : RecsAt w v2 rs) :
    Calls Tryd.prog 26 #[v, logV l, v2] w fun e w' => DiskOut3 v (d.compact l rs).1 (d.compact l rs).2.1 (d.compact l rs).2.2 w e w' := by
  have HRECS := Lib.hid hr
  obtain ⟨A, n, c, vs, rfl, hn, hrow, hset⟩ := hr
  have HN := Lib.hid hn
  have HROW := Lib.hid hrow
  have HSET := Lib.hid hset
  obtain ⟨C, rfl, h4⟩ := hd.agg
  obtain ⟨w1, hw1⟩ : ∃ w1, w1 = (((w.alloc (.cells C 25)).alloc (.cells #[.int .i64 l.half, .int .i64 l.gen, .int .i64 l.used] 27)).alloc (.cells #[.slice none 0 0, .slice none 0 0, .int .i64 0, .bool false] 25)).alloc (.cells #[.int .i64 0, .int .i64 0, .int .i64 0] 27) := ⟨_, rfl⟩
  obtain ⟨hret, hbox, hth, hlog, hs1⟩ := ret_four_new w h4 hd l hw1
  have HRET := Lib.hid hret
  have HBOX := Lib.hid hbox
  have HDV := Lib.hid (dv_first h4 hd hret)
  have HLOG := Lib.hid hlog
  have HTH := Lib.hid hth
  have H4 := Lib.hid h4
  have HD := Lib.hid hd
  have HL := Lib.hid hL
  have HW := Lib.hid hw1
  have HS1 := Lib.hid hs1
  have HSEC := Lib.hid hs
  have HRL := Lib.hid hrl
  obtain ⟨bb, hbb⟩ : ∃ bb, bb = w.heap.size := ⟨_, rfl⟩
  have HBB := Lib.hid hbb
  rw [← hbb] at HRET HBOX HDV HS1 HLOG HTH
  have hn3 : n ≤ 100000 := by omega
  clear hd h4 hL hw1 hret hbox hth hlog hs1 hbb hs hn hrow hset hrl hn2
  have HCOM := Lib.hid (compact_is d l rs)
  have hl0 := HBOX.out.load
  have hg0 := HLOG.out.load
  go_enter Tryd.func26, Tryd.ntmps26
  go_upto_region 1 with fail
  rw [← HW.out, ← HBB.out]
  go_wp2_with fail
  refine (ready_f w1 C d l HBOX.out.disk H4.out HSEC.out).mono ?_
  rintro e w3 ⟨rfl, hb3⟩
  have HRET3 := Lib.hid (HRET.out.on hb3 HRET.out.lt)
  have HDV3 := Lib.hid (HDV.out.on hb3 (Nat.le_refl _))
  have HBOX3 := Lib.hid (HBOX.out.below hb3)
  have HLOG3 := Lib.hid (HLOG.out.on hb3 HLOG.out.lt)
  have HTH3 := Lib.hid (there_below HTH.out hb3 (by have := HS1.out; omega))
  have HRR := Lib.hid (fun e => ret_region HDV3.out HRET3.out HBOX3.out.var HLOG3.out (by omega) (by omega) e)
  obtain ⟨rd, hrd⟩ : ∃ rd, rd = d.ready l := ⟨_, rfl⟩
  rw [← hrd] at HCOM ⊢
  have HRD := Lib.hid hrd
  clear hb3 hl0 hg0 hrd
  by_cases h0 : rd = 0
  case neg =>
    have hne : (rd != 0) = true := by rw [bne_iff_ne]; exact h0
    have HRES := Lib.hid (HCOM.out.trans (if_neg h0))
    clear h0
    obtain ⟨p1, p2, p3, o1, o2, o3, o4, o5⟩ := HRR.out rd
    go_wp2_with fail
    go_region_held3 (fun W => (diskVar ⟨bb, 0, none⟩).run Tryd.prog W = .ok (.agg C) W ∧ (logVar ⟨bb + 1, 0, none⟩).run Tryd.prog W = .ok (logV l) W) (first | exact p1 | exact p2 | exact p3) (fail)
    all_goals go_wp2_with fail
    all_goals
      refine bodyPost_ret (ret_cell_cell_tmp rfl rfl o3.out rfl o4.out) rfl ?_
      rw [HRES.out]
      exact o5.out
  subst h0
  have HCOM1 := Lib.hid (HCOM.out.trans (if_pos rfl))
  obtain ⟨hab, hf, u, hlh, hlu, hf1, hu1, hu2, hg1, hg2⟩ := ready_zero HRD.out.symm
  have HUP := Lib.hid (able_up hab)
  have hhf : d.half = d.secs.length / 2 := rfl
  have HHF := Lib.hid (show d.half ≤ 1024 by have := HUP.out.2.2.2; omega)
  have HLH := Lib.hid hlh
  clear hab hlh hhf hg1 hg2 hlu hu1 hu2 HCOM
  go_wp2_with fail
  go_loopw [10, 25] (fun us ix wr => ∃ k q : Nat, us = .int .i64 (q : Int) ∧ ix = .int .i64 (k : Int) ∧ k ≤ n ∧ q ≤ 1 + 41 * k ∧ Hid (Dk.wantF rs 1 = Dk.wantF (rs.drop k) q) ∧ wr = w3) (fun us ix wr => n - (intOf ix).toNat)
  case atStart => exact ⟨0, 1, rfl, rfl, by omega, by omega, Lib.hid rfl, rfl⟩
  case round =>
    obtain ⟨k, q, rfl, rfl, hk, hq, HWT, rfl⟩ := hrel
    by_cases hlt : k < n
    case pos =>
      have hdn : decide (k < n) = true := by simp; omega
      have hkl : k < rs.length := by have := HN.out; omega
      obtain ⟨r, hr⟩ : ∃ r, r = rs[k] := ⟨_, rfl⟩
      have HRK := Lib.hid (show rs[k]? = some r by rw [hr]; exact List.getElem?_eq_getElem hkl)
      have HDR := Lib.hid (show rs.drop k = r :: rs.drop (k + 1) by rw [hr]; exact List.drop_eq_getElem_cons hkl)
      have HR4 := Lib.hid (HRL.out r (by rw [hr]; exact List.getElem_mem hkl))
      clear hr
      obtain ⟨B, m, kk, hck, hm, hrowB, _⟩ := HSET.out.row k r HRK.out
      have HM := Lib.hid hm
      obtain ⟨b, o, rfl, hb, hX⟩ := row_at HROW.out (by omega)
      have hc0 : wr.cell? ⟨b, o + k, none⟩ = some (.slice B m kk) := by
        have := range_below hX HRET3.out.below hb
        exact this k _ hck
      have hm8 : m ≤ 100000000 := by rw [hm]; exact HR4.out
      have HWT2 := Lib.hid (show Dk.wantF rs 1 = if 4096 < m then none else Dk.wantF (rs.drop (k + 1)) (q + sizeN m) by rw [HWT.out, HDR.out, Dk.wantF, hm])
      clear hck hm hrowB hb hX
      by_cases hlong : 4096 < m
      case pos =>
        have hdl : decide (4096 < (m : Int)) = true := by simp; omega
        have HW0 := Lib.hid (HWT2.out.trans (if_pos hlong))
        have HRES := Lib.hid (show d.compact l rs = (d, l, 3) by rw [HCOM1.out, HW0.out])
        clear hlong
        obtain ⟨p1, p2, p3, o1, o2, o3, o4, o5⟩ := HRR.out 3
        go_wp2_with fail
        go_region_held3 (fun W => (diskVar ⟨bb, 0, none⟩).run Tryd.prog W = .ok (.agg C) W ∧ (logVar ⟨bb + 1, 0, none⟩).run Tryd.prog W = .ok (logV l) W) (first | exact p1 | exact p2 | exact p3) (fail)
        all_goals go_wp2_with fail
        all_goals
          refine bodyPost_ret (ret_cell_cell_tmp rfl rfl o3.out rfl o4.out) rfl ?_
          rw [HRES.out]
          exact o5.out
      have hdl : decide (4096 < (m : Int)) = false := by simp; omega
      have HW1 := Lib.hid (HWT2.out.trans (if_neg hlong))
      have HSZ := Lib.hid (show Calls Tryd.prog 16 #[.int .i64 (m : Int)] wr fun e w' => e = .returned (.int .i64 (sizeN m)) ∧ w' = wr by
        have := size_f wr (m : Int) (by omega) (by omega)
        rwa [jsize_cast] at this)
      have HZ := Lib.hid (Jp.sizeN_pos (n := m) (by omega))
      obtain ⟨z, hz⟩ : ∃ z, z = sizeN m := ⟨_, rfl⟩
      rw [← hz] at HSZ HW1 HZ
      have hz41 : z ≤ 41 := HZ.out.2.2.2.1
      have hs2 : IntKind.i64.wrap ((q : Int) + (z : Int)) = (q : Int) + (z : Int) := IntWalk.i64_in _ (by omega)
      clear hz hlong
      go_wp2_with fail
      refine HSZ.out.mono ?_
      rintro e w' ⟨rfl, rfl⟩
      go_wp2_with fail
      go_roundw
      case rel => exact ⟨k + 1, q + z, by simp, by simp, by omega, by omega, HW1, trivial⟩
      case measure => simp [intOf]; omega
    have hdn : decide (k < n) = false := by simp; omega
    have HW0 := Lib.hid (show Dk.wantF rs 1 = some q by rw [HWT.out, List.drop_eq_nil_of_le (by have := HN.out; omega)]; rfl)
    have HCOM2 := Lib.hid (show d.compact l rs = if d.half < q then (d, l, 10) else
       match d.lay (1 - l.half).toNat rs with
       | (x, m, e) => if e = 0 then (x, m, 0) else (x, l, e) by rw [HCOM1.out, HW0.out])
    have HWL := Lib.hid (want_len rs 1 q HW0.out)
    obtain ⟨As, cS, c0, _⟩ := HBOX3.out.cells
    have hd2 : (d.secs.length : Int) / 2 = (d.half : Int) := rfl
    have hsn2 : d.secs.length ≤ 2048 := HUP.out.2.2.2
    have hhm : d.half ≤ 1024 := HHF.out
    have hs0 : IntKind.i64.wrap (d.half : Int) = (d.half : Int) := IntWalk.i64_in _ (by omega)
    obtain ⟨m, hm⟩ : ∃ m, m = d.half := ⟨_, rfl⟩
    rw [← hm] at hd2 HCOM2 hs0 hhm
    obtain ⟨sn, hsn⟩ : ∃ sn, sn = d.secs.length := ⟨_, rfl⟩
    rw [← hsn] at hd2 hsn2 c0
    have HM := Lib.hid hm
    have HSN := Lib.hid hsn
    clear hm hsn hlt
    by_cases hfull : m < q
    case pos =>
      have hdf : decide ((m : Int) < (q : Int)) = true := by simp; omega
      have hdf2 : decide (m < q) = true := by simp; omega
      have HRES := Lib.hid (HCOM2.out.trans (if_pos hfull))
      clear hfull
      obtain ⟨p1, p2, p3, o1, o2, o3, o4, o5⟩ := HRR.out 10
      go_wp2_with fail
      go_region_held3 (fun W => (diskVar ⟨bb, 0, none⟩).run Tryd.prog W = .ok (.agg C) W ∧ (logVar ⟨bb + 1, 0, none⟩).run Tryd.prog W = .ok (logV l) W) (first | exact p1 | exact p2 | exact p3) (fail)
      all_goals go_wp2_with fail
      all_goals
        refine bodyPost_ret (ret_cell_cell_tmp rfl rfl o3.out rfl o4.out) rfl ?_
        rw [HRES.out]
        exact o5.out
    have hdf : decide ((m : Int) < (q : Int)) = false := by simp; omega
    have hdf2 : decide (m < q) = false := by simp; omega
    have HCOM3 := Lib.hid (HCOM2.out.trans (if_neg hfull))
    have hl3 := HBOX3.out.load
    obtain ⟨g0, _, _⟩ := HLOG3.out.cells
    rw [HLH.out] at g0
    have hs4 : IntKind.i64.wrap (1 - (hf : Int)) = ((1 - hf : Nat) : Int) := by rw [IntWalk.i64_in _ (by omega)]; omega
    have HLP := Lib.hid (lay_f wr C d (1 - hf) (.slice A n c) rs HBOX3.out.disk H4.out (by omega) HUP.out.1 HUP.out.2.1 (HRECS.out.kept HRET3.out.below (Nat.le_refl _)) (by have := HWL.out.1; omega) HWL.out.2 (HL.out.below HRET3.out.below HL.out.size))
    go_wp2_with fail
    refine HLP.out.mono ?_
    rintro e w4 ⟨⟨u4, rfl, hg4⟩, hb4⟩
    obtain ⟨C4, rfl, hc4⟩ := hg4.1.agg
    obtain ⟨X, m2, er, hX⟩ : ∃ X m2 er, d.lay (1 - hf) rs = (X, m2, er) := ⟨_, _, _, rfl⟩
    rw [hX] at hg4 ⊢
    have HRES0 := Lib.hid (show d.compact l rs = if er = 0 then (X, m2, 0) else (X, l, er) by
      have e1 : (1 - l.half).toNat = 1 - hf := by rw [HLH.out]; omega
      rw [HCOM3.out, e1, hX])
    have HDV4 := Lib.hid (HDV3.out.step HRET3.out hg4 hc4)
    have HRET4 := Lib.hid (HRET3.out.on hb4 HRET3.out.lt)
    have HLOG4 := Lib.hid (HLOG3.out.on hb4 HLOG3.out.lt)
    have HTH4 := Lib.hid (there_below HTH3.out hb4 HBOX3.out.var.lt)
    have HCB := Lib.hid (show Clear bb (.agg C4) from hg4.2 _ HBOX3.out.var.lt (HD.out.clear (by rw [HBB.out]; exact Nat.le_refl _)))
    have HCN := Lib.hid (show Clear w4.heap.size (.agg C4) from hg4.1.clear (Nat.le_refl _))
    have HC4 := Lib.hid hc4
    clear hg4 hb4 hX hl3 g0 c0
    obtain ⟨w5, hw5⟩ : ∃ w5, w5 = w4.alloc (.cells #[.int .i64 0, .int .i64 0, .int .i64 0] 27) := ⟨_, rfl⟩
    have hb45 : Below w4.heap.size w4 w5 := by rw [hw5]; exact (Below.refl _ _).alloc (Nat.le_refl _) _
    have hs5 : w5.heap.size = w4.heap.size + 1 := by rw [hw5]; simp
    have ht5 : w5.there bb 0 4 := there_below HTH4.out hb45 (by have := HRET4.out.lt; omega)
    have ho1 := store_disk ht5 HC4.out
    have hn5 : w5.there w4.heap.size 0 3 := by rw [hw5]; exact size_log3 w4
    have ho2 := store_log (World.there_setCells hn5 bb 0 C4.toList) m2
    obtain ⟨b5, hb5⟩ : ∃ b5, b5 = w4.heap.size := ⟨_, rfl⟩
    rw [← hb5] at ho2 hs5 hn5 HCN
    have HLT5 := Lib.hid (show bb + 1 + 1 + 1 < b5 by rw [hb5]; exact HRET4.out.lt)
    have HRET5 := Lib.hid (HRET4.out.on hb45 HRET4.out.lt)
    have HLOG5 := Lib.hid (HLOG4.out.on hb45 HLOG4.out.lt)
    have HDV5 := Lib.hid (HDV4.out.on hb45 (Nat.le_refl _))
    obtain ⟨w6, hw6⟩ : ∃ w6, w6 = putDisk w5 bb C4 := ⟨_, rfl⟩
    have hg6 : w5.grownBy w6 (some bb) := by rw [hw6]; exact grown_put
    have HV6 := Lib.hid (show DVar w6 bb C4 by rw [hw6]; exact dvar_put (by have := HLT5.out; omega) ht5 HC4.out)
    have HRET6 := Lib.hid (HRET5.out.grown hg6 (by omega) (by omega) (by rw [HBB.out]; exact Nat.le_refl _))
    have HLOG6 := Lib.hid (HLOG5.out.grown hg6 (by omega))
    have HDV6 := Lib.hid (HDV5.out.grown hg6 HCB.out)
    have hn6 : w6.there b5 0 3 := by rw [hw6]; exact World.there_setCells hn5 _ _ _
    have ho2 : (logSet ⟨b5, 0, none⟩ (logV m2)).run Tryd.prog w6 = .ok () (putLog w6 b5 m2) := by rw [hw6]; exact ho2
    rw [← hw6] at ho1
    obtain ⟨w7, hw7⟩ : ∃ w7, w7 = putLog w6 b5 m2 := ⟨_, rfl⟩
    have hg7 : w6.grownBy w7 (some b5) := by rw [hw7]; exact grown_log
    have HV7 := Lib.hid (HV6.out.grown hg7 (by have := HLT5.out; omega))
    have HRET7 := Lib.hid (HRET6.out.grown hg7 (by have := HLT5.out; omega) (by have := HLT5.out; omega) (by have := HLT5.out; have := HBB.out; omega))
    have HLOG7 := Lib.hid (HLOG6.out.grown hg7 (by have := HLT5.out; omega))
    have HDV7 := Lib.hid (HDV6.out.grown hg7 HCN.out)
    have HLG7 := Lib.hid (show LogAt w7 b5 m2 by rw [hw7]; exact logAt_put hn6 m2)
    rw [← hw7] at ho2
    rw [hw5] at ho1
    rw [hb5] at ho2
    have HLR := Lib.hid (fun e => ret_region HDV7.out HRET7.out HV7.out HLOG7.out (by omega) (by omega) e)
    have HMR := Lib.hid (fun e => ret_region HDV7.out HRET7.out HV7.out HLG7.out (by omega) (by have := HLT5.out; omega) e)
    have HB5 := Lib.hid hb5
    clear hb45 hs5 ht5 hn5 hw6 hg6 hn6 hw7 hg7 hw5 hb5
    go_upto_region 15 with fail
    rw [← HB5.out]
    clear ho1 ho2
    by_cases her : er = 0
    case neg =>
      have hne : (er != 0) = true := by rw [bne_iff_ne]; exact her
      have HRES := Lib.hid (HRES0.out.trans (if_neg her))
      clear her
      obtain ⟨p1, p2, p3, o1, o2, o3, o4, o5⟩ := HLR.out er
      go_wp2_with fail
      go_region_held3 (fun W => (diskVar ⟨bb, 0, none⟩).run Tryd.prog W = .ok (.agg C4) W ∧ (logVar ⟨bb + 1, 0, none⟩).run Tryd.prog W = .ok (logV l) W) (first | exact p1 | exact p2 | exact p3) (fail)
      all_goals go_wp2_with fail
      all_goals
        refine bodyPost_ret (ret_cell_cell_tmp rfl rfl o3.out rfl o4.out) rfl ?_
        rw [HRES.out]
        exact o5.out
    subst her
    have HRES := Lib.hid (HRES0.out.trans (if_pos rfl))
    obtain ⟨p1, p2, p3, o1, o2, o3, o4, o5⟩ := HMR.out 0
    go_wp2_with fail
    go_region_held3 (fun W => (diskVar ⟨bb, 0, none⟩).run Tryd.prog W = .ok (.agg C4) W ∧ (logVar ⟨b5, 0, none⟩).run Tryd.prog W = .ok (logV m2) W) (first | exact p1 | exact p2 | exact p3) (fail)
    all_goals go_wp2_with fail
    all_goals
      refine bodyPost_ret (ret_cell_cell_tmp rfl rfl o3.out rfl o4.out) rfl ?_
      rw [HRES.out]
      exact o5.out
end Go.Proofs.YtbhjigejpdbeiaaDoor
end

section
/-
  Compact, of the reference.
-/
namespace Go.Proofs.YtbhjigejpdbeiaaDoor
open Go.RowKit Go.Shelf
set_option linter.unusedVariables false
set_option maxRecDepth 8000

/-- Behind a call that answers a disk and a log, and two new variables for them, in any order. -/
structure LaidTwo (w4 wx : World) (b11 b12 : Nat) (C C2 : Array Value) (X : Dk) (m : Dk.Log) : Prop where
  V : DVar wx b11 C2
  G : LogAt wx b12 m
  D : DiskAt wx (.agg C2) X
  B : Below w4.heap.size w4 wx
  le1 : w4.heap.size ≤ b11
  le2 : w4.heap.size ≤ b12
  tr : ∀ b, b < w4.heap.size → Clear b (.agg C) → Clear b (.agg C2)
  d4 : D4 C2
theorem laidTwo_put {w4 W : World} {b11 b12 : Nat} {C C2 : Array Value} {X : Dk} {m : Dk.Log} (ht1 : W.there b11 0 4) (ht2 : W.there b12 0 3) (hne : b11 ≠ b12) (hd : DiskAt W (.agg C2) X) (hc1 : Clear b11 (.agg C2)) (hc2 : Clear b12 (.agg C2)) (hB : Below w4.heap.size w4 W)
    (le1 : w4.heap.size ≤ b11) (le2 : w4.heap.size ≤ b12) (tr : ∀ b, b < w4.heap.size → Clear b (.agg C) → Clear b (.agg C2)) (d4 : D4 C2) : LaidTwo w4 (putLog (putDisk W b11 C2) b12 m) b11 b12 C C2 X m := by
  have hlt1 : b11 < W.heap.size := by
    have := (ht1 0 (by decide)).1
    rcases Nat.lt_or_ge b11 W.heap.size with q | q
    · exact q
    · simp [World.cell?, Array.getElem?_eq_none q] at this
  have hv : DVar (putDisk W b11 C2) b11 C2 := dvar_put hlt1 ht1 d4
  have ht3 : (putDisk W b11 C2).there b12 0 3 := World.there_setCells ht2 _ _ _
  exact ⟨hv.keepb (by rw [size_putLog]; exact Nat.le_refl _) (heap_putLog _ _ _ _ hne), logAt_put ht3 m,
    (hd.keep hc1 (by rw [size_putDisk]; exact Nat.le_refl _) (fun q _ hq => heap_putDisk _ _ _ _ hq)).keep hc2 (by rw [size_putLog]; exact Nat.le_refl _) (fun q _ hq => heap_putLog _ _ _ _ hq),
    below_putLog (below_putDisk hB le1 C2) le2 m, le1, le2, tr, d4⟩
theorem laidTwo_new {w4 W : World} {b11 b12 : Nat} {C C2 : Array Value} {X : Dk} {m : Dk.Log} (hb : b11 = W.heap.size) (ht2 : W.there b12 0 3) (hd : DiskAt W (.agg C2) X) (hc2 : Clear b12 (.agg C2)) (hB : Below w4.heap.size w4 W)
    (le2 : w4.heap.size ≤ b12) (tr : ∀ b, b < w4.heap.size → Clear b (.agg C) → Clear b (.agg C2)) (d4 : D4 C2) : LaidTwo w4 (putLog (W.alloc (.cells C2 25)) b12 m) b11 b12 C C2 X m := by
  subst hb
  have hlt2 : b12 < W.heap.size := by
    have := (ht2 0 (by decide)).1
    rcases Nat.lt_or_ge b12 W.heap.size with q | q
    · exact q
    · simp [World.cell?, Array.getElem?_eq_none q] at this
  have hba := (Below.refl W.heap.size W).alloc (Nat.le_refl _) (.cells C2 25)
  have hv : DVar (W.alloc (.cells C2 25)) W.heap.size C2 := dvar_new W d4
  have ht3 : (W.alloc (.cells C2 25)).there b12 0 3 := there_below ht2 hba hlt2
  exact ⟨hv.keepb (by rw [size_putLog]; exact Nat.le_refl _) (heap_putLog _ _ _ _ (by omega)), logAt_put ht3 m,
    (hd.kept hba (Nat.le_refl _)).keep hc2 (by rw [size_putLog]; exact Nat.le_refl _) (fun q _ hq => heap_putLog _ _ _ _ hq),
    below_putLog (hB.trans (hba.mono hB.size)) le2 m, hB.size, le2, tr, d4⟩
theorem diskAt_alloc {w : World} {v : Value} {d : Dk} (h : DiskAt w v d) (x : Obj) : DiskAt (w.alloc x) v d := h.kept ((Below.refl w.heap.size w).alloc (Nat.le_refl _) x) (Nat.le_refl _)
theorem there_alloc {w : World} {b o n : Nat} (h : w.there b o n) (hb : b < w.heap.size) (x : Obj) : (w.alloc x).there b o n := there_below h ((Below.refl w.heap.size w).alloc (Nat.le_refl _) x) hb
theorem there_lt {w : World} {b o n : Nat} (h : w.there b o n) (hn : 0 < n) : b < w.heap.size := by
  have := (h 0 hn).1
  rcases Nat.lt_or_ge b w.heap.size with q | q
  · exact q
  · simp [World.cell?, Array.getElem?_eq_none q] at this
theorem there_disk_alloc {w : World} {b : Nat} (h : w.there b 0 4) (x : Obj) : (w.alloc x).there b 0 4 := there_alloc h (there_lt h (by decide)) x
theorem there_log_alloc {w : World} {b : Nat} (h : w.there b 0 3) (x : Obj) : (w.alloc x).there b 0 3 := there_alloc h (there_lt h (by decide)) x
theorem there_drew {w : World} {b o n : Nat} (h : w.there b o n) : w.drew.there b o n := h
theorem there_disk_at {b : Nat} (w : World) (hb : b = w.heap.size) : (w.alloc (.cells #[.slice none 0 0, .slice none 0 0, .int .i64 0, .bool false] 25)).there b 0 4 := by
  subst hb; exact there_disk w zeroD4
theorem there_log_at {b : Nat} (w : World) (hb : b = w.heap.size) : (w.alloc (.cells #[.int .i64 0, .int .i64 0, .int .i64 0] 27)).there b 0 3 := by
  subst hb; exact size_log3 w
theorem there_disk_pass {w w' : World} {b : Nat} (h : w.there b 0 4) (hx : Below w.heap.size w w') : w'.there b 0 4 := there_below h hx (there_lt h (by decide))
theorem there_log_pass {w w' : World} {b : Nat} (h : w.there b 0 3) (hx : Below w.heap.size w w') : w'.there b 0 3 := there_below h hx (there_lt h (by decide))
theorem there_putDisk {w : World} {b o n : Nat} (h : w.there b o n) (b' : Nat) (C : Array Value) : (putDisk w b' C).there b o n := World.there_setCells h _ _ _
theorem there_putLog {w : World} {b o n : Nat} (h : w.there b o n) (b' : Nat) (l : Dk.Log) : (putLog w b' l).there b o n := World.there_setCells h _ _ _
set_option maxHeartbeats 8000000 in
theorem rcompact_f (w : World) (v : Value) (d : Dk) (l : Dk.Log) (v2 : Value) (rs : List (List UInt8)) (hd : DiskAt w v d) (hL : LaidR w) (hs : d.secs.length ≤ 1000000) (hn2 : rs.length ≤ 100000) (hrl : ∀ r ∈ rs, r.length ≤ 100000000) (hr : RecsAt w v2 rs) :
    Calls Tryd.prog 27 #[v, logV l, v2] w fun e w' => DiskOut3 v (d.compact l rs).1 (d.compact l rs).2.1 (d.compact l rs).2.2 w e w' := by
  have HRECS := Lib.hid hr
  obtain ⟨A, n, c, vs, rfl, hn, hrow, hset⟩ := hr
  have HN := Lib.hid hn
  have HROW := Lib.hid hrow
  have HSET := Lib.hid hset
  obtain ⟨C, rfl, h4⟩ := hd.agg
  obtain ⟨w1, hw1⟩ : ∃ w1, w1 = (((w.alloc (.cells C 25)).alloc (.cells #[.int .i64 l.half, .int .i64 l.gen, .int .i64 l.used] 27)).alloc (.cells #[.slice none 0 0, .slice none 0 0, .int .i64 0, .bool false] 25)).alloc (.cells #[.int .i64 0, .int .i64 0, .int .i64 0] 27) := ⟨_, rfl⟩
  obtain ⟨hret, hbox, hth, hlog, hs1⟩ := ret_four_new w h4 hd l hw1
  have HRET := Lib.hid hret
  have HBOX := Lib.hid hbox
  have HDV := Lib.hid (dv_first h4 hd hret)
  have HLOG := Lib.hid hlog
  have HTH := Lib.hid hth
  have H4 := Lib.hid h4
  have HD := Lib.hid hd
  have HL := Lib.hid hL
  have HW := Lib.hid hw1
  have HS1 := Lib.hid hs1
  have HSEC := Lib.hid hs
  have HRL := Lib.hid hrl
  obtain ⟨bb, hbb⟩ : ∃ bb, bb = w.heap.size := ⟨_, rfl⟩
  have HBB := Lib.hid hbb
  rw [← hbb] at HRET HBOX HDV HS1 HLOG HTH
  have hn3 : n ≤ 100000 := by omega
  clear hd h4 hL hw1 hret hbox hth hlog hs1 hbb hs hn hrow hset hrl hn2
  have HCOM := Lib.hid (compact_is d l rs)
  have HRF := Lib.hid (ready_ref d l)
  have HBAD := Lib.hid (show ∀ e, d.ready l = e → e ≠ 0 → d.compact l rs = (d, l, e) from fun e he h0 => by rw [HCOM.out, if_neg (by rw [he]; exact h0), he])
  have hl0 := HBOX.out.load
  go_enter Tryd.func27, Tryd.ntmps27
  go_upto_region 1 with fail
  rw [← HW.out, ← HBB.out]
  go_wp2_with fail
  refine (rable_f w1 C d HBOX.out.disk H4.out).mono ?_
  rintro e w2 ⟨rfl, hb2⟩
  have HRET2 := Lib.hid (HRET.out.on hb2 HRET.out.lt)
  have HDV2 := Lib.hid (HDV.out.on hb2 (Nat.le_refl _))
  have HBOX2 := Lib.hid (HBOX.out.below hb2)
  have HLOG2 := Lib.hid (HLOG.out.on hb2 HLOG.out.lt)
  have HRR := Lib.hid (fun e => ret_region HDV2.out HRET2.out HBOX2.out.var HLOG2.out (by omega) (by omega) e)
  obtain ⟨A2, c2, c0, c3⟩ := HBOX2.out.cells
  have HABL := Lib.hid (show ableB d = true → d.right = true from fun q => by
    rw [ableB, Bool.and_eq_true] at q
    exact q.1)
  clear hb2 hl0 c0
  generalize ableB d = ab at *
  cases ab
  case false =>
    have HRES := Lib.hid (HBAD.out 1 HRF.out (by decide))
    obtain ⟨p1, p2, p3, o1, o2, o3, o4, o5⟩ := HRR.out 1
    go_wp2_with fail
    go_region_held3 (fun W => (diskVar ⟨bb, 0, none⟩).run Tryd.prog W = .ok (.agg C) W ∧ (logVar ⟨bb + 1, 0, none⟩).run Tryd.prog W = .ok (logV l) W) (first | exact p1 | exact p2 | exact p3) (fail)
    all_goals go_wp2_with fail
    all_goals
      refine bodyPost_ret (ret_cell_cell_tmp rfl rfl o3.out rfl o4.out) rfl ?_
      rw [HRES.out]
      exact o5.out
  generalize hdn : d.down = dn at *
  cases dn
  case true =>
    have HRES := Lib.hid (HBAD.out 9 HRF.out (by decide))
    obtain ⟨p1, p2, p3, o1, o2, o3, o4, o5⟩ := HRR.out 9
    go_wp2_with fail
    go_region_held3 (fun W => (diskVar ⟨bb, 0, none⟩).run Tryd.prog W = .ok (.agg C) W ∧ (logVar ⟨bb + 1, 0, none⟩).run Tryd.prog W = .ok (logV l) W) (first | exact p1 | exact p2 | exact p3) (fail)
    all_goals go_wp2_with fail
    all_goals
      refine bodyPost_ret (ret_cell_cell_tmp rfl rfl o3.out rfl o4.out) rfl ?_
      rw [HRES.out]
      exact o5.out
  have HRT := Lib.hid (HABL.out rfl)
  clear hdn
  have hl2 := HBOX2.out.load
  have hg2 := HLOG2.out.load
  go_wp2_with fail
  refine (rlogged_f w2 C d l HBOX2.out.disk H4.out HSEC.out).mono ?_
  rintro e w3 ⟨rfl, hb3⟩
  have HRET3 := Lib.hid (HRET2.out.on hb3 HRET2.out.lt)
  have HDV3 := Lib.hid (HDV2.out.on hb3 (Nat.le_refl _))
  have HBOX3 := Lib.hid (HBOX2.out.below hb3)
  have HLOG3 := Lib.hid (HLOG2.out.on hb3 HLOG2.out.lt)
  have HRR3 := Lib.hid (fun e => ret_region HDV3.out HRET3.out HBOX3.out.var HLOG3.out (by omega) (by omega) e)
  have HLGD := Lib.hid (show d.logged l = true → d.ready l = 0 from fun q => by rw [HRF.out, q]; rfl)
  clear hb3 hl2 hg2 c3
  generalize d.logged l = lg at *
  cases lg
  case false =>
    have HRES := Lib.hid (HBAD.out 1 HRF.out (by decide))
    obtain ⟨p1, p2, p3, o1, o2, o3, o4, o5⟩ := HRR3.out 1
    go_wp2_with fail
    go_region_held3 (fun W => (diskVar ⟨bb, 0, none⟩).run Tryd.prog W = .ok (.agg C) W ∧ (logVar ⟨bb + 1, 0, none⟩).run Tryd.prog W = .ok (logV l) W) (first | exact p1 | exact p2 | exact p3) (fail)
    all_goals go_wp2_with fail
    all_goals
      refine bodyPost_ret (ret_cell_cell_tmp rfl rfl o3.out rfl o4.out) rfl ?_
      rw [HRES.out]
      exact o5.out
  have hready := HLGD.out rfl
  have HCOM1 := Lib.hid (HCOM.out.trans (if_pos hready))
  obtain ⟨hab, hf, u, hlh, hlu, hf1, hu1, hu2, hg1, hg2⟩ := ready_zero hready
  have HUP := Lib.hid (able_up hab)
  have hhf : d.half = d.secs.length / 2 := rfl
  have HHF := Lib.hid (show d.half ≤ 1024 by have := HUP.out.2.2.2; omega)
  have HLH := Lib.hid hlh
  have HLU := Lib.hid hlu
  have HU := Lib.hid (And.intro hu1 hu2)
  clear hab hlh hhf hg1 hg2 hready HCOM
  go_wp2_with fail
  go_loopw [9, 10] (fun us ix wr => ∃ k q : Nat, us = .int .i64 (q : Int) ∧ ix = .int .i64 (k : Int) ∧ k ≤ n ∧ q ≤ 1 + 41 * k ∧ Hid (Dk.wantF rs 1 = Dk.wantF (rs.drop k) q) ∧ wr = w3) (fun us ix wr => n - (intOf ix).toNat)
  case atStart => exact ⟨0, 1, rfl, rfl, by omega, by omega, Lib.hid rfl, rfl⟩
  case round =>
    obtain ⟨k, q, rfl, rfl, hk, hq, HWT, rfl⟩ := hrel
    by_cases hlt : k < n
    case pos =>
      have hdn : decide (k < n) = true := by simp; omega
      have hkl : k < rs.length := by have := HN.out; omega
      obtain ⟨r, hr⟩ : ∃ r, r = rs[k] := ⟨_, rfl⟩
      have HRK := Lib.hid (show rs[k]? = some r by rw [hr]; exact List.getElem?_eq_getElem hkl)
      have HDR := Lib.hid (show rs.drop k = r :: rs.drop (k + 1) by rw [hr]; exact List.drop_eq_getElem_cons hkl)
      have HR4 := Lib.hid (HRL.out r (by rw [hr]; exact List.getElem_mem hkl))
      clear hr
      obtain ⟨B, m, kk, hck, hm, hrowB, _⟩ := HSET.out.row k r HRK.out
      have HM := Lib.hid hm
      obtain ⟨b, o, rfl, hb, hX⟩ := row_at HROW.out (by omega)
      have hc0 : wr.cell? ⟨b, o + k, none⟩ = some (.slice B m kk) := by
        have := range_below hX HRET3.out.below hb
        exact this k _ hck
      have hm8 : m ≤ 100000000 := by rw [hm]; exact HR4.out
      have HWT2 := Lib.hid (show Dk.wantF rs 1 = if 4096 < m then none else Dk.wantF (rs.drop (k + 1)) (q + sizeN m) by rw [HWT.out, HDR.out, Dk.wantF, hm])
      clear hck hm hrowB hb hX
      by_cases hlong : 4096 < m
      case pos =>
        have hdl : decide (4096 < (m : Int)) = true := by simp; omega
        have HW0 := Lib.hid (HWT2.out.trans (if_pos hlong))
        have HRES := Lib.hid (show d.compact l rs = (d, l, 3) by rw [HCOM1.out, HW0.out])
        clear hlong
        obtain ⟨p1, p2, p3, o1, o2, o3, o4, o5⟩ := HRR3.out 3
        go_wp2_with fail
        go_region_held3 (fun W => (diskVar ⟨bb, 0, none⟩).run Tryd.prog W = .ok (.agg C) W ∧ (logVar ⟨bb + 1, 0, none⟩).run Tryd.prog W = .ok (logV l) W) (first | exact p1 | exact p2 | exact p3) (fail)
        all_goals go_wp2_with fail
        all_goals
          refine bodyPost_ret (ret_cell_cell_tmp rfl rfl o3.out rfl o4.out) rfl ?_
          rw [HRES.out]
          exact o5.out
      have hdl : decide (4096 < (m : Int)) = false := by simp; omega
      have HW1 := Lib.hid (HWT2.out.trans (if_neg hlong))
      have HSZ := Lib.hid (show Calls Tryd.prog 17 #[.int .i64 (m : Int)] wr fun e w' => e = .returned (.int .i64 (sizeN m)) ∧ w' = wr by
        have := rsize_f wr (m : Int) (by omega) (by omega)
        rwa [jsize_cast] at this)
      have HZ := Lib.hid (Jp.sizeN_pos (n := m) (by omega))
      obtain ⟨z, hz⟩ : ∃ z, z = sizeN m := ⟨_, rfl⟩
      rw [← hz] at HSZ HW1 HZ
      have hz41 : z ≤ 41 := HZ.out.2.2.2.1
      have hs2 : IntKind.i64.wrap ((q : Int) + (z : Int)) = (q : Int) + (z : Int) := IntWalk.i64_in _ (by omega)
      clear hz hlong
      go_wp2_with fail
      refine HSZ.out.mono ?_
      rintro e w' ⟨rfl, rfl⟩
      go_wp2_with fail
      go_roundw
      case rel => exact ⟨k + 1, q + z, by simp, by simp, by omega, by omega, HW1, trivial⟩
      case measure => simp [intOf]; omega
    have hdn : decide (k < n) = false := by simp; omega
    have HW0 := Lib.hid (show Dk.wantF rs 1 = some q by rw [HWT.out, List.drop_eq_nil_of_le (by have := HN.out; omega)]; rfl)
    have HCOM2 := Lib.hid (show d.compact l rs = if d.half < q then (d, l, 10) else
       match d.lay (1 - l.half).toNat rs with
       | (x, m, e) => if e = 0 then (x, m, 0) else (x, l, e) by rw [HCOM1.out, HW0.out])
    have HWL := Lib.hid (want_len rs 1 q HW0.out)
    obtain ⟨As, cS, c0, _⟩ := HBOX3.out.cells
    have hd2 : (d.secs.length : Int) / 2 = (d.half : Int) := rfl
    have hsn2 : d.secs.length ≤ 2048 := HUP.out.2.2.2
    have hhm : d.half ≤ 1024 := HHF.out
    have hs0 : IntKind.i64.wrap (d.half : Int) = (d.half : Int) := IntWalk.i64_in _ (by omega)
    obtain ⟨m, hm⟩ : ∃ m, m = d.half := ⟨_, rfl⟩
    rw [← hm] at hd2 HCOM2 hs0 hhm
    obtain ⟨sn, hsn⟩ : ∃ sn, sn = d.secs.length := ⟨_, rfl⟩
    rw [← hsn] at hd2 hsn2 c0
    have HM := Lib.hid hm
    have HSN := Lib.hid hsn
    clear hm hsn hlt
    by_cases hfull : m < q
    case pos =>
      have hdf : decide ((m : Int) < (q : Int)) = true := by simp; omega
      have hdf2 : decide (m < q) = true := by simp; omega
      have HRES := Lib.hid (HCOM2.out.trans (if_pos hfull))
      clear hfull
      obtain ⟨p1, p2, p3, o1, o2, o3, o4, o5⟩ := HRR3.out 10
      go_wp2_with fail
      go_region_held3 (fun W => (diskVar ⟨bb, 0, none⟩).run Tryd.prog W = .ok (.agg C) W ∧ (logVar ⟨bb + 1, 0, none⟩).run Tryd.prog W = .ok (logV l) W) (first | exact p1 | exact p2 | exact p3) (fail)
      all_goals go_wp2_with fail
      all_goals
        refine bodyPost_ret (ret_cell_cell_tmp rfl rfl o3.out rfl o4.out) rfl ?_
        rw [HRES.out]
        exact o5.out
    have hdf : decide ((m : Int) < (q : Int)) = false := by simp; omega
    have hdf2 : decide (m < q) = false := by simp; omega
    have HCOM3 := Lib.hid (HCOM2.out.trans (if_neg hfull))
    have hl3 := HBOX3.out.load
    have HDN := Lib.hid HUP.out.2.1
    have HLY := Lib.hid (lay_is d (1 - hf) rs)
    have HNEXT := Lib.hid (show ∀ W, Below (bb + 1) wr W → RetAt w W (bb + 1 + 1) (bb + 1 + 1 + 1) → Calls Tryd.prog 42 #[.agg C] W fun e w' => e = .returned (.int .i64 (d.top + 1)) ∧ Below W.heap.size W w' from fun W hW hR =>
      (rnext_f W C d (HD.out.kept hR.below (Nat.le_refl _)) H4.out HRT.out HDN.out (HL.out.below hR.below HL.out.size)).mono fun _ _ h => h)
    obtain ⟨tp, htp⟩ : ∃ tp, tp = d.top := ⟨_, rfl⟩
    rw [← htp] at HNEXT HLY
    have HTB := Lib.hid (topBounds d d.secs.length)
    have HQM := Lib.hid (Nat.le_of_not_lt hfull)
    clear htp hfull
    go_wp2_with fail
    refine (HNEXT.out wr (Below.refl _ _) HRET3.out).mono ?_
    rintro e w4 ⟨rfl, hb4⟩
    have HRET4 := Lib.hid (HRET3.out.on hb4 HRET3.out.lt)
    have HDV4 := Lib.hid (HDV3.out.on hb4 (Nat.le_refl _))
    have HBOX4 := Lib.hid (HBOX3.out.below hb4)
    have HLOG4 := Lib.hid (HLOG3.out.on hb4 HLOG3.out.lt)
    have HB4 := Lib.hid hb4
    clear hb4 hl3 c0
    have e1 : (1 - l.half).toNat = 1 - hf := by rw [HLH.out]; omega
    rw [e1] at HCOM3
    clear e1
    by_cases ht : 1099511627776 ≤ tp
    case pos =>
      have hd5 : decide (1099511627776 < tp + 1) = true := by simp; omega
      have HRES := Lib.hid (show d.compact l rs = (d, l, 5) by rw [HCOM3.out, HLY.out, if_pos ht]; rfl)
      clear ht
      obtain ⟨p1, p2, p3, o1, o2, o3, o4, o5⟩ := ret_region HDV4.out HRET4.out HBOX4.out.var HLOG4.out (by omega) (by omega) 5
      go_wp2_with fail
      go_region_held3 (fun W => (diskVar ⟨bb, 0, none⟩).run Tryd.prog W = .ok (.agg C) W ∧ (logVar ⟨bb + 1, 0, none⟩).run Tryd.prog W = .ok (logV l) W) (first | exact p1 | exact p2 | exact p3) (fail)
      all_goals go_wp2_with fail
      all_goals
        refine bodyPost_ret (ret_cell_cell_tmp rfl rfl o3.out rfl o4.out) rfl ?_
        rw [HRES.out]
        exact o5.out
    have hd5 : decide (1099511627776 < tp + 1) = false := by simp; omega
    have HLY2 := Lib.hid (HLY.out.trans (if_neg ht))
    clear ht
    obtain ⟨X, m2, er, hX⟩ : ∃ X m2 er, layR d (1 - hf) (tp + 1) rs = (X, m2, er) := ⟨_, _, _, rfl⟩
    have HRES0 := Lib.hid (show d.compact l rs = if er = 0 then (X, m2, 0) else (X, l, er) by rw [HCOM3.out, HLY2.out, hX])
    have HX := Lib.hid hX
    have HSZ4 := Lib.hid (show bb + 1 + 1 + 1 < w4.heap.size from HRET4.out.lt)
    have hs4 : IntKind.i64.wrap (1 - (hf : Int)) = ((1 - hf : Nat) : Int) := by rw [IntWalk.i64_in _ (by omega)]; omega
    have HNX := Lib.hid (show ∀ W, Below w4.heap.size w4 W → Calls Tryd.prog 42 #[.agg C] W fun e w' => e = .returned (.int .i64 (tp + 1)) ∧ Below w4.heap.size w4 w' ∧ Below W.heap.size W w' from fun W hW =>
      (HNEXT.out W ((HB4.out.mono (by have := HRET3.out.lt; omega)).trans (hW.mono (by have := HSZ4.out; omega))) (HRET4.out.on hW HSZ4.out)).mono fun _ _ ⟨h1, h2⟩ => ⟨h1, below_chain hW h2, h2⟩)
    have HLA := Lib.hid (show ∀ W, Below w4.heap.size w4 W → Calls Tryd.prog 43 #[.agg C, .int .i64 ((1 - hf : Nat) : Int), .int .i64 (tp + 1), .slice A n c] W fun e w' => ∃ C2, e = .returned (.tuple #[.agg C2, logV m2, .int .i64 er]) ∧ D4 C2 ∧ DiskAt w' (.agg C2) X ∧ (∀ b, b < W.heap.size → Clear b (.agg C) → Clear b (.agg C2)) ∧ Below w4.heap.size w4 w' ∧ Below W.heap.size W w' from fun W hW =>
      (rlay_f W C d (1 - hf) (tp + 1) (.slice A n c) rs ((HBOX4.out.below hW).disk) H4.out (by omega) HUP.out.2.2.2 (HRECS.out.kept (HRET4.out.on hW HSZ4.out).below (Nat.le_refl _)) (by have := HWL.out.1; have := HQM.out; omega) HWL.out.2 (HL.out.below (HRET4.out.on hW HSZ4.out).below HL.out.size)).mono fun e w' ⟨⟨u, h1, hg⟩, hb⟩ => by
        rw [HX.out] at h1 hg
        obtain ⟨C2, rfl, hc2⟩ := hg.1.agg
        exact ⟨C2, h1, hc2, hg.1, hg.2, below_chain hW hb, hb⟩)
    have HK := Lib.hid (show ∀ W, Below w4.heap.size w4 W → (diskVar ⟨bb, 0, none⟩).run Tryd.prog W = .ok (.agg C) W ∧ W.cell? ⟨bb + 1, 0, none⟩ = some (.int .i64 (hf : Int)) from fun W hW => by
      have h1 := ((HLOG4.out.on hW HLOG4.out.lt).cells).1
      rw [HLH.out] at h1
      exact ⟨(HBOX4.out.below hW).load, h1⟩)
    have hb0 : Below w4.heap.size w4 w4.drew := (Below.refl _ _).drew
    clear hX
    go_wp2_with fail
    go_cut [11, 12, 13] from 67 to 78 (fun s11 s12 s13 wx => ∃ b11 b12 C2, s11 = .pointer (some ⟨b11, 0, none⟩) ∧ s12 = .pointer (some ⟨b12, 0, none⟩) ∧ s13 = .int .i64 er ∧ LaidTwo w4 wx b11 b12 C C2 X m2)
    case first =>
      go_region_held3 (fun W => (diskVar ⟨bb, 0, none⟩).run Tryd.prog W = .ok (.agg C) W ∧ W.cell? ⟨bb + 1, 0, none⟩ = some (.int .i64 (hf : Int)))
        (exact HK.out _ (by (repeat' (first | with_reducible exact hbc | with_reducible exact hba | with_reducible exact hb0 | with_reducible refine below_putLog ?_ ?_ _ | with_reducible refine below_putDisk ?_ ?_ _ | with_reducible refine below_new ?_ _ | with_reducible refine Below.drew ?_ | with_reducible exact Below.refl _ _ | with_reducible exact Nat.le_refl _ | (simp [size_putDisk, size_putLog]; done) | (have h9 := hbc.size; simp [size_putDisk, size_putLog]; omega) | (have h9 := hba.size; simp [size_putDisk, size_putLog]; omega)))))
        (first
          | (go_at_call 42
             (with_reducible refine (HNX.out _ ?_).mono ?_)
             · (repeat' (first | with_reducible exact hbc | with_reducible exact hba | with_reducible exact hb0 | with_reducible refine below_putLog ?_ ?_ _ | with_reducible refine below_putDisk ?_ ?_ _ | with_reducible refine below_new ?_ _ | with_reducible refine Below.drew ?_ | with_reducible exact Below.refl _ _ | with_reducible exact Nat.le_refl _ | (simp [size_putDisk, size_putLog]; done) | (have h9 := hbc.size; simp [size_putDisk, size_putLog]; omega) | (have h9 := hba.size; simp [size_putDisk, size_putLog]; omega)))
             rintro e wa ⟨rfl, hba, hxa⟩)
          | (go_at_call 43
             (with_reducible refine (HLA.out _ ?_).mono ?_)
             · (repeat' (first | with_reducible exact hbc | with_reducible exact hba | with_reducible exact hb0 | with_reducible refine below_putLog ?_ ?_ _ | with_reducible refine below_putDisk ?_ ?_ _ | with_reducible refine below_new ?_ _ | with_reducible refine Below.drew ?_ | with_reducible exact Below.refl _ _ | with_reducible exact Nat.le_refl _ | (simp [size_putDisk, size_putLog]; done) | (have h9 := hbc.size; simp [size_putDisk, size_putLog]; omega) | (have h9 := hba.size; simp [size_putDisk, size_putLog]; omega)))
             rintro e wc ⟨C2, rfl, hc2, hg1, hg2, hbc, hxc⟩)
          | (rw [store_disk (by (repeat' (first | with_reducible exact there_disk _ zeroD4 | with_reducible exact there_disk_at _ (by simp) | with_reducible exact size_log3 _ | with_reducible exact there_log_at _ (by simp) | with_reducible refine there_disk_pass ?_ hxc | with_reducible refine there_disk_pass ?_ hxa | with_reducible refine there_log_pass ?_ hxc | with_reducible refine there_log_pass ?_ hxa | with_reducible refine there_drew ?_ | with_reducible refine there_disk_alloc ?_ _ | with_reducible refine there_log_alloc ?_ _ | with_reducible refine there_putDisk ?_ _ _ | with_reducible refine there_putLog ?_ _ _))) hc2]
             go_simp)
          | (rw [store_log (by (repeat' (first | with_reducible exact there_disk _ zeroD4 | with_reducible exact there_disk_at _ (by simp) | with_reducible exact size_log3 _ | with_reducible exact there_log_at _ (by simp) | with_reducible refine there_disk_pass ?_ hxc | with_reducible refine there_disk_pass ?_ hxa | with_reducible refine there_log_pass ?_ hxc | with_reducible refine there_log_pass ?_ hxa | with_reducible refine there_drew ?_ | with_reducible refine there_disk_alloc ?_ _ | with_reducible refine there_log_alloc ?_ _ | with_reducible refine there_putDisk ?_ _ _ | with_reducible refine there_putLog ?_ _ _))) m2]
             go_simp))
      all_goals go_wp2_with fail
      all_goals go_meet
      all_goals
        have s1 := hxa.size
        have s2 := hxc.size
        have s3 := hba.size
        have s4 := hbc.size
        try simp at s1
        try simp at s2
        refine ⟨_, _, C2, rfl, rfl, rfl, ?_⟩
        first
          | (with_reducible refine laidTwo_put ?_ ?_ ?_ ?_ ?_ ?_ ?_ ?_ ?_ ?_ hc2
             · (repeat' (first | with_reducible exact there_disk _ zeroD4 | with_reducible exact there_disk_at _ (by simp) | with_reducible exact size_log3 _ | with_reducible exact there_log_at _ (by simp) | with_reducible refine there_disk_pass ?_ hxc | with_reducible refine there_disk_pass ?_ hxa | with_reducible refine there_log_pass ?_ hxc | with_reducible refine there_log_pass ?_ hxa | with_reducible refine there_drew ?_ | with_reducible refine there_disk_alloc ?_ _ | with_reducible refine there_log_alloc ?_ _ | with_reducible refine there_putDisk ?_ _ _ | with_reducible refine there_putLog ?_ _ _))
             · (repeat' (first | with_reducible exact there_disk _ zeroD4 | with_reducible exact there_disk_at _ (by simp) | with_reducible exact size_log3 _ | with_reducible exact there_log_at _ (by simp) | with_reducible refine there_disk_pass ?_ hxc | with_reducible refine there_disk_pass ?_ hxa | with_reducible refine there_log_pass ?_ hxc | with_reducible refine there_log_pass ?_ hxa | with_reducible refine there_drew ?_ | with_reducible refine there_disk_alloc ?_ _ | with_reducible refine there_log_alloc ?_ _ | with_reducible refine there_putDisk ?_ _ _ | with_reducible refine there_putLog ?_ _ _))
             · first | omega | (simp; done) | (simp; omega)
             · repeat' (first | with_reducible exact hg1 | with_reducible refine diskAt_alloc ?_ _)
             · first | with_reducible exact hg1.clear (by first | omega | (simp; done) | (simp; omega)) | with_reducible exact hg2 _ (by first | omega | (simp; done) | (simp; omega)) (HBOX4.out.disk.clear (by first | omega | (simp; done) | (simp; omega)))
             · first | with_reducible exact hg1.clear (by first | omega | (simp; done) | (simp; omega)) | with_reducible exact hg2 _ (by first | omega | (simp; done) | (simp; omega)) (HBOX4.out.disk.clear (by first | omega | (simp; done) | (simp; omega)))
             · (repeat' (first | with_reducible exact hbc | with_reducible exact hba | with_reducible exact hb0 | with_reducible refine below_putLog ?_ ?_ _ | with_reducible refine below_putDisk ?_ ?_ _ | with_reducible refine below_new ?_ _ | with_reducible refine Below.drew ?_ | with_reducible exact Below.refl _ _ | with_reducible exact Nat.le_refl _ | (simp [size_putDisk, size_putLog]; done) | (have h9 := hbc.size; simp [size_putDisk, size_putLog]; omega) | (have h9 := hba.size; simp [size_putDisk, size_putLog]; omega)))
             · first | omega | (simp; done) | (simp; omega)
             · first | omega | (simp; done) | (simp; omega)
             · exact fun b hb hc => hg2 b (by first | omega | (simp; done) | (simp; omega)) hc)
          | (with_reducible refine laidTwo_new ?_ ?_ ?_ ?_ ?_ ?_ ?_ hc2
             · first | with_reducible rfl | (simp; done)
             · (repeat' (first | with_reducible exact there_disk _ zeroD4 | with_reducible exact there_disk_at _ (by simp) | with_reducible exact size_log3 _ | with_reducible exact there_log_at _ (by simp) | with_reducible refine there_disk_pass ?_ hxc | with_reducible refine there_disk_pass ?_ hxa | with_reducible refine there_log_pass ?_ hxc | with_reducible refine there_log_pass ?_ hxa | with_reducible refine there_drew ?_ | with_reducible refine there_disk_alloc ?_ _ | with_reducible refine there_log_alloc ?_ _ | with_reducible refine there_putDisk ?_ _ _ | with_reducible refine there_putLog ?_ _ _))
             · repeat' (first | with_reducible exact hg1 | with_reducible refine diskAt_alloc ?_ _)
             · first | with_reducible exact hg1.clear (by first | omega | (simp; done) | (simp; omega)) | with_reducible exact hg2 _ (by first | omega | (simp; done) | (simp; omega)) (HBOX4.out.disk.clear (by first | omega | (simp; done) | (simp; omega)))
             · (repeat' (first | with_reducible exact hbc | with_reducible exact hba | with_reducible exact hb0 | with_reducible refine below_putLog ?_ ?_ _ | with_reducible refine below_putDisk ?_ ?_ _ | with_reducible refine below_new ?_ _ | with_reducible refine Below.drew ?_ | with_reducible exact Below.refl _ _ | with_reducible exact Nat.le_refl _ | (simp [size_putDisk, size_putLog]; done) | (have h9 := hbc.size; simp [size_putDisk, size_putLog]; omega) | (have h9 := hba.size; simp [size_putDisk, size_putLog]; omega)))
             · first | omega | (simp; done) | (simp; omega)
             · exact fun b hb hc => hg2 b (by first | omega | (simp; done) | (simp; omega)) hc)
    case rest =>
      rename World => wx
      obtain ⟨b11, b12, C2, rfl, rfl, rfl, hlt2⟩ := hcut
      have HRETX := Lib.hid (HRET4.out.on hlt2.B HRET4.out.lt)
      have HLOGX := Lib.hid (HLOG4.out.on hlt2.B HLOG4.out.lt)
      have HDVX := Lib.hid (show Dv w wx (.agg C) (bb + 1 + 1) (bb + 1 + 1 + 1) C2 X from
        ⟨hlt2.d4, hlt2.D, hlt2.tr _ (by have := HRET4.out.ne; have := HRET4.out.lt; omega) HDV4.out.cD, hlt2.tr _ HRET4.out.lt HDV4.out.cL, fun b hb hc => hlt2.tr b (Nat.lt_of_lt_of_le hb HRET4.out.below.size) hc⟩)
      have HLE := Lib.hid (show bb + 1 + 1 + 1 < b11 ∧ bb + 1 + 1 + 1 < b12 by have := hlt2.le1; have := hlt2.le2; have := HSZ4.out; omega)
      have HVX := Lib.hid hlt2.V
      have HGX := Lib.hid hlt2.G
      clear hlt2
      by_cases her : er = 0
      case neg =>
        have hne : (er != 0) = true := by rw [bne_iff_ne]; exact her
        have HRES := Lib.hid (HRES0.out.trans (if_neg her))
        clear her
        obtain ⟨p1, p2, p3, o1, o2, o3, o4, o5⟩ := ret_region HDVX.out HRETX.out HVX.out HLOGX.out (by have := HLE.out; omega) (by omega) er
        go_wp2_with fail
        go_region_held3 (fun W => (diskVar ⟨b11, 0, none⟩).run Tryd.prog W = .ok (.agg C2) W ∧ (logVar ⟨bb + 1, 0, none⟩).run Tryd.prog W = .ok (logV l) W) (first | exact p1 | exact p2 | exact p3) (fail)
        all_goals go_wp2_with fail
        all_goals
          refine bodyPost_ret (ret_cell_cell_tmp rfl rfl o3.out rfl o4.out) rfl ?_
          rw [HRES.out]
          exact o5.out
      subst her
      have HRES := Lib.hid (HRES0.out.trans (if_pos rfl))
      obtain ⟨p1, p2, p3, o1, o2, o3, o4, o5⟩ := ret_region HDVX.out HRETX.out HVX.out HGX.out (by have := HLE.out; omega) (by have := HLE.out; omega) 0
      go_wp2_with fail
      go_region_held3 (fun W => (diskVar ⟨b11, 0, none⟩).run Tryd.prog W = .ok (.agg C2) W ∧ (logVar ⟨b12, 0, none⟩).run Tryd.prog W = .ok (logV m2) W) (first | exact p1 | exact p2 | exact p3) (fail)
      all_goals go_wp2_with fail
      all_goals
        refine bodyPost_ret (ret_cell_cell_tmp rfl rfl o3.out rfl o4.out) rfl ?_
        rw [HRES.out]
        exact o5.out
end Go.Proofs.YtbhjigejpdbeiaaDoor
end

section
/-
  Open, of the program.
-/
namespace Go.Proofs.YtbhjigejpdbeiaaDoor
open Go.RowKit Go.Shelf
set_option linter.unusedVariables false
set_option maxRecDepth 8000

theorem ret_cells_tmps {fn : Func} {c1 c2 e f : Tmp} {t1 t2 : TypeId} (h : fn.results = #[.cell c1 t1, .cell c2 t2, .tmp e, .tmp f]) {tmps : Array Value} {a1 a2 : Addr} {u1 u2 : Value} {P : Program} {w : World}
    (hc1 : tmps.getD c1 undef = .pointer (some a1)) (hl1 : (loadVar t1 a1).run P w = .ok u1 w) (hc2 : tmps.getD c2 undef = .pointer (some a2)) (hl2 : (loadVar t2 a2).run P w = .ok u2 w) :
    (results fn tmps).run P w = .ok (.tuple #[u1, u2, tmps.getD e undef, tmps.getD f undef]) w := by
  have hc1' : tmps[c1]?.getD undef = .pointer (some a1) := by simpa using hc1
  have hc2' : tmps[c2]?.getD undef = .pointer (some a2) := by simpa using hc2
  simp [results, h, hc1', hc2', asAddr, Sem.run_bind, hl1, hl2]
/-- A disk, a log, records, and an error come back. -/
def OpenOut (v : Value) (o : Dk × Dk.Log × List (List UInt8) × Int) (w : World) (e : Ending) (w' : World) : Prop :=
  (∃ u vr, e = .returned (.tuple #[u, logV o.2.1, vr, .int .i64 o.2.2.2]) ∧ DiskGot v o.1 w u w' ∧ RecsFrom w' w.heap.size vr o.2.2.1) ∧ Below w.heap.size w w'
theorem open_out {v : Value} {x : Dk} {l : Dk.Log} {r : Int} {w W : World} {u vr : Value} {rs : List (List UInt8)} (h : DiskOut3 v x l r w (.returned (.tuple #[u, logV l, .int .i64 r])) W) (hr : RecsFrom W w.heap.size vr rs) : OpenOut v (x, l, rs, r) w (.returned (.tuple #[u, logV l, vr, .int .i64 r])) W := by
  obtain ⟨⟨u', e, hg⟩, hb⟩ := h
  injection e with e
  injection e with e
  have e1 : u = u' := by
    have := congrArg (fun a : Array Value => a.getD 0 undef) e
    simpa using this
  subst e1
  exact ⟨⟨u, vr, rfl, hg, hr⟩, hb⟩
theorem recs_put {W : World} {base base' bD bL : Nat} {C : Array Value} {l : Dk.Log} {vr : Value} {rs : List (List UInt8)} (h : RecsFrom W base vr rs) (h1 : bD < base) (h2 : bL < base) (h3 : base' ≤ base) : RecsFrom (putLog (putDisk W bD C) bL l) base' vr rs :=
  (h.keep (by rw [size_putLog, size_putDisk]; exact Nat.le_refl _) (fun b _ hb => (heap_putLog _ _ _ _ (by omega)).trans (heap_putDisk _ _ _ _ (by omega)))).weak h3
theorem cell_heap {w w' : World} {b o : Nat} (h : w'.heap[b]? = w.heap[b]?) : w'.cell? ⟨b, o, none⟩ = w.cell? ⟨b, o, none⟩ := by
  simp [World.cell?, h]
/-! ### The best half -/
def bst (d : Dk) : Nat → Option (List (List UInt8) × Int × Nat)
  | 0 => none
  | k + 1 => match d.used k with
    | some a => if (match bst d k with | some b => b.2.1 | none => 0) < a.2.1 then some (a.1, a.2.1, k) else bst d k
    | none => bst d k
def bestG (d : Dk) (k : Nat) : Int := match bst d k with | some b => b.2.1 | none => 0
def bestR (d : Dk) (k : Nat) : List (List UInt8) := match bst d k with | some b => b.1 | none => []
def bestH (d : Dk) (k : Nat) : Int := match bst d k with | some b => b.2.2 | none => -1
theorem used_gen {d : Dk} {h : Nat} {b : List (List UInt8) × Int × Nat} (hu : d.used h = some b) : 1 ≤ b.2.1 := by
  obtain ⟨rs, g, u⟩ := b
  obtain ⟨_, _, _, p, h1, h2⟩ := Jp.used_shape hu
  have := (Jp.at_good h1).2.1.gen0
  show 1 ≤ g
  omega
theorem bst_keep {d : Dk} {k : Nat} (h : d.used k = none) : bst d (k + 1) = bst d k := by rw [bst, h]
theorem bst_more {d : Dk} {k : Nat} {a : List (List UInt8) × Int × Nat} (h : d.used k = some a) (hg : bestG d k < a.2.1) : bst d (k + 1) = some (a.1, a.2.1, k) := by
  rw [bst, h]
  exact if_pos hg
theorem bst_less {d : Dk} {k : Nat} {a : List (List UInt8) × Int × Nat} (h : d.used k = some a) (hg : ¬ bestG d k < a.2.1) : bst d (k + 1) = bst d k := by
  rw [bst, h]
  exact if_neg hg
theorem bgen_of {d : Dk} {k : Nat} {b : List (List UInt8) × Int × Nat} (h : bst d k = some b) : bestG d k = b.2.1 := by rw [bestG, h]
theorem bgen_none {d : Dk} {k : Nat} (h : bst d k = none) : bestG d k = 0 := by rw [bestG, h]
theorem best_is (d : Dk) : d.best = (bst d 2).map fun x => (x.1, x.2.2) := by
  unfold Dk.best
  have b0 : bst d 0 = none := rfl
  cases h0 : d.used 0 with
  | none =>
    have b1 : bst d 1 = none := (bst_keep h0).trans b0
    cases h1 : d.used 1 with
    | none => rw [show bst d 2 = none from (bst_keep h1).trans b1]; rfl
    | some b =>
      have := used_gen h1
      rw [show bst d 2 = some (b.1, b.2.1, 1) from bst_more h1 (by rw [bgen_none b1]; omega)]; rfl
  | some a =>
    have := used_gen h0
    have b1 : bst d 1 = some (a.1, a.2.1, 0) := bst_more h0 (by rw [bgen_none b0]; omega)
    cases h1 : d.used 1 with
    | none => rw [show bst d 2 = some (a.1, a.2.1, 0) from (bst_keep h1).trans b1]; rfl
    | some b =>
      dsimp only
      by_cases q : a.2.1 < b.2.1
      · rw [if_pos q, show bst d 2 = some (b.1, b.2.1, 1) from bst_more h1 (by rw [bgen_of b1]; exact q)]; rfl
      · rw [if_neg q, show bst d 2 = some (a.1, a.2.1, 0) from (bst_less h1 (by rw [bgen_of b1]; exact q)).trans b1]; rfl
theorem bst_some {d : Dk} {b : List (List UInt8) × Int × Nat} (h : bst d 2 = some b) : d.best = some (b.1, b.2.2) := by rw [best_is, h]; rfl
theorem bst_none {d : Dk} (h : bst d 2 = none) : d.best = none := by rw [best_is, h]; rfl
theorem best_step_none {d : Dk} {k : Nat} (h : d.used k = none) : bestG d (k + 1) = bestG d k ∧ bestR d (k + 1) = bestR d k ∧ bestH d (k + 1) = bestH d k := by
  have : bst d (k + 1) = bst d k := by rw [bst, h]
  simp [bestG, bestR, bestH, this]
theorem best_step_less {d : Dk} {k : Nat} {a : List (List UInt8) × Int × Nat} (h : d.used k = some a) (hg : ¬ bestG d k < a.2.1) : bestG d (k + 1) = bestG d k ∧ bestR d (k + 1) = bestR d k ∧ bestH d (k + 1) = bestH d k := by
  have : bst d (k + 1) = bst d k := by
    rw [bst, h]
    exact if_neg hg
  simp [bestG, bestR, bestH, this]
theorem best_step_more {d : Dk} {k : Nat} {a : List (List UInt8) × Int × Nat} (h : d.used k = some a) (hg : bestG d k < a.2.1) : bestG d (k + 1) = a.2.1 ∧ bestR d (k + 1) = a.1 ∧ bestH d (k + 1) = (k : Int) := by
  have : bst d (k + 1) = some (a.1, a.2.1, k) := by
    rw [bst, h]
    exact if_pos hg
  simp [bestG, bestR, bestH, this]
theorem HeldAt.set2 {w : World} {b : Nat} {v : Value} {gen : Int} (s : HeldAt w b v gen) (u : Value) (g : Int) : HeldAt ((w.setCell ⟨b, 0, none⟩ u).setCell ⟨b, 1, none⟩ (.int .i64 g)) b u g := by
  have k := range_setCells s.range 0 [u, .int .i64 g] (by simp)
  exact ⟨k, World.there_setCells s.there b 0 [u, .int .i64 g]⟩
theorem grown_two (w : World) (b : Nat) (u v : Value) : w.grownBy ((w.setCell ⟨b, 0, none⟩ u).setCell ⟨b, 1, none⟩ v) (some b) := by
  obtain ⟨e1, e2, e3⟩ := streams_setCells b [u, v] 0 w
  exact ⟨e1, e2, e3, Nat.le_of_eq (size_setCells b [u, v] 0 w).symm, fun q hq hr => heap_setCells b q (fun e => hr (by rw [e])) [u, v] 0 w⟩
theorem heldAt_new (w : World) (v : Value) (g : Int) : HeldAt (w.alloc (.cells #[v, .int .i64 g] 85)) w.heap.size v g := ⟨range_new w [v, .int .i64 g] 85, there_new w [v, .int .i64 g] 85⟩
/-- Between two rounds. -/
def OoRel (d : Dk) (b7 : Nat) (w4 : World) (fr ix : Value) (wr : World) : Prop :=
  ∃ (k : Nat) (v : Value), ix = .int .i64 (k : Int) ∧ k ≤ 2 ∧ fr = .int .i64 (bestH d k) ∧ Hid (HeldAt wr b7 v (bestG d k)) ∧ Hid (RecsFrom wr (b7 + 1) v (bestR d k)) ∧ Hid (w4.grownBy wr (some b7))
set_option maxHeartbeats 4000000 in
theorem open_f (w : World) (v : Value) (d : Dk) (hd : DiskAt w v d) (hL : Laid w) :
    Calls Tryd.prog 18 #[v] w fun e w' => OpenOut v d.open_ w e w' := by
  have HSHP := Lib.hid (show ∃ A n c A' n' c' f dn, v = .agg #[.slice A n c, .slice A' n' c', .int .i64 f, .bool dn] by
    obtain ⟨A, n, c, A', n', c', e, _⟩ := hd
    exact ⟨A, n, c, A', n', c', _, _, e⟩)
  obtain ⟨C, rfl, h4⟩ := hd.agg
  obtain ⟨w1, hw1⟩ : ∃ w1, w1 = ((w.alloc (.cells C 25)).alloc (.cells #[.slice none 0 0, .slice none 0 0, .int .i64 0, .bool false] 25)).alloc (.cells #[.int .i64 0, .int .i64 0, .int .i64 0] 27) := ⟨_, rfl⟩
  obtain ⟨hret, hbox, hth, hs1⟩ := ret_three_new w h4 hd hw1
  have HRET := Lib.hid hret
  have HBOX := Lib.hid hbox
  have HDV := Lib.hid (dv_first h4 hd hret)
  have HTH := Lib.hid hth
  have H4 := Lib.hid h4
  have HD := Lib.hid hd
  have HL := Lib.hid hL
  have HW := Lib.hid hw1
  have HS1 := Lib.hid hs1
  obtain ⟨bb, hbb⟩ : ∃ bb, bb = w.heap.size := ⟨_, rfl⟩
  have HBB := Lib.hid hbb
  rw [← hbb] at HRET HBOX HDV HS1 HTH
  clear hd h4 hL hw1 hret hbox hth hs1 hbb
  have hl0 := HBOX.out.load
  go_enter Tryd.func18, Tryd.ntmps18
  go_upto_region 1 with fail
  rw [← HW.out, ← HBB.out]
  go_wp2_with fail
  refine (able_f w1 C d HBOX.out.disk H4.out).mono ?_
  rintro e w3 ⟨rfl, hb3⟩
  have HRET3 := Lib.hid (HRET.out.on hb3 HRET.out.lt)
  have HDV3 := Lib.hid (HDV.out.on hb3 (Nat.le_refl _))
  have HBOX3 := Lib.hid (HBOX.out.below hb3)
  have HTH3 := Lib.hid (there_below HTH.out hb3 (by have := HS1.out; omega))
  have hl2 := HBOX3.out.load
  obtain ⟨ab, hab⟩ : ∃ ab, ab = d.able := ⟨_, rfl⟩
  rw [← hab]
  have HAB := Lib.hid hab
  clear hb3 hl0 hab
  by_cases h0 : ab = 0
  case neg =>
    have hne : (ab != 0) = true := by rw [bne_iff_ne]; exact h0
    have HRES := Lib.hid (show d.open_ = (d, .zero, [], ab) by rw [Jp.open_bad (by rw [← HAB.out]; exact h0), HAB.out])
    clear h0
    obtain ⟨o1, o2, o3, o4, o5⟩ := HDV3.out.out HRET3.out .zero ab
    have o2 : (logSet ⟨bb + 1 + 1, 0, none⟩ (.agg #[.int .i64 0, .int .i64 0, .int .i64 0])).run Tryd.prog (putDisk w3 (bb + 1) C) = .ok () (putLog (putDisk w3 (bb + 1) C) (bb + 1 + 1) .zero) := o2
    have HO3 := Lib.hid o3
    have HO4 := Lib.hid o4
    have HO5 := Lib.hid o5
    clear o5 o3 o4
    go_wp2_with fail
    refine bodyPost_ret (ret_cells_tmps rfl rfl HO3.out rfl HO4.out) rfl ?_
    rw [HRES.out]
    exact open_out HO5.out (recsFrom_nil _ _)
  subst h0
  have HUP := Lib.hid (able_up HAB.out.symm)
  obtain ⟨S1, S2, S3, S4, S5, S6, S7, S8, hC⟩ := HSHP.out
  injection hC with hC
  subst hC
  clear hl2
  go_upto_region 6 with fail
  obtain ⟨C, hC⟩ : ∃ C : Array Value, C = #[.slice S1 S2 S3, .slice S4 S5 S6, .int .i64 S7, .bool S8] := ⟨_, rfl⟩
  have HCE := Lib.hid hC
  rw [← hC] at H4 HD HDV3 HBOX3 HDV HBOX
  clear hC
  obtain ⟨w4, hw4⟩ : ∃ w4, w4 = w3.alloc (.cells #[.slice none 0 0, .int .i64 0] 85) := ⟨_, rfl⟩
  obtain ⟨b7, hb7⟩ : ∃ b7, b7 = w3.heap.size := ⟨_, rfl⟩
  rw [← hw4, ← hb7]
  have hb34 : Below w3.heap.size w3 w4 := by rw [hw4]; exact (Below.refl _ _).alloc (Nat.le_refl _) _
  have HRET4 := Lib.hid (HRET3.out.on hb34 HRET3.out.lt)
  have HBOX4 := Lib.hid (HBOX3.out.below hb34)
  have HTH4 := Lib.hid (there_below HTH3.out hb34 HBOX3.out.var.lt)
  have HS4 := Lib.hid (show w4.heap.size = b7 + 1 by rw [hw4, hb7]; simp)
  have HLT7 := Lib.hid (show bb + 1 + 1 < b7 by rw [hb7]; exact HRET3.out.lt)
  have HH4 := Lib.hid (show HeldAt w4 b7 (.slice none 0 0) 0 by rw [hw4, hb7]; exact heldAt_new w3 (.slice none 0 0) 0)
  have HBB7 := Lib.hid (show w.heap.size ≤ b7 by have := HLT7.out; have := HBB.out; omega)
  clear hw4 hb7 hb34
  go_loopw [8, 23] (fun fr ix wr => OoRel d b7 w4 fr ix wr) (fun fr ix wr => 2 - (intOf ix).toNat)
  case atStart => exact ⟨0, .slice none 0 0, rfl, by omega, rfl, HH4, Lib.hid (recsFrom_nil _ _), Lib.hid (grown_here _ _)⟩
  case round =>
    obtain ⟨k, vb, rfl, hk, rfl, HHB, HRF, HGW⟩ := hrel
    have HRETW := Lib.hid (HRET4.out.grown HGW.out (by have := HLT7.out; omega) (by have := HLT7.out; omega) HBB7.out)
    have HBXW := Lib.hid (show BoxAt wr bb C d from ⟨HBOX4.out.var.grown HGW.out (by have := HLT7.out; omega), HD.out.kept HRETW.out.below (Nat.le_refl _)⟩)
    have HSW := Lib.hid (show b7 + 1 ≤ wr.heap.size by have := HGW.out.size; have := HS4.out; omega)
    obtain ⟨gB, hgB⟩ : ∃ gB, gB = bestG d k := ⟨_, rfl⟩
    obtain ⟨hB, hhB⟩ : ∃ hB, hB = bestH d k := ⟨_, rfl⟩
    rw [← hgB] at HHB
    rw [← hhB]
    have HGB := Lib.hid hgB
    have HHH := Lib.hid hhB
    clear hgB hhB
    by_cases hlt : k < 2
    case neg =>
      have hdn : decide ((k : Int) < 2) = false := by simp; omega
      have HK2 := Lib.hid (show k = 2 by omega)
      clear hlt
      cases hbst : bst d 2 with
      | none =>
        obtain rfl : hB = -1 := by rw [HHH.out, HK2.out, bestH, hbst]
        have HRES := Lib.hid (Jp.open_none HAB.out.symm (bst_none hbst))
        clear hbst
        have hl0 := HBXW.out.load
        obtain ⟨o1, o2, o3, o4, o5⟩ := (dv_first H4.out HD.out HRETW.out).out HRETW.out .zero 20
        have o2 : (logSet ⟨bb + 1 + 1, 0, none⟩ (.agg #[.int .i64 0, .int .i64 0, .int .i64 0])).run Tryd.prog (putDisk wr (bb + 1) C) = .ok () (putLog (putDisk wr (bb + 1) C) (bb + 1 + 1) .zero) := o2
        have HO3 := Lib.hid o3
        have HO4 := Lib.hid o4
        have HO5 := Lib.hid o5
        clear o5 o3 o4
        go_wp2_with fail
        refine bodyPost_ret (ret_cells_tmps rfl rfl HO3.out rfl HO4.out) rfl ?_
        rw [HRES.out, ← HCE.out]
        exact open_out HO5.out (recsFrom_nil _ _)
      | some x =>
        obtain ⟨rs, g, h⟩ := x
        obtain rfl : hB = (h : Int) := by rw [HHH.out, HK2.out, bestH, hbst]
        have hbest : d.best = some (rs, h) := bst_some hbst
        obtain ⟨hh, gg, uu, hu⟩ : h ≤ 1 ∧ ∃ gg uu, d.used h = some (rs, gg, uu) := Jp.best_used hbest
        obtain ⟨s1, _, s3, _⟩ := Jp.used_shape hu
        have HBST := Lib.hid hbest
        have HRF2 := Lib.hid (show RecsFrom wr (b7 + 1) vb rs by have := HRF.out; rw [HK2.out, bestR, hbst] at this; exact this)
        have hhf : d.half = d.secs.length / 2 := rfl
        have hrl : rs.length ≤ 2000 := by
          have := Jp.totN_ge (Jp.stand_len s1)
          have := HUP.out.2.2.2
          omega
        have HLEN := Lib.hid (Jp.stand_len s1)
        clear hbst hbest hu s1 s3 hhf
        obtain ⟨Ab, nb, cb, vsb, hvb, x1, x2, x3, x4⟩ := HRF2.out
        subst hvb
        clear x1 x2 x3 x4
        obtain ⟨r0, _, _, _⟩ := HHB.out.cells
        have hl3 := HBXW.out.load
        have hs4 : IntKind.i64.wrap (1 - (h : Int)) = ((1 - h : Nat) : Int) := by rw [IntWalk.i64_in _ (by omega)]; omega
        have hneg : decide ((h : Int) < 0) = false := by simp
        have HLP := Lib.hid (lay_f wr C d (1 - h) (.slice Ab nb cb) rs HBXW.out.disk H4.out (by omega) HUP.out.1 HUP.out.2.1 HRF2.out.at hrl HLEN.out (HL.out.below HRETW.out.below HL.out.size))
        go_wp2_with fail
        refine HLP.out.mono ?_
        rintro e wa ⟨⟨ua, rfl, hga⟩, hba⟩
        obtain ⟨Ca, rfl, hca⟩ := hga.1.agg
        obtain ⟨X, m2, er, hX⟩ : ∃ X m2 er, d.lay (1 - h) rs = (X, m2, er) := ⟨_, _, _, rfl⟩
        rw [hX] at hga ⊢
        have HRES0 := Lib.hid (Jp.open_some HAB.out.symm HBST.out hX)
        have HDVA := Lib.hid ((dv_first H4.out HD.out HRETW.out).step HRETW.out hga hca)
        have HRETA := Lib.hid (HRETW.out.on hba HRETW.out.lt)
        have HTHA := Lib.hid (show wa.there bb 0 4 from there_below (there_keepb HTH4.out (HGW.out.block bb HBOX4.out.var.lt (fun e => by injection e with e; have := HLT7.out; omega))) hba HBXW.out.var.lt)
        have HCB := Lib.hid (show Clear bb (.agg Ca) from hga.2 _ HBXW.out.var.lt (HD.out.clear (by rw [HBB.out]; exact Nat.le_refl _)))
        have HCN := Lib.hid (show Clear wa.heap.size (.agg Ca) from hga.1.clear (Nat.le_refl _))
        have HCA := Lib.hid hca
        have HHA := Lib.hid (HHB.out.keepb (hba.block b7 HHB.out.lt))
        have HBA := Lib.hid hba
        have HSA := Lib.hid (show b7 + 1 ≤ wa.heap.size by have := hba.size; have := HSW.out; omega)
        clear hga hba hX hl3 r0
        obtain ⟨w5, hw5⟩ : ∃ w5, w5 = wa.alloc (.cells #[.int .i64 0, .int .i64 0, .int .i64 0] 27) := ⟨_, rfl⟩
        have hb45 : Below wa.heap.size wa w5 := by rw [hw5]; exact (Below.refl _ _).alloc (Nat.le_refl _) _
        have hs5 : w5.heap.size = wa.heap.size + 1 := by rw [hw5]; simp
        have ht5 : w5.there bb 0 4 := there_below HTHA.out hb45 (by have := HRETA.out.lt; omega)
        have ho1 := store_disk ht5 HCA.out
        have hn5 : w5.there wa.heap.size 0 3 := by rw [hw5]; exact size_log3 wa
        have ho2 := store_log (World.there_setCells hn5 bb 0 Ca.toList) m2
        obtain ⟨b5, hb5⟩ : ∃ b5, b5 = wa.heap.size := ⟨_, rfl⟩
        rw [← hb5] at ho2 hs5 hn5 HCN
        have HLT5 := Lib.hid (show b7 + 1 ≤ b5 by rw [hb5]; exact HSA.out)
        have HRET5 := Lib.hid (HRETA.out.on hb45 HRETA.out.lt)
        have HDV5 := Lib.hid (HDVA.out.on hb45 (Nat.le_refl _))
        have HH5 := Lib.hid (HHA.out.keepb (hb45.block b7 HHA.out.lt))
        obtain ⟨w6, hw6⟩ : ∃ w6, w6 = putDisk w5 bb Ca := ⟨_, rfl⟩
        have hg6 : w5.grownBy w6 (some bb) := by rw [hw6]; exact grown_put
        have HV6 := Lib.hid (show DVar w6 bb Ca by rw [hw6]; exact dvar_put (by have := HLT5.out; have := HLT7.out; omega) ht5 HCA.out)
        have HRET6 := Lib.hid (HRET5.out.grown hg6 (by omega) (by omega) (by rw [HBB.out]; exact Nat.le_refl _))
        have HDV6 := Lib.hid (HDV5.out.grown hg6 HCB.out)
        have HH6 := Lib.hid (HH5.out.keepb (hg6.block b7 HH5.out.lt (fun e => by injection e with e; have := HLT7.out; omega)))
        have hn6 : w6.there b5 0 3 := by rw [hw6]; exact World.there_setCells hn5 _ _ _
        have ho2 : (logSet ⟨b5, 0, none⟩ (logV m2)).run Tryd.prog w6 = .ok () (putLog w6 b5 m2) := by rw [hw6]; exact ho2
        rw [← hw6] at ho1
        obtain ⟨w7, hw7⟩ : ∃ w7, w7 = putLog w6 b5 m2 := ⟨_, rfl⟩
        have hg7 : w6.grownBy w7 (some b5) := by rw [hw7]; exact grown_log
        have HV7 := Lib.hid (HV6.out.grown hg7 (by have := HLT5.out; have := HLT7.out; omega))
        have HRET7 := Lib.hid (HRET6.out.grown hg7 (by have := HLT5.out; have := HLT7.out; omega) (by have := HLT5.out; have := HLT7.out; omega) (by have := HLT5.out; have := HLT7.out; have := HBB.out; omega))
        have HDV7 := Lib.hid (HDV6.out.grown hg7 HCN.out)
        have HLG7 := Lib.hid (show LogAt w7 b5 m2 by rw [hw7]; exact logAt_put hn6 m2)
        have HH7 := Lib.hid (HH6.out.keepb (hg7.block b7 HH6.out.lt (fun e => by injection e with e; have := HLT5.out; omega)))
        have HRF7 := Lib.hid (HRF2.out.keep (w' := w7) (Nat.le_trans HBA.out.size (Nat.le_trans hb45.size (Nat.le_trans hg6.size hg7.size))) (fun b hb hb2 => by
          have e1 := HBA.out.block b hb
          have l1 := HBA.out.size
          have e2 := hb45.block b (by omega)
          have l2 := hb45.size
          have e3 := hg6.block b (by omega) (fun e => by injection e with e; have := HLT7.out; omega)
          have l3 := hg6.size
          have e4 := hg7.block b (by omega) (fun e => by injection e with e; omega)
          rw [e4, e3, e2, e1]))
        rw [← hw7] at ho2
        rw [hw5] at ho1
        rw [hb5] at ho2
        have HB5 := Lib.hid hb5
        clear hb45 hs5 ht5 hn5 hw6 hg6 hn6 hw7 hg7 hw5 hb5
        go_upto_region 16 with fail
        rw [← HB5.out]
        clear ho1 ho2
        by_cases her : er = 0
        case neg =>
          have hne : (er != 0) = true := by rw [bne_iff_ne]; exact her
          have HRES := Lib.hid (show d.open_ = (X, m2, [], er) by rw [HRES0.out, if_neg her])
          clear her
          obtain ⟨p1, p2, p3, o1, o2, o3, o4, o5⟩ := ret_region HDV7.out HRET7.out HV7.out HLG7.out (by omega) (by have := HLT5.out; have := HLT7.out; omega) er
          go_wp2_with fail
          go_region_held3 (fun W => (diskVar ⟨bb, 0, none⟩).run Tryd.prog W = .ok (.agg Ca) W ∧ (logVar ⟨b5, 0, none⟩).run Tryd.prog W = .ok (logV m2) W) (first | exact p1 | exact p2 | exact p3) (fail)
          all_goals go_wp2_with fail
          all_goals
            refine bodyPost_ret (ret_cells_tmps rfl rfl o3.out rfl o4.out) rfl ?_
            rw [HRES.out, ← HCE.out]
            exact open_out o5.out (recsFrom_nil _ _)
        subst her
        have HRES := Lib.hid (show d.open_ = (X, m2, rs, 0) from HRES0.out)
        obtain ⟨p1, p2, p3, o1, o2, o3, o4, o5⟩ := ret_region HDV7.out HRET7.out HV7.out HLG7.out (by omega) (by have := HLT5.out; have := HLT7.out; omega) 0
        have c1 : w7.drew.cell? ⟨b7, 0, none⟩ = some (.slice Ab nb cb) := HH7.out.cells.1
        have c2 : (putDisk w7.drew (bb + 1) Ca).cell? ⟨b7, 0, none⟩ = some (.slice Ab nb cb) := (cell_heap (heap_putDisk _ _ _ _ (by have := HLT7.out; omega))).trans c1
        have c3 : (putLog (putDisk w7.drew (bb + 1) Ca) (bb + 1 + 1) m2).cell? ⟨b7, 0, none⟩ = some (.slice Ab nb cb) := (cell_heap (heap_putLog _ _ _ _ (by have := HLT7.out; omega))).trans c2
        have HRP := Lib.hid (recs_put (bD := bb + 1) (bL := bb + 1 + 1) (C := Ca) (l := m2) (HRF7.out.keep (w' := w7.drew) (Nat.le_refl _) (fun _ _ _ => rfl)) (by have := HLT7.out; omega) (by have := HLT7.out; omega) (show w.heap.size ≤ b7 + 1 by have := HLT7.out; have := HRET7.out.base; omega))
        go_wp2_with fail
        go_region_held3 (fun W => (diskVar ⟨bb, 0, none⟩).run Tryd.prog W = .ok (.agg Ca) W ∧ (logVar ⟨b5, 0, none⟩).run Tryd.prog W = .ok (logV m2) W ∧ W.cell? ⟨b7, 0, none⟩ = some (.slice Ab nb cb)) (first | exact ⟨p1.1, p1.2, c1⟩ | exact ⟨p2.1, p2.2, c2⟩ | exact ⟨p3.1, p3.2, c3⟩) (fail)
        all_goals go_wp2_with fail
        all_goals
          refine bodyPost_ret (ret_cells_tmps rfl rfl o3.out rfl o4.out) rfl ?_
          rw [HRES.out, ← HCE.out]
          exact open_out o5.out HRP.out
    have hdn : decide ((k : Int) < 2) = true := by simp; omega
    have hk1 : k ≤ 1 := by omega
    have hl0 := HBXW.out.load
    rw [HCE.out] at hl0
    go_wp2_with fail
    have hsn := side_new HBXW.out.disk H4.out k
    have e66 : (C.toList ++ [Value.int .i64 (k : Int)]).toArray = #[.slice S1 S2 S3, .slice S4 S5 S6, .int .i64 S7, .bool S8, .int .i64 (k : Int)] := by rw [HCE.out]; rfl
    rw [e66] at hsn
    obtain ⟨w5, hw5⟩ : ∃ w5, w5 = wr.alloc (.cells #[.slice S1 S2 S3, .slice S4 S5 S6, .int .i64 S7, .bool S8, .int .i64 (k : Int)] 66) := ⟨_, rfl⟩
    obtain ⟨sb, hsb⟩ : ∃ sb, sb = wr.heap.size := ⟨_, rfl⟩
    rw [← hw5, ← hsb] at hsn ⊢
    have HB5 := Lib.hid (show Below wr.heap.size wr w5 by rw [hw5]; exact (Below.refl _ _).alloc (Nat.le_refl _) _)
    have HRET5 := Lib.hid (HRETW.out.on HB5.out HRETW.out.lt)
    clear hw5 hsb e66 hl0
    refine (sread_f w5 sb C d k hsn hk1 HUP.out.1 HUP.out.2.1 (HL.out.below HRET5.out.below HL.out.size)).mono ?_
    rintro e w6 ⟨hb6, hpost⟩
    have HB6 := Lib.hid (below_chain HB5.out hb6)
    have HH6 := Lib.hid (HHB.out.keepb (HB6.out.block b7 HHB.out.lt))
    have HRF6 := Lib.hid (HRF.out.keep HB6.out.size (fun b hb _ => HB6.out.block b hb))
    have HS5 := Lib.hid (show b7 + 1 ≤ w5.heap.size by have := HB5.out.size; have := HSW.out; omega)
    have HS6 := Lib.hid (show b7 + 1 ≤ w6.heap.size by have := HB6.out.size; have := HSW.out; omega)
    clear hsn hb6
    cases hu : d.used k with
    | none =>
      rw [hu] at hpost
      subst hpost
      have HST := Lib.hid (best_step_none hu)
      clear hu
      go_wp2_with fail
      have hb7' : Below w6.heap.size w6 (w6.alloc (.cells #[.slice none 0 0, .int .i64 0] 85)) := (Below.refl _ _).alloc (Nat.le_refl _) _
      go_roundw
      case rel =>
        obtain ⟨t1, t2, t3⟩ := HST.out
        refine ⟨k + 1, vb, by simp, by omega, by rw [t3, HHH.out], Lib.hid ?_, Lib.hid ?_, Lib.hid ?_⟩
        · rw [t1, ← HGB.out]; exact HH6.out.keepb (hb7'.block b7 HH6.out.lt)
        · rw [t2]; exact HRF6.out.keep hb7'.size (fun b hb _ => hb7'.block b hb)
        · exact grown_then HGW.out (grown_below (below_chain HB6.out hb7'))
      case measure => simp [intOf]; omega
    | some x =>
      obtain ⟨rs, gen, u⟩ := x
      rw [hu] at hpost
      obtain ⟨v, rfl, _, hrf⟩ := hpost
      have HRN := Lib.hid hrf
      obtain ⟨Av, nv, cv, vs, rfl, e1, e2, e3, e4⟩ := hrf
      have HU := Lib.hid hu
      clear e1 e2 e3 e4 hu
      go_upto_region 10 with fail
      obtain ⟨w7, hw7⟩ : ∃ w7, w7 = w6.alloc (.cells #[.slice Av nv cv, .int .i64 gen] 85) := ⟨_, rfl⟩
      obtain ⟨b11, hb11⟩ : ∃ b11, b11 = w6.heap.size := ⟨_, rfl⟩
      rw [← hw7, ← hb11]
      have hb67 : Below w6.heap.size w6 w7 := by rw [hw7]; exact (Below.refl _ _).alloc (Nat.le_refl _) _
      have HH7 := Lib.hid (HH6.out.keepb (hb67.block b7 HH6.out.lt))
      have HRF7 := Lib.hid (HRF6.out.keep hb67.size (fun b hb _ => hb67.block b hb))
      have HRN7 := Lib.hid ((HRN.out.keep hb67.size (fun b hb _ => hb67.block b hb)).weak HS5.out)
      have HN7 := Lib.hid (show HeldAt w7 b11 (.slice Av nv cv) gen by rw [hw7, hb11]; exact heldAt_new w6 (.slice Av nv cv) gen)
      have HG7 := Lib.hid (grown_then HGW.out (grown_below (below_chain HB6.out hb67)))
      have HS7 := Lib.hid (show b7 + 1 ≤ w7.heap.size by have := hb67.size; have := HS6.out; omega)
      clear hw7 hb11 hb67
      obtain ⟨r0, r1, r2, r3⟩ := HH7.out.cells
      obtain ⟨q0, q1, _, _⟩ := HN7.out.cells
      by_cases hg : gB < gen
      case pos =>
        have HST := Lib.hid (best_step_more HU.out (by rw [← HGB.out]; exact hg))
        go_wp2_with fail
        go_roundw
        case rel =>
          obtain ⟨t1, t2, t3⟩ := HST.out
          refine ⟨k + 1, .slice Av nv cv, by simp, by omega, by rw [t3], Lib.hid ?_, Lib.hid ?_, Lib.hid ?_⟩
          · rw [t1]; exact HH7.out.set2 (.slice Av nv cv) gen
          · rw [t2]
            have hgt := grown_two w7 b7 (.slice Av nv cv) (.int .i64 gen)
            exact HRN7.out.keep hgt.size (fun b hb hb2 => hgt.block b hb (fun e => by injection e with e; omega))
          · exact grown_then HG7.out (grown_two w7 b7 _ _)
        case measure => simp [intOf]; omega
      case neg =>
        have HST := Lib.hid (best_step_less HU.out (by rw [← HGB.out]; exact hg))
        have hg2 : gen ≤ gB := by omega
        go_wp2_with fail
        go_roundw
        case rel =>
          obtain ⟨t1, t2, t3⟩ := HST.out
          refine ⟨k + 1, vb, by simp, by omega, by rw [t3, HHH.out], Lib.hid ?_, Lib.hid ?_, Lib.hid ?_⟩
          · rw [t1, ← HGB.out]; exact HH7.out
          · rw [t2]; exact HRF7.out
          · exact HG7.out
        case measure => simp [intOf]; omega
end Go.Proofs.YtbhjigejpdbeiaaDoor
end
