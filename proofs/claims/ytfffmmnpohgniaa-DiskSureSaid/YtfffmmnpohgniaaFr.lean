/-
  Fall of the reference.
-/
import Derived.Test.YtfffmmnpohgniaaFa
import Derived.BigRegion
import Derived.Deep.RegionHeld3
import Derived.Deep.DeepCutAuto
namespace Go.Proofs.Ytfffmmnpohgniaa
open Go.RowKit
set_option linter.unusedVariables false

theorem lands_none (l : List Wr) (s : List Sec) (i : Nat) : Dk.lands [] s l i = s := by
  induction l generalizing i with
  | nil => rfl
  | cons x r ih => simp [Dk.lands, Dk.land, ih]

abbrev fate0 : Obj := .cells #[.int .u8 0, .int .u8 0] 55
theorem setCells_new (t : TypeId) (w : World) : ∀ (vs P Q : List Value), vs.length ≤ Q.length → (w.alloc (.cells (P ++ Q).toArray t)).setCells w.heap.size P.length vs = w.alloc (.cells (P ++ vs ++ Q.drop vs.length).toArray t)
  | [], P, Q, _ => by simp [World.setCells]
  | v :: r, P, q :: Q, h => by
    rw [World.setCells, World.setCell_alloc_at _ _ _ _ _ rfl]
    have e : (P ++ q :: Q).toArray.setIfInBounds P.length v = ((P ++ [v]) ++ Q).toArray := by
      apply Array.toList_inj.1
      simp
    have := setCells_new t w r (P ++ [v]) Q (by simpa using h)
    rw [List.length_append] at this
    rw [e]
    refine this.trans ?_
    simp
  | v :: r, P, [], h => by simp at h
theorem setCells_past (o : Obj) (b : Nat) : ∀ (vs : List Value) (i : Nat) (w : World), b < w.heap.size → (w.alloc o).setCells b i vs = (w.setCells b i vs).alloc o
  | [], _, _, _ => rfl
  | v :: r, i, w, h => by
    rw [World.setCells, World.setCell_alloc_past _ _ _ _ h, setCells_past o b r (i + 1) _ (by rw [size_set]; exact h), World.setCells]
theorem setCells_drew (b : Nat) : ∀ (vs : List Value) (i : Nat) (w : World), w.drew.setCells b i vs = (w.setCells b i vs).drew
  | [], _, _ => rfl
  | v :: r, i, w => by rw [World.setCells, World.setCell_drew, setCells_drew b r, World.setCells]
theorem putWr_new (w : World) (z x : Wr) : putWr (w.alloc (wrO z)) w.heap.size 0 x = w.alloc (wrO x) := by
  have := setCells_new 59 w (wrC x) [] (wrC z) (by rw [wrC_length, wrC_length]; exact Nat.le_refl _)
  simp only [List.nil_append, List.length_nil] at this
  rw [putWr, this, List.drop_eq_nil_of_le (by rw [wrC_length, wrC_length]; exact Nat.le_refl _), List.append_nil]
theorem there_wr (w : World) (z : Wr) : (w.alloc (wrO z)).there w.heap.size 0 129 := by have := there_new w (wrC z) 59; rwa [wrC_length] at this
theorem store_new1 (w : World) (z x : Wr) (o : Obj) : (wrSet ⟨w.heap.size, 0, none⟩ (wrV x)).run Try.prog ((w.alloc (wrO z)).alloc o).drew = .ok () ((w.alloc (wrO x)).alloc o).drew := by
  have h1 : ((w.alloc (wrO z)).alloc o).drew.there w.heap.size 0 129 := there_below (there_wr w z) ((Below.refl _ _).alloc (Nat.le_refl _) o).drew (by simp)
  have := store_wr h1 x
  rw [putWr, setCells_drew, setCells_past _ _ _ _ _ (by simp)] at this
  have e := putWr_new w z x
  rw [putWr] at e
  rw [e] at this
  exact this
theorem store_new2 (w : World) (z x : Wr) (o : Obj) : (wrSet ⟨w.heap.size + 1, 0, none⟩ (wrV x)).run Try.prog ((w.alloc o).alloc (wrO z)).drew = .ok () ((w.alloc o).alloc (wrO x)).drew := by
  have h1 : ((w.alloc o).alloc (wrO z)).drew.there (w.heap.size + 1) 0 129 := by
    have := there_wr (w.alloc o) z
    rw [size_alloc] at this
    exact this
  have := store_wr h1 x
  have e := putWr_new (w.alloc o) z x
  rw [putWr, size_alloc] at e
  rw [putWr, setCells_drew, e] at this
  exact this
theorem torn_all (a b : Sec) : Dk.torn a b 128 = a := by
  apply Subtype.ext
  show a.1.take 128 ++ b.1.drop 128 = a.1
  rw [List.take_of_length_le (by rw [a.2]; exact Nat.le_refl _), List.drop_eq_nil_of_le (by rw [b.2]; exact Nat.le_refl _), List.append_nil]
theorem torn_none (a b : Sec) : Dk.torn a b 0 = b := by
  apply Subtype.ext
  show a.1.take 0 ++ b.1.drop 0 = b.1
  simp
theorem set_same (l : List Sec) (i : Nat) (s : Sec) (h : l[i]? = some s) : l.set i s = l := by
  apply List.ext_getElem?
  intro j
  rw [List.getElem?_set]
  split
  · subst_vars
    split
    · exact h.symm
    · rename_i hn; rw [List.getElem?_eq_none (by omega)]
  · rfl
/-- What a round has copied out. -/
def FrMid (x : Wr) (f1 f2 : UInt8) (wr : World) (p q : Value) (wx : World) : Prop :=
  ∃ b10 b11 : Nat, p = .pointer (some ⟨b10, 0, none⟩) ∧ q = .pointer (some ⟨b11, 0, none⟩) ∧ wx.rangeAt b10 0 (wrC x) ∧ wx.cell? ⟨b11, 0, none⟩ = some (.int .u8 f1.toNat) ∧ wx.cell? ⟨b11, 1, none⟩ = some (.int .u8 f2.toNat) ∧
    Below wr.heap.size wr wx ∧ wr.heap.size ≤ b10 ∧ b10 < wx.heap.size ∧ wr.heap.size ≤ b11 ∧ b11 < wx.heap.size

set_option maxHeartbeats 1000000 in
theorem rfall_f (w : World) (v u : Value) (d : Dk) (fates : List (UInt8 × UInt8)) (ff : Int) (f0 : -9223372036854775808 ≤ ff) (f1 : ff < 9223372036854775808) (hfl : fates.length ≤ 1000000) (h : DiskAt w v d) (hfa : FatesAt w u fates) :
    Calls Try.prog 21 #[v, u, .int .i64 ff] w fun e w' => FallPost v d fates ff w e w' := by
  have HD0 := Lib.hid h
  obtain ⟨A, n, c, A', n', c', rfl, hn, hn', h1, h2, h3⟩ := h
  obtain ⟨AF, nf, cf, rfl, hnf, hrf⟩ := hfa
  have H1 := Lib.hid h1
  have H2 := Lib.hid h2
  have HN := Lib.hid hn
  have HN' := Lib.hid hn'
  have HF := Lib.hid h3
  have HNF := Lib.hid hnf
  have HRF := Lib.hid hrf
  have hfl : nf ≤ 1000000 := by omega
  clear h1 h2 hn hn' h3 hnf hrf
  generalize hf : d.fuse = f at *
  generalize hdn : d.down = dn at *
  have HFU := Lib.hid hf
  have HDN := Lib.hid hdn
  clear hf hdn
  obtain ⟨w1, hw1⟩ : ∃ w1, w1 = (w.alloc (Obj.cells #[.slice A n c, .slice A' n' c', .int .i64 f, .bool dn] 25)).alloc (Obj.cells #[.slice none 0 0, .slice none 0 0, .int .i64 0, .bool false] 25) := ⟨_, rfl⟩
  have HV := Lib.hid (show Var w1 w.heap.size A A' n c n' c' f dn by rw [hw1]; exact (var_new w A A' n c n' c' f dn).below ((Below.refl _ _).alloc (Nat.le_refl _) _) (by simp))
  have HFR := Lib.hid (show Free w1 w.heap.size by rw [hw1]; exact (free_new w _ _).below ((Below.refl _ _).alloc (Nat.le_refl _) _) (by simp))
  have HV2 := Lib.hid (show Var w1 (w.heap.size + 1) none none 0 0 0 0 0 false by rw [hw1]; exact var_new2 _ _ _ _ _ _ _ _ _ _)
  have HF2 := Lib.hid (show Free w1 (w.heap.size + 1) by rw [hw1]; exact free_new2 _ _ _ _)
  have HB := Lib.hid (show Below w.heap.size w w1 by rw [hw1]; exact below_two _ _ _)
  have HS := Lib.hid (show w1.heap.size = w.heap.size + 2 by rw [hw1]; simp)
  have HW := Lib.hid hw1
  clear hw1
  have HD := Lib.hid (show ∀ w2, Below w1.heap.size w1 w2 → DiskAt w2 (.agg #[.slice A n c, .slice A' n' c', .int .i64 f, .bool dn]) d from fun w2 hb2 => (HD0.out.kept HB.out (Nat.le_refl _)).kept hb2 (Nat.le_refl _))
  have HC := Lib.hid (show ∀ b, w.heap.size ≤ b → Clear b (.agg #[.slice A n c, .slice A' n' c', .int .i64 f, .bool dn]) from fun b hb => (HD0.out).clear hb)
  go_enter Try.func21, Try.ntmps21
  go_wp2_with fail
  rw [← HW.out]
  clear HW
  refine (rright_f w1 _ d (HD.out w1 (Below.refl _ _))).mono ?_
  rintro e w2 ⟨rfl, hb2⟩
  have HB2 := Lib.hid hb2
  clear hb2
  obtain ⟨z0, z1, z2, z3, z4⟩ := HV.out.below HB2.out HV.out.lt
  obtain ⟨y0, y1, y2, y3, y4⟩ := HV2.out.below HB2.out HV2.out.lt
  obtain ⟨u0, u1, u2, u3⟩ := HF2.out.below HB2.out HV2.out.lt
  cases hr : d.right with
  | false =>
    have HR := Lib.hid hr
    clear hr
    go_wp2
    refine bodyPost_ret (ret_cell_tmp rfl rfl (load_var (Var.set ⟨y0, y1, y2, y3, y4⟩ A A' n c n' c' f dn))) rfl ?_
    have q : d.fall fates ff = (d, 1) := by rw [Dk.fall, HR.out]; rfl
    refine ⟨⟨_, by rw [q]; rfl, ?_⟩, below_set4 (below_chain HB.out HB2.out) (by omega) _ _ _ _ _ _ _ _⟩
    rw [q]
    exact ⟨set_disk (HD.out w2 HB2.out) (HC.out _ (by omega)), fun b _ h => h⟩
  | true =>
  have HR := Lib.hid hr
  clear hr
  have HRB := Lib.hid (right_bounds HR.out)
  have hml : n' ≤ 4096 := by have := HRB.out; have := HN'.out; omega
  have hm2 : n ≤ 2048 := by have := HRB.out; have := HN.out; omega
  have hm0 : 0 < n := by have := HRB.out; have := HN.out; omega
  have HSZ := Lib.hid (show w.heap.size + 1 < w2.heap.size from y0)
  have HBA := Lib.hid (below_chain HB.out HB2.out)
  go_wp2_with fail
  refine (copy_f w2 A A' n c n' c' f dn _ _ (H1.out.kept HBA.out (Nat.le_refl _)) (H2.out.kept HBA.out (Nat.le_refl _)) (secsC_one _) (wrsC_one _) (by omega) (by omega)).mono ?_
  rintro e3 w3 ⟨⟨A1, c1, A2, c2, rfl, hr1, hr2, hcl, hown⟩, hb3⟩
  obtain ⟨g1, rfl, hg1, hg2, hth, hgx⟩ := hown hm0
  clear hown z0 z1 z2 z3 z4 y0 y1 y2 y3 y4 u0 u1 u2 u3
  obtain ⟨wa, hwa⟩ : ∃ wa, wa = w3.alloc (Obj.cells #[.slice (some ⟨g1, 0, none⟩) n c1, .slice A2 n' c2, .int .i64 f, .bool dn] 25) := ⟨_, rfl⟩
  obtain ⟨b4, hb4⟩ : ∃ b4, b4 = w3.heap.size := ⟨_, rfl⟩
  have HWA := Lib.hid hwa
  have HVA := Lib.hid (show Var wa b4 (some ⟨g1, 0, none⟩) A2 n c1 n' c2 f dn by rw [hwa, hb4]; exact var_new w3 _ _ _ _ _ _ _ _)
  have HFA := Lib.hid (show Free wa b4 by rw [hwa, hb4]; exact free_new w3 _ _)
  have HB3A := Lib.hid (show Below w3.heap.size w3 wa by rw [hwa]; exact (Below.refl _ _).alloc (Nat.le_refl _) _)
  have HSA := Lib.hid (show wa.heap.size = b4 + 1 by rw [hwa, hb4]; simp)
  have hq : w.heap.size + 1 < w3.heap.size := by have := HSZ.out; have := hb3.size; omega
  have HVX := Lib.hid (show Var wa (w.heap.size + 1) none none 0 0 0 0 0 false from ((HV2.out.below HB2.out HV2.out.lt).below hb3 HSZ.out).below HB3A.out hq)
  have HFX := Lib.hid (show Free wa (w.heap.size + 1) from ((HF2.out.below HB2.out HV2.out.lt).below hb3 HSZ.out).below HB3A.out hq)
  have HBW := Lib.hid (show Below w.heap.size w wa from below_chain (below_chain HBA.out hb3) HB3A.out)
  have HR1 := Lib.hid (show wa.rangeAt g1 0 (secsC d.secs) from range_below (hr1.2.2.2.2 _ rfl hm0).2.2 HB3A.out hg2)
  have HT1 := Lib.hid (show wa.there g1 0 (n * 128) from there_below hth HB3A.out hg2)
  have HR2 := Lib.hid (show RowOf wa 129 A2 n' c2 (wrsC d.loose) from hr2.kept HB3A.out (Nat.le_refl _))
  have HGX := Lib.hid (show ∀ y, A2 = some y → 0 < n' → y.block ≠ g1 from fun y hy _ => by have := hgx y hy; omega)
  have HLB := Lib.hid (show ∀ y, A2 = some y → 0 < n' → y.block < b4 from fun y hy h0 => by rw [hb4]; exact (hr2.2.2.2.2 y hy h0).2.1)
  have HCAP := Lib.hid (show n ≤ c1 ∧ c1 ≤ 9223372036854775807 from ⟨hr1.2.1, hr1.2.2.1⟩)
  have hgb : g1 < b4 := by omega
  have hwb : w.heap.size + 1 < g1 := by have := HSZ.out; omega
  have HB4 := Lib.hid hb4
  clear hwa hr1 hr2 hcl hb3 hth hgx hq hg1 hg2
  go_wp2_with fail
  rw [← HWA.out, ← hb4]
  clear hb4 HWA
  go_loopw [9] (fun i wr => ∃ k : Nat, k ≤ n' ∧ i = .int .i64 k ∧ Var wr b4 (some ⟨g1, 0, none⟩) A2 n c1 n' c2 f dn ∧ Free wr b4 ∧ Var wr (w.heap.size + 1) none none 0 0 0 0 0 false ∧ Free wr (w.heap.size + 1) ∧ Below w.heap.size w wr ∧
      RowOf wr 129 A2 n' c2 (wrsC d.loose) ∧ wr.rangeAt g1 0 (secsC (Dk.lands fates d.secs (d.loose.take k) 0)) ∧ wr.there g1 0 (n * 128)) (fun i _ => n' - (intOf i).toNat)
  case atStart => exact ⟨0, by omega, rfl, HVA.out, HFA.out, HVX.out, HFX.out, HBW.out, HR2.out, HR1.out, HT1.out⟩
  case round =>
    obtain ⟨k, hk, rfl, hv, hf, hv2, hf2, hb, hrow, hrg, hth⟩ := hrel
    rename World => wr
    have HVR := Lib.hid hv
    have HFR2 := Lib.hid hf
    have HV2R := Lib.hid hv2
    have HF2R := Lib.hid hf2
    have HBR := Lib.hid hb
    have HROW := Lib.hid hrow
    have HRG := Lib.hid hrg
    have HTH := Lib.hid hth
    have HROWF := Lib.hid (HRF.out.kept hb (Nat.le_refl _))
    clear hf hv2 hf2 hb hrow hrg hth
    obtain ⟨y0, y1, y2, y3, y4⟩ := hv
    by_cases hgo : k < n' ∧ 0 < nf
    · obtain ⟨hkn, hnf⟩ := hgo
      · obtain ⟨b', o', rfl, hb', hx⟩ := row_at HROW.out (by omega)
        obtain ⟨xk, hxk⟩ : ∃ xk, d.loose[k]? = some xk := ⟨_, List.getElem?_eq_getElem (by rw [← HN'.out]; exact hkn)⟩
        have hrw := range_wrs hx hxk
        obtain ⟨bf, of, rfl, hbf, hxf⟩ := row_at HROWF.out hnf
        obtain ⟨r, hrm⟩ : ∃ r : Nat, (k : Int) % (nf : Int) = (r : Int) := ⟨k % nf, by omega⟩
        have hrl : r < nf := by have := Int.emod_lt_of_pos (k : Int) (show (0 : Int) < nf by omega); omega
        obtain ⟨fx, hfx⟩ : ∃ fx, fates[r]? = some fx := ⟨_, List.getElem?_eq_getElem (by rw [← HNF.out]; exact hrl)⟩
        have hfr := range_fates hxf hfx
        have hc0 : wr.cell? ⟨bf, of + r * 2, none⟩ = some (.int .u8 fx.1.toNat) := hfr 0 _ rfl
        have hc1 : wr.cell? ⟨bf, of + r * 2 + 1, none⟩ = some (.int .u8 fx.2.toNat) := hfr 1 _ rfl
        have hrm' : k % nf = r := by omega
        have HFX := Lib.hid hfx
        have HRM := Lib.hid hrm'
        have HXK := Lib.hid hxk
        clear hxf hfx hfr hrm' hx hxk
        obtain ⟨f1, f2⟩ := fx
        dsimp only at hc0 hc1
        have hrl' : (r : Int) < nf := by omega
        have hr0 : (0 : Int) ≤ r := by omega
        have hnd : decide ((0:Int) < (nf : Int)) = true := by simp; omega
        go_wp2_with fail
        go_cut [10, 11] from 18 to 73 (fun p q wx => FrMid xk f1 f2 wr p q wx)
        case first =>
          have HK := Lib.hid (show ∀ W, Below wr.heap.size wr W → W.cell? ⟨b4, 1, none⟩ = some (.slice (some ⟨b', o', none⟩) n' c2) ∧ (wrVar ⟨b', o' + k * 129, none⟩).run Try.prog W = .ok (wrV xk) W ∧ W.cell? ⟨bf, of + r * 2, none⟩ = some (.int .u8 f1.toNat) ∧ W.cell? ⟨bf, of + r * 2 + 1, none⟩ = some (.int .u8 f2.toNat) from fun W hW =>
            ⟨(hW.cell (p := ⟨b4, 1, none⟩) y0).trans y2, load_wrVar (range_below hrw hW hb'), (hW.cell (p := ⟨bf, of + r * 2, none⟩) hbf).trans hc0, (hW.cell (p := ⟨bf, of + r * 2 + 1, none⟩) hbf).trans hc1⟩)
          have hs1 := store_new1 wr zeroWr xk fate0
          have hs2 := store_new2 wr zeroWr xk fate0
          have HB0 := Lib.hid (Below.refl wr.heap.size wr)
          have hrt : Int.tmod (k : Int) (nf : Int) = (r : Int) := by rw [Int.tmod_eq_emod_of_nonneg (by omega)]; exact hrm
          have hnz2 : ¬ nf = 0 := by omega
          clear hrw hc0 hc1 y1 y2 y3 y4
          go_region_held3 (fun w' => w'.cell? ⟨b4, 1, none⟩ = some (.slice (some ⟨b', o', none⟩) n' c2) ∧ (wrVar ⟨b', o' + k * 129, none⟩).run Try.prog w' = .ok (wrV xk) w' ∧ w'.cell? ⟨bf, of + r * 2, none⟩ = some (.int .u8 f1.toNat) ∧ w'.cell? ⟨bf, of + r * 2 + 1, none⟩ = some (.int .u8 f2.toNat))
            (first | exact HK.out _ HB0.out.drew | exact HK.out _ (HB0.out.alloc (Nat.le_refl _) _).drew | exact HK.out _ ((HB0.out.alloc (Nat.le_refl _) _).alloc (by simp) _).drew) (fail)
          · go_wp2_with fail
            go_meet
            refine ⟨wr.heap.size, wr.heap.size + 1, rfl, rfl, ?_, ?_, ?_, ((HB0.out.alloc (Nat.le_refl _) _).alloc (by simp) _).drew, Nat.le_refl _, by simp [World.drew] <;> omega, by omega, by simp [World.drew] <;> omega⟩
            · exact range_below (range_new wr (wrC xk) 59) ((Below.refl _ _).alloc (Nat.le_refl _) _).drew (by simp)
            · have := cell_of_new (wr.alloc (wrO xk)) #[Value.int IntKind.u8 f1.toNat, Value.int IntKind.u8 f2.toNat] 55 0
              rw [size_alloc] at this
              exact this
            · have := cell_of_new (wr.alloc (wrO xk)) #[Value.int IntKind.u8 f1.toNat, Value.int IntKind.u8 f2.toNat] 55 1
              rw [size_alloc] at this
              exact this
          · go_wp2_with fail
            go_meet
            refine ⟨wr.heap.size + 1, wr.heap.size, rfl, rfl, ?_, ?_, ?_, ((HB0.out.alloc (Nat.le_refl _) _).alloc (by simp) _).drew, by omega, by simp [World.drew] <;> omega, Nat.le_refl _, by simp [World.drew] <;> omega⟩
            · have := range_new (wr.alloc (Obj.cells #[Value.int IntKind.u8 f1.toNat, Value.int IntKind.u8 f2.toNat] 55)) (wrC xk) 59
              rw [size_alloc] at this
              exact this
            · exact ((((Below.refl _ _).alloc (Nat.le_refl _) _).drew).cell (p := ⟨wr.heap.size, 0, none⟩) (by simp)).trans (cell_of_new wr #[Value.int IntKind.u8 f1.toNat, Value.int IntKind.u8 f2.toNat] 55 0)
            · exact ((((Below.refl _ _).alloc (Nat.le_refl _) _).drew).cell (p := ⟨wr.heap.size, 1, none⟩) (by simp)).trans (cell_of_new wr #[Value.int IntKind.u8 f1.toNat, Value.int IntKind.u8 f2.toNat] 55 1)
        case rest =>
          obtain ⟨b10, b11, rfl, rfl, hrw2, hk0, hk1, hbx, l1, l2, l3, l4⟩ := hcut
          have hdat := range_wr_data hrw2
          have hat0 := range_wr_at hrw2
          rw [Nat.zero_add] at hdat
          have HDAT := Lib.hid hdat
          have HK0 := Lib.hid hk0
          have HK1 := Lib.hid hk1
          have HBX := Lib.hid hbx
          clear hrw2 hdat hk1
          have hbnd : (0 : Int) ≤ xk.at_ ∧ xk.at_ < n := by
            have h := HR.out
            rw [Dk.right, Bool.and_eq_true, List.all_eq_true] at h
            have h2 := h.2 xk (List.mem_of_getElem? HXK.out)
            have hm := HN.out
            simp [Dk.inside] at h2
            omega
          obtain ⟨at0, hat1⟩ : ∃ a : Nat, xk.at_ = a := ⟨xk.at_.toNat, by omega⟩
          rw [hat1] at hat0 hbnd
          have HAT := Lib.hid hat1
          have HAT0 := Lib.hid hat0
          clear hat1 hat0
          have hb0 := hbnd.1
          have hb1 := hbnd.2
          have hx0 : (0 : Int) ≤ (f1.toNat : Int) := by omega
          have hx8 : f1.toNat < 256 := f1.toNat_lt
          have hlen0 : (Dk.lands fates d.secs (d.loose.take k) 0).length = n := by rw [lands_length]; exact HN.out.symm
          have hgl : g1 < wr.heap.size := by omega
          have hthc := there_row (there_below HTH.out HBX.out hgl) (j := at0) (by omega)
          have hrgc := range_below HRG.out HBX.out hgl
          obtain ⟨so, hso⟩ : ∃ so, (Dk.lands fates d.secs (d.loose.take k) 0)[at0]? = some so := ⟨_, List.getElem?_eq_getElem (by rw [hlen0]; omega)⟩
          have hold := range_secs hrgc hso
          have HSO := Lib.hid hso
          have HEQL := Lib.hid (show Dk.lands fates d.secs (d.loose.take (k + 1)) 0 = (Dk.lands fates d.secs (d.loose.take k) 0).set at0 (Dk.torn xk.data so (Dk.kept (f1, f2))) by
            have e : xk.at_.toNat = at0 := by rw [HAT.out]; rfl
            have e2 : fates.getD (k % fates.length) (0, 0) = (f1, f2) := by rw [← HNF.out, HRM.out, List.getD_eq_getElem?_getD, HFX.out]; rfl
            rw [lands_take _ _ _ _ _ HXK.out, Dk.land, if_neg (by rw [← HNF.out]; omega), e, e2, List.getD_eq_getElem?_getD, HSO.out]; rfl)
          have HLEN0 := Lib.hid hlen0
          have HREL := Lib.hid (show ∀ wz : World, wr.heap.size ≤ wz.heap.size → (∀ q, q < wr.heap.size → q ≠ g1 → wz.heap[q]? = wr.heap[q]?) → wz.os = wr.os ∧ wz.tape = wr.tape ∧ wz.output = wr.output →
              wz.rangeAt g1 0 (secsC (Dk.lands fates d.secs (d.loose.take (k + 1)) 0)) → wz.there g1 0 (n * 128) →
              Var wz b4 (some ⟨g1, 0, none⟩) (some ⟨b', o', none⟩) n c1 n' c2 f dn ∧ Free wz b4 ∧ Var wz (w.heap.size + 1) none none 0 0 0 0 0 false ∧ Free wz (w.heap.size + 1) ∧ Below w.heap.size w wz ∧
              RowOf wz 129 (some ⟨b', o', none⟩) n' c2 (wrsC d.loose) ∧ wz.rangeAt g1 0 (secsC (Dk.lands fates d.secs (d.loose.take (k + 1)) 0)) ∧ wz.there g1 0 (n * 128) from by
            intro wz hs hk hst hrg hth
            have hlw := HVR.out.lt
            have hlw2 := HV2R.out.lt
            refine ⟨HVR.out.keepb hs (hk _ hlw (by omega)), HFR2.out.keepb (hk _ hlw (by omega)), HV2R.out.keepb hs (hk _ hlw2 (by omega)), HF2R.out.keepb (hk _ hlw2 (by omega)), ?_, ?_, hrg, hth⟩
            · exact HBR.out.trans ⟨hst.1, hst.2.1, hst.2.2, hs, fun q hq => hk q (by have := HBR.out.size; omega) (by omega)⟩
            · exact HROW.out.keep hs (fun y hy h0 hyl => hk _ hyl (HGX.out y hy h0)))
          have HBC := Lib.hid (show ∀ q, q < wr.heap.size → wc.heap[q]? = wr.heap[q]? from fun q hq => HBX.out.block q hq)
          have HTHC := Lib.hid hthc
          have HRGC := Lib.hid hrgc
          have HOLD := Lib.hid hold
          obtain ⟨y0, y1, y2, y3, y4⟩ := HVR.out.below HBX.out HVR.out.lt
          have hcsz := HBX.out.size
          clear hthc hrgc hso hlen0 hbnd hold hbx
          by_cases q1 : f1.toNat % 3 = 1
          · have Q1 := Lib.hid q1
            have q : ((f1.toNat : Int) % 3 == 1) = true := by simp; omega
            clear q1
            have hat0 := HAT0.out
            have hdd := load_secVar HDAT.out
            have hst := store_sec HTHC.out xk.data
            rw [Nat.zero_add] at hst
            go_wp2
            have hsz : (putSec wc g1 (at0 * 128) xk.data).heap.size = wc.heap.size := size_putSec _ _ _ _
            have HR := HREL.out (putSec wc g1 (at0 * 128) xk.data) (by omega) (fun q h1 h2 => by rw [heap_putSec _ _ _ _ _ h2]; exact HBC.out q h1)
              (by
                obtain ⟨e1, e2, e3⟩ := streams_setCells g1 (secC xk.data) (at0 * 128) wc
                exact ⟨e1.trans HBX.out.os, e2.trans HBX.out.tape, e3.trans HBX.out.output⟩)
              (by
                have h := range_put_row HRGC.out (j := at0) (by rw [HLEN0.out]; omega) HTHC.out xk.data
                rw [Nat.zero_add] at h
                rw [HEQL.out, show Dk.kept (f1, f2) = 128 by simp [Dk.kept, Q1.out], torn_all]
                exact h)
              (there_putSec (there_below HTH.out HBX.out hgl) _)
            go_roundw
            case rel => exact ⟨k + 1, by omega, by go_num, HR⟩
            case measure => simp [intOf]; omega
          by_cases q2 : f1.toNat % 3 = 2
          · have Q1 := Lib.hid q1
            have Q2 := Lib.hid q2
            have q : ((f1.toNat : Int) % 3 == 1) = false := by simp; omega
            have q' : ((f1.toNat : Int) % 3 == 2) = true := by simp; omega
            clear q1 q2
            have hat0 := HAT0.out
            have hk1 := HK1.out
            have hdd := fun m => load_secVar (range_drewN HDAT.out m)
            have hoo : (secVar ⟨g1, 0 + at0 * 128, none⟩).run Try.prog wc.drew = .ok (secV so) wc.drew := load_secVar (range_drewN HOLD.out 1)
            rw [Nat.zero_add] at hoo
            have hf2 : ((f2.toNat : Int)) % 128 = ((f2.toNat % 128 : Nat) : Int) := by omega
            have HF2 := Lib.hid (show f2.toNat % 128 ≤ 128 by omega)
            have HKF := Lib.hid (show Dk.kept (f1, f2) = f2.toNat % 128 by simp [Dk.kept, Q2.out])
            have hf20 : (0 : Int) ≤ (f2.toNat : Int) := by omega
            have hf2l : f2.toNat < 256 := f2.toNat_lt
            have hwr : IntKind.i64.wrap (f2.toNat : Int) = (f2.toNat : Int) := IntWalk.i64_in _ (by omega)
            have hft : Int.tmod (f2.toNat : Int) 128 = ((f2.toNat % 128 : Nat) : Int) := by rw [Int.tmod_eq_emod_of_nonneg hf20]; exact hf2
            generalize hmm : f2.toNat % 128 = mm at *
            clear hmm
            have HBC0 := Lib.hid (Below.refl wc.heap.size wc)
            have HS12 := Lib.hid (show ∀ W, Below wc.heap.size wc W → W.cell? ⟨b4, 0, none⟩ = some (.slice (some ⟨g1, 0, none⟩) n c1) ∧ W.cell? ⟨b10, 0, none⟩ = some (.int .i64 at0) ∧ (secVar ⟨b10, 1, none⟩).run Try.prog W = .ok (secV xk.data) W ∧ W.cell? ⟨b11, 1, none⟩ = some (.int .u8 f2.toNat) from fun W hW =>
              ⟨(hW.cell (p := ⟨b4, 0, none⟩) y0).trans y1, (hW.cell (p := ⟨b10, 0, none⟩) l2).trans HAT0.out, load_secVar (range_below HDAT.out hW l2), (hW.cell (p := ⟨b11, 1, none⟩) l4).trans HK1.out⟩)
            go_wp2_with fail
            refine wp_region_held_drew (S := fun w' => w'.cell? ⟨b4, 0, none⟩ = some (.slice (some ⟨g1, 0, none⟩) n c1) ∧ w'.cell? ⟨b10, 0, none⟩ = some (.int .i64 at0) ∧ (secVar ⟨b10, 1, none⟩).run Try.prog w' = .ok (secV xk.data) w' ∧ w'.cell? ⟨b11, 1, none⟩ = some (.int .u8 f2.toNat)) (by kernel_rfl) (HS12.out _ HBC0.out.drew) (fun hHeld => ?_)
            refine' wpAnyH_take (i := 0) (v := _) rfl (by kernel_rfl) (by kernel_rfl) (by kernel_rfl) (fun _ _ _ h => h) (Or.inl ⟨by rfl, ?hy0⟩) (by assumption) ?rest0
            case hy0 => (intro w hSw; (try dsimp only at hSw); obtain ⟨s1, s2, s3, s4⟩ := hSw; go_simp; try with_reducible rfl)
            try simp only [Act.put, List.setIfInBounds_toArray, List.set_cons_zero, List.set_cons_succ]
            refine' wpAnyH_take (i := 2) (v := _) rfl (by kernel_rfl) (by kernel_rfl) (by kernel_rfl) (fun _ _ _ h => h) (Or.inl ⟨by rfl, ?hy2⟩) (by assumption) ?rest2
            case hy2 => (intro w hSw; (try dsimp only at hSw); obtain ⟨s1, s2, s3, s4⟩ := hSw; go_simp; try with_reducible rfl)
            try simp only [Act.put, List.setIfInBounds_toArray, List.set_cons_zero, List.set_cons_succ]
            refine' wpAnyH_take (i := 4) (v := _) rfl (by kernel_rfl) (by kernel_rfl) (by kernel_rfl) (fun _ _ _ h => h) (Or.inl ⟨by rfl, ?hy4⟩) (by assumption) ?rest4
            case hy4 => (intro w hSw; (try dsimp only at hSw); obtain ⟨s1, s2, s3, s4⟩ := hSw; go_simp; try with_reducible rfl)
            try simp only [Act.put, List.setIfInBounds_toArray, List.set_cons_zero, List.set_cons_succ]
            refine' wpAnyH_take (i := 6) (v := _) rfl (by kernel_rfl) (by kernel_rfl) (by kernel_rfl) (fun _ _ _ h => h) (Or.inl ⟨by rfl, ?hy6⟩) (by assumption) ?rest6
            case hy6 => (intro w hSw; (try dsimp only at hSw); obtain ⟨s1, s2, s3, s4⟩ := hSw; go_simp; try with_reducible rfl)
            try simp only [Act.put, List.setIfInBounds_toArray, List.set_cons_zero, List.set_cons_succ]
            refine' wpAnyH_take (i := 8) (v := _) rfl (by kernel_rfl) (by kernel_rfl) (by kernel_rfl) (fun _ _ _ h => h) (Or.inl ⟨by rfl, ?hy8⟩) (by assumption) ?rest8
            case hy8 => (intro w hSw; (try dsimp only at hSw); obtain ⟨s1, s2, s3, s4⟩ := hSw; go_simp; try with_reducible rfl)
            try simp only [Act.put, List.setIfInBounds_toArray, List.set_cons_zero, List.set_cons_succ]
            refine' wpAnyH_take (i := 12) (v := _) rfl (by kernel_rfl) (by kernel_rfl) (by kernel_rfl) (fun _ _ _ h => h) (Or.inl ⟨by rfl, ?hy12⟩) (by assumption) ?rest12
            case hy12 => (intro w hSw; (try dsimp only at hSw); obtain ⟨s1, s2, s3, s4⟩ := hSw; go_simp; try with_reducible rfl)
            try simp only [Act.put, List.setIfInBounds_toArray, List.set_cons_zero, List.set_cons_succ]
            refine' wpAnyH_take (i := 1) (v := _) rfl (by kernel_rfl) (by kernel_rfl) (by kernel_rfl) (fun _ _ _ h => h) (Or.inl ⟨by rfl, ?hy1⟩) (by assumption) ?rest1
            case hy1 => (intro w hSw; (try dsimp only at hSw); obtain ⟨s1, s2, s3, s4⟩ := hSw; go_simp; try with_reducible rfl)
            try simp only [Act.put, List.setIfInBounds_toArray, List.set_cons_zero, List.set_cons_succ]
            refine' wpAnyH_take (i := 3) (v := _) rfl (by kernel_rfl) (by kernel_rfl) (by kernel_rfl) (fun _ _ _ h => h) (Or.inl ⟨by rfl, ?hy3⟩) (by assumption) ?rest3
            case hy3 => (intro w hSw; (try dsimp only at hSw); obtain ⟨s1, s2, s3, s4⟩ := hSw; go_simp; try with_reducible rfl)
            try simp only [Act.put, List.setIfInBounds_toArray, List.set_cons_zero, List.set_cons_succ]
            refine' wpAnyH_take (i := 5) (v := _) rfl (by kernel_rfl) (by kernel_rfl) (by kernel_rfl) (fun _ _ _ h => h) (Or.inl ⟨by rfl, ?hy5⟩) (by assumption) ?rest5
            case hy5 => (intro w hSw; (try dsimp only at hSw); obtain ⟨s1, s2, s3, s4⟩ := hSw; go_simp; try with_reducible rfl)
            try simp only [Act.put, List.setIfInBounds_toArray, List.set_cons_zero, List.set_cons_succ]
            refine' wpAnyH_take (i := 7) (v := _) rfl (by kernel_rfl) (by kernel_rfl) (by kernel_rfl) (fun _ _ _ h => h) (Or.inl ⟨by rfl, ?hy7⟩) (by assumption) ?rest7
            case hy7 => (intro w hSw; (try dsimp only at hSw); obtain ⟨s1, s2, s3, s4⟩ := hSw; go_simp; try with_reducible rfl)
            try simp only [Act.put, List.setIfInBounds_toArray, List.set_cons_zero, List.set_cons_succ]
            refine' wpAnyH_take (i := 9) (v := _) rfl (by kernel_rfl) (by kernel_rfl) (by kernel_rfl) (fun _ _ _ h => h) (Or.inl ⟨by rfl, ?hy9⟩) (by assumption) ?rest9
            case hy9 => (intro w hSw; (try dsimp only at hSw); obtain ⟨s1, s2, s3, s4⟩ := hSw; go_simp; try with_reducible rfl)
            try simp only [Act.put, List.setIfInBounds_toArray, List.set_cons_zero, List.set_cons_succ]
            refine' wpAnyH_take (i := 13) (v := _) rfl (by kernel_rfl) (by kernel_rfl) (by kernel_rfl) (fun _ _ _ h => h) (Or.inl ⟨by rfl, ?hy13⟩) (by assumption) ?rest13
            case hy13 => (intro w hSw; (try dsimp only at hSw); obtain ⟨s1, s2, s3, s4⟩ := hSw; go_simp; try with_reducible rfl)
            try simp only [Act.put, List.setIfInBounds_toArray, List.set_cons_zero, List.set_cons_succ]
            refine' wpAnyH_take (i := 10) (v := _) rfl (by kernel_rfl) (by kernel_rfl) (by kernel_rfl) (fun _ _ _ h => h) (Or.inl ⟨by rfl, ?hy10⟩) (by assumption) ?rest10
            case hy10 => (intro w hSw; (try dsimp only at hSw); obtain ⟨s1, s2, s3, s4⟩ := hSw; go_simp; try with_reducible rfl)
            try simp only [Act.put, List.setIfInBounds_toArray, List.set_cons_zero, List.set_cons_succ]
            refine' wpAnyH_take (i := 14) (v := _) rfl (by kernel_rfl) (by kernel_rfl) (by kernel_rfl) (fun _ _ _ h => h) (Or.inl ⟨by rfl, ?hy14⟩) (by assumption) ?rest14
            case hy14 => (intro w hSw; (try dsimp only at hSw); obtain ⟨s1, s2, s3, s4⟩ := hSw; go_simp; try with_reducible rfl)
            try simp only [Act.put, List.setIfInBounds_toArray, List.set_cons_zero, List.set_cons_succ]
            refine' wpAnyH_take (i := 15) (v := _) rfl (by kernel_rfl) (by kernel_rfl) (by kernel_rfl) (fun _ _ _ h => h) (Or.inl ⟨by rfl, ?hy15⟩) (by assumption) ?rest15
            case hy15 => (intro w hSw; (try dsimp only at hSw); obtain ⟨s1, s2, s3, s4⟩ := hSw; go_simp; try with_reducible rfl)
            try simp only [Act.put, List.setIfInBounds_toArray, List.set_cons_zero, List.set_cons_succ]
            refine wpAnyH_ready (rs := [11]) (by kernel_rfl) (by simp) (AllReadyH.cons rfl (fun K hK => ?_) AllReadyH.nil)
            go_simp
            refine hK.out _ _ (HS12.out _ HBC0.out.drew) (fun hHeld => ?_)
            clear hK K
            try simp only [Act.put, List.setIfInBounds_toArray, List.set_cons_zero, List.set_cons_succ]
            refine wpAnyH_ready (rs := [16]) (by kernel_rfl) (by simp) (AllReadyH.cons rfl (fun K hK => ?_) AllReadyH.nil)
            go_simp
            refine (torn_f _ xk.data so mm HF2.out).mono ?_
            rintro e6 w6 ⟨rfl, hb6⟩
            have HB6 := Lib.hid (HBC0.out.drew.trans hb6)
            clear hb6
            refine hK.out _ _ (HS12.out _ HB6.out) (fun hHeld => ?_)
            clear hK K
            try simp only [Act.put, List.setIfInBounds_toArray, List.set_cons_zero, List.set_cons_succ]
            refine' wpAnyH_take (i := 17) (v := _) rfl (by kernel_rfl) (by kernel_rfl) (by kernel_rfl) (fun _ _ _ h => h) (Or.inl ⟨by rfl, ?hy17⟩) (by assumption) ?rest17
            case hy17 => (intro w hSw; (try dsimp only at hSw); obtain ⟨s1, s2, s3, s4⟩ := hSw; go_simp; try with_reducible rfl)
            try simp only [Act.put, List.setIfInBounds_toArray, List.set_cons_zero, List.set_cons_succ]
            have hth6 := there_below HTHC.out HB6.out (by omega)
            have hst := store_sec hth6 (Dk.torn xk.data so mm)
            rw [Nat.zero_add] at hst
            have HTH6 := Lib.hid hth6
            clear hth6
            refine wpAnyH_ready (rs := [18]) (by kernel_rfl) (by simp) (AllReadyH.cons rfl (fun K hK => ?_) AllReadyH.nil)
            go_simp
            refine hK.out _ _ ?_ (fun hHeld => ?_)
            · refine ⟨?_, ?_, ?_, ?_⟩
              · rw [World.cell?_of_block (w := w6) (a := ⟨b4, 0, none⟩) (heap_putSec w6 g1 _ _ b4 (by omega))]
                exact (HS12.out _ HB6.out).1
              · rw [World.cell?_of_block (w := w6) (a := ⟨b10, 0, none⟩) (heap_putSec w6 g1 _ _ b10 (by omega))]
                exact (HS12.out _ HB6.out).2.1
              · exact load_secVar (range_keepb (range_below HDAT.out HB6.out l2) (heap_putSec w6 g1 _ _ b10 (by omega)))
              · rw [World.cell?_of_block (w := w6) (a := ⟨b11, 1, none⟩) (heap_putSec w6 g1 _ _ b11 (by omega))]
                exact (HS12.out _ HB6.out).2.2.2
            clear hK K
            try simp only [Act.put, List.setIfInBounds_toArray, List.set_cons_zero, List.set_cons_succ]
            refine wpAnyH_done (by kernel_rfl) ?_ _
            clear hHeld
            go_wp2
            have hsz : (putSec w6 g1 (at0 * 128) (Dk.torn xk.data so mm)).heap.size = w6.heap.size := size_putSec _ _ _ _
            have hs6 := HB6.out.size
            have HR := HREL.out (putSec w6 g1 (at0 * 128) (Dk.torn xk.data so mm)) (by omega) (fun q h1 h2 => by rw [heap_putSec _ _ _ _ _ h2, HB6.out.block q (by omega)]; exact HBC.out q h1)
              (by
                obtain ⟨e1, e2, e3⟩ := streams_setCells g1 (secC (Dk.torn xk.data so mm)) (at0 * 128) w6
                exact ⟨e1.trans (HB6.out.os.trans HBX.out.os), e2.trans (HB6.out.tape.trans HBX.out.tape), e3.trans (HB6.out.output.trans HBX.out.output)⟩)
              (by
                have h := range_put_row (range_below HRGC.out HB6.out (by omega)) (j := at0) (by rw [HLEN0.out]; omega) HTH6.out (Dk.torn xk.data so mm)
                rw [Nat.zero_add] at h
                rw [HEQL.out, HKF.out]
                exact h)
              (there_putSec (there_below (there_below HTH.out HBX.out hgl) HB6.out (by omega)) _)
            go_roundw
            case rel => exact ⟨k + 1, by omega, by go_num, HR⟩
            case measure => simp [intOf]; omega
          · have Q1 := Lib.hid q1
            have Q2 := Lib.hid q2
            have q : ((f1.toNat : Int) % 3 == 1) = false := by simp; omega
            have q' : ((f1.toNat : Int) % 3 == 2) = false := by simp; omega
            clear q1 q2
            have hat0 := HAT0.out
            go_wp2
            have HR := HREL.out wc (by omega) (fun q h1 _ => HBC.out q h1) ⟨HBX.out.os, HBX.out.tape, HBX.out.output⟩
              (by
                rw [HEQL.out, show Dk.kept (f1, f2) = 0 by simp [Dk.kept, Q1.out, Q2.out], torn_none, set_same _ _ _ HSO.out]
                exact HRGC.out)
              (there_below HTH.out HBX.out hgl)
            go_roundw
            case rel => exact ⟨k + 1, by omega, by go_num, HR⟩
            case measure => simp [intOf]; omega
    · have HGO := Lib.hid hgo
      have hnf2 : k < n' → nf = 0 := fun h => by omega
      clear hgo
      by_cases hkn : k < n'
      · have hnd := hnf2 hkn
        clear hnf2
        subst hnd
        obtain ⟨e0, e1, e2, e3⟩ := HFR2.out
        obtain ⟨p0, p1, p2, p3, p4⟩ := HV2R.out
        obtain ⟨t0, t1, t2, t3⟩ := HF2R.out
        have hrg := HRG.out
        have HLEN0 := Lib.hid (show (Dk.lands fates d.secs d.loose 0).length = n by rw [lands_length]; exact HN.out.symm)
        have HRGE := Lib.hid (show wr.rangeAt g1 0 (secsC (Dk.lands fates d.secs d.loose 0)) from by
          by_cases q0 : fates.length = 0
          · have : fates = [] := List.eq_nil_of_length_eq_zero q0
            subst this
            rw [lands_none] at hrg ⊢; exact hrg
          · have : d.loose.take k = d.loose := List.take_of_length_le (by have := HN'.out; have := HGO.out; have := HNF.out; omega)
            rw [this] at hrg; exact hrg)
        have hrow : RowOf wr 128 (some ⟨g1, 0, none⟩) n c1 (secsC (Dk.lands fates d.secs d.loose 0)) :=
          ⟨by rw [secsC_length, HLEN0.out], HCAP.out.1, HCAP.out.2, (fun h => by cases h), fun y hy _ => by injection hy with hy; subst hy; exact ⟨rfl, (by show g1 < _; omega), HRGE.out⟩⟩
        have HDF := Lib.hid (show DiskAt ((wr.setCell ⟨b4, 1, none⟩ (.slice none 0 0)).setCell ⟨b4, 3, none⟩ (.bool false)) (.agg #[.slice (some ⟨g1, 0, none⟩) n c1, .slice none 0 0, .int .i64 f, .bool false]) { d with secs := Dk.lands fates d.secs d.loose 0, loose := [], down := false } from
          disk_of HLEN0.out.symm rfl ((hrow.setCell _ _ (fun y hy _ => by injection hy with hy; subst hy; show g1 ≠ b4; omega)).setCell _ _ (fun y hy _ => by injection hy with hy; subst hy; show g1 ≠ b4; omega)) ⟨by simp [wrsC], by omega, by omega, fun _ => rfl, fun y hy _ => by cases hy⟩ HFU.out.symm rfl (by show _ ≤ d.fuse; rw [HFU.out]; exact HF.out.1) (by show d.fuse < _; rw [HFU.out]; exact HF.out.2))
        clear hrg hrow
        go_wp2_with fail
        refine (rarm_f _ _ _ ff f0 f1 HDF.out).mono ?_
        rintro e7 w7 ⟨⟨v7, rfl, hg7⟩, hb7⟩
        obtain ⟨hd7, hc7⟩ := hg7
        have HC7 := Lib.hid hc7
        clear hc7
        have HD7 := Lib.hid hd7
        obtain ⟨B, m, e, B', m', e', rfl, hm, hm', r1, r2, r3⟩ := hd7
        have HR3 := Lib.hid r3
        clear hm hm' r1 r2 r3
        have HB7 := Lib.hid hb7
        clear hb7
        generalize hgf : Dk.fuse (Dk.arm _ _) = g at *
        generalize hdm : Dk.down (Dk.arm _ _) = dm at *
        clear hgf hdm
        have hne2 : w.heap.size + 1 < b4 := by omega
        have hle : w.heap.size + 1 < ((wr.setCell ⟨b4, 1, none⟩ (.slice none 0 0)).setCell ⟨b4, 3, none⟩ (.bool false)).heap.size := by simp only [size_set]; exact p0
        have HV7 := Lib.hid (show Var w7 (w.heap.size + 1) none none 0 0 0 0 0 false from (show Var ((wr.setCell ⟨b4, 1, none⟩ (.slice none 0 0)).setCell ⟨b4, 3, none⟩ (.bool false)) (w.heap.size + 1) none none 0 0 0 0 0 false from ⟨hle, by go_simp, by go_simp, by go_simp, by go_simp⟩).below HB7.out hle)
        have HF7 := Lib.hid (show Free w7 (w.heap.size + 1) from (show Free ((wr.setCell ⟨b4, 1, none⟩ (.slice none 0 0)).setCell ⟨b4, 3, none⟩ (.bool false)) (w.heap.size + 1) from ⟨by go_simp, by go_simp, by go_simp, by go_simp⟩).below HB7.out hle)
        have HBW7 := Lib.hid (show Below w.heap.size w w7 from ((HBR.out.setCell (p := ⟨b4, 1, none⟩) (by show _ ≤ b4; omega) _).setCell (p := ⟨b4, 3, none⟩) (by show _ ≤ b4; omega) _).trans (HB7.out.mono (by omega)))
        clear p0 p1 p2 p3 p4 t0 t1 t2 t3 y0 y1 y2 y3 y4 e0 e1 e2 e3
        obtain ⟨p0, p1, p2, p3, p4⟩ := HV7.out
        obtain ⟨t0, t1, t2, t3⟩ := HF7.out
        have HCL := Lib.hid (show ∀ b, b < g1 → Clear b (.agg #[.slice B m e, .slice B' m' e', .int .i64 g, .bool dm]) from fun b hb => HC7.out b (by simp only [size_set]; have := HVR.out.lt; omega) (clear_mk (fun y hy _ => by injection hy with hy; subst hy; show g1 ≠ b; omega) (fun y hy => by cases hy)))
        have q : d.fall fates ff = (Dk.arm { d with secs := Dk.lands fates d.secs d.loose 0, loose := [], down := false } ff, 0) := by rw [Dk.fall, HR.out]; rfl
        go_wp2
        refine bodyPost_ret (ret_cell_tmp rfl rfl (load_var (HV7.out.set B B' m e m' e' g dm))) rfl ?_
        refine ⟨⟨_, by rw [q]; rfl, ?_⟩, below_set4 HBW7.out (by omega) _ _ _ _ _ _ _ _⟩
        rw [q]
        exact ⟨set_disk HD7.out (HCL.out _ (by omega)), fun b hb _ => HCL.out b (by omega)⟩
      · clear hnf2
        obtain ⟨e0, e1, e2, e3⟩ := HFR2.out
        obtain ⟨p0, p1, p2, p3, p4⟩ := HV2R.out
        obtain ⟨t0, t1, t2, t3⟩ := HF2R.out
        have hrg := HRG.out
        have HLEN0 := Lib.hid (show (Dk.lands fates d.secs d.loose 0).length = n by rw [lands_length]; exact HN.out.symm)
        have HRGE := Lib.hid (show wr.rangeAt g1 0 (secsC (Dk.lands fates d.secs d.loose 0)) from by
          by_cases q0 : fates.length = 0
          · have : fates = [] := List.eq_nil_of_length_eq_zero q0
            subst this
            rw [lands_none] at hrg ⊢; exact hrg
          · have : d.loose.take k = d.loose := List.take_of_length_le (by have := HN'.out; have := HGO.out; have := HNF.out; omega)
            rw [this] at hrg; exact hrg)
        have hrow : RowOf wr 128 (some ⟨g1, 0, none⟩) n c1 (secsC (Dk.lands fates d.secs d.loose 0)) :=
          ⟨by rw [secsC_length, HLEN0.out], HCAP.out.1, HCAP.out.2, (fun h => by cases h), fun y hy _ => by injection hy with hy; subst hy; exact ⟨rfl, (by show g1 < _; omega), HRGE.out⟩⟩
        have HDF := Lib.hid (show DiskAt ((wr.setCell ⟨b4, 1, none⟩ (.slice none 0 0)).setCell ⟨b4, 3, none⟩ (.bool false)) (.agg #[.slice (some ⟨g1, 0, none⟩) n c1, .slice none 0 0, .int .i64 f, .bool false]) { d with secs := Dk.lands fates d.secs d.loose 0, loose := [], down := false } from
          disk_of HLEN0.out.symm rfl ((hrow.setCell _ _ (fun y hy _ => by injection hy with hy; subst hy; show g1 ≠ b4; omega)).setCell _ _ (fun y hy _ => by injection hy with hy; subst hy; show g1 ≠ b4; omega)) ⟨by simp [wrsC], by omega, by omega, fun _ => rfl, fun y hy _ => by cases hy⟩ HFU.out.symm rfl (by show _ ≤ d.fuse; rw [HFU.out]; exact HF.out.1) (by show d.fuse < _; rw [HFU.out]; exact HF.out.2))
        clear hrg hrow
        go_wp2_with fail
        refine (rarm_f _ _ _ ff f0 f1 HDF.out).mono ?_
        rintro e7 w7 ⟨⟨v7, rfl, hg7⟩, hb7⟩
        obtain ⟨hd7, hc7⟩ := hg7
        have HC7 := Lib.hid hc7
        clear hc7
        have HD7 := Lib.hid hd7
        obtain ⟨B, m, e, B', m', e', rfl, hm, hm', r1, r2, r3⟩ := hd7
        have HR3 := Lib.hid r3
        clear hm hm' r1 r2 r3
        have HB7 := Lib.hid hb7
        clear hb7
        generalize hgf : Dk.fuse (Dk.arm _ _) = g at *
        generalize hdm : Dk.down (Dk.arm _ _) = dm at *
        clear hgf hdm
        have hne2 : w.heap.size + 1 < b4 := by omega
        have hle : w.heap.size + 1 < ((wr.setCell ⟨b4, 1, none⟩ (.slice none 0 0)).setCell ⟨b4, 3, none⟩ (.bool false)).heap.size := by simp only [size_set]; exact p0
        have HV7 := Lib.hid (show Var w7 (w.heap.size + 1) none none 0 0 0 0 0 false from (show Var ((wr.setCell ⟨b4, 1, none⟩ (.slice none 0 0)).setCell ⟨b4, 3, none⟩ (.bool false)) (w.heap.size + 1) none none 0 0 0 0 0 false from ⟨hle, by go_simp, by go_simp, by go_simp, by go_simp⟩).below HB7.out hle)
        have HF7 := Lib.hid (show Free w7 (w.heap.size + 1) from (show Free ((wr.setCell ⟨b4, 1, none⟩ (.slice none 0 0)).setCell ⟨b4, 3, none⟩ (.bool false)) (w.heap.size + 1) from ⟨by go_simp, by go_simp, by go_simp, by go_simp⟩).below HB7.out hle)
        have HBW7 := Lib.hid (show Below w.heap.size w w7 from ((HBR.out.setCell (p := ⟨b4, 1, none⟩) (by show _ ≤ b4; omega) _).setCell (p := ⟨b4, 3, none⟩) (by show _ ≤ b4; omega) _).trans (HB7.out.mono (by omega)))
        clear p0 p1 p2 p3 p4 t0 t1 t2 t3 y0 y1 y2 y3 y4 e0 e1 e2 e3
        obtain ⟨p0, p1, p2, p3, p4⟩ := HV7.out
        obtain ⟨t0, t1, t2, t3⟩ := HF7.out
        have HCL := Lib.hid (show ∀ b, b < g1 → Clear b (.agg #[.slice B m e, .slice B' m' e', .int .i64 g, .bool dm]) from fun b hb => HC7.out b (by simp only [size_set]; have := HVR.out.lt; omega) (clear_mk (fun y hy _ => by injection hy with hy; subst hy; show g1 ≠ b; omega) (fun y hy => by cases hy)))
        have q : d.fall fates ff = (Dk.arm { d with secs := Dk.lands fates d.secs d.loose 0, loose := [], down := false } ff, 0) := by rw [Dk.fall, HR.out]; rfl
        go_wp2
        refine bodyPost_ret (ret_cell_tmp rfl rfl (load_var (HV7.out.set B B' m e m' e' g dm))) rfl ?_
        refine ⟨⟨_, by rw [q]; rfl, ?_⟩, below_set4 HBW7.out (by omega) _ _ _ _ _ _ _ _⟩
        rw [q]
        exact ⟨set_disk HD7.out (HCL.out _ (by omega)), fun b hb _ => HCL.out b (by omega)⟩
end Go.Proofs.Ytfffmmnpohgniaa
