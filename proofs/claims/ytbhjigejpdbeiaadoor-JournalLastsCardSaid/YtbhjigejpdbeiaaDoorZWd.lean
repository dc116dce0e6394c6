/-
  The program's Write.
-/
import Derived.Test.YtbhjigejpdbeiaaDoorZWr
import Derived.Deep.RegionLawGrows
set_option linter.unusedSimpArgs false
set_option linter.unusedVariables false
namespace Go.Proofs.YtbhjigejpdbeiaaDoor
open Go.RowKit
set_option linter.unusedVariables false
set_option maxRecDepth 8000

theorem step_append_full {w : World} {ops : Array Oper} {o : Oper} {a : Act} {K : Act → World → Prop} {Q : Exit → Act → World → Prop} {Z : Prop} (hgd : o.guard = none) (s x : Operand) (T E : TypeId)
    (ho : o.op = .call { callee := .builtin .append, args := #[s, x], argTypes := #[T, T] }) (ht : Tryd.prog.underlying T = some (.slice E))
    (z : Value) (size bytes : Nat) (hinf : (Tryd.prog.info? E).map (fun i => (i.zero, i.size, i.bytes)) = some (some z, size, bytes)) (hzs : z.cells.size = size) (hsz : 0 < size)
    (A : Option Addr) (n c : Nat) (X : List Value) (hs : a.eval s = .slice A n n) (hr : RowOf w size A n c X)
    (b m d : Nat) (Y : List Value) (hx : a.eval x = .slice (some ⟨b, 0, none⟩) m d) (hY : RowOf w size (some ⟨b, 0, none⟩) m d Y) (h1 : ∀ u ∈ Y, u.oneCell' = true) (hm : 0 < m)
    (h63 : n + m ≤ 1000000) (hbytes : bytes ≤ 100000)
    (h : ∀ v' w', w'.ownsRow w.heap.size E size v' (n + m) (X ++ Y) → w.grownBy w' none → K (a.put o.dst v') w') :
    if Region.wanted o (yielded ops a.tmps) = true then Oper.wp Tryd.prog o a w K Q else Z := by
  obtain ⟨i, hi, hz, hsize, hby⟩ := info_parts hinf
  obtain ⟨x1, x2, x3, x4, x5⟩ := hr
  obtain ⟨y1, y2, y3, y4, y5⟩ := hY
  refine step_append_grows hgd s x T ho E i z size bytes ht hi hz hsize hby hzs hsz A n n X hs ?_ x1 ?_ ⟨b, 0, none⟩ m d Y hx y1 ?_ h1 (by omega) (by unfold maxLen; omega) (Nat.le_trans (Nat.mul_le_mul h63 hbytes) (by omega)) h
  · intro h; have := x4 h; omega
  · intro ad hA j u hj
    have hj' := (List.getElem?_eq_some_iff.1 hj).1
    have hn0 : 0 < n := by
      rcases Nat.eq_zero_or_pos n with h | h
      · subst h; simp at x1; subst x1; simp at hj'
      · exact h
    obtain ⟨k1, k2, k3⟩ := x5 ad hA hn0
    obtain ⟨b', of, sp⟩ := ad
    obtain rfl : sp = none := k1
    rw [add_none]
    exact k3 j u hj
  · intro j u hj
    rw [add_none]
    exact (y5 _ rfl hm).2.2 j u hj

set_option maxHeartbeats 4000000 in
theorem write_f (w : World) (v : Value) (d : Dk) (i : Int) (s : Sec) (h : DiskAt w v d) :
    Calls Tryd.prog 52 #[v, .int .i64 i, secV s] w fun e w' => WritePost v d i s w e w' := by
  obtain ⟨A, n, c, A', n', c', rfl, hn, hn', h1, h2, h3⟩ := h
  have H1 := Lib.hid h1
  have H2 := Lib.hid h2
  have HN := Lib.hid hn
  have HN' := Lib.hid hn'
  have HF := Lib.hid h3
  clear h1 h2 hn hn' h3
  generalize hf : d.fuse = f
  generalize hdn : d.down = dn
  have HFU := Lib.hid hf
  have HDN := Lib.hid hdn
  clear hf hdn
  obtain ⟨o1, ho1⟩ : ∃ o, o = Obj.cells #[.slice A n c, .slice A' n' c', .int .i64 f, .bool dn] 25 := ⟨_, rfl⟩
  obtain ⟨o3, ho3⟩ : ∃ o, o = Obj.cells #[.slice none 0 0, .slice none 0 0, .int .i64 0, .bool false] 25 := ⟨_, rfl⟩
  obtain ⟨w1, hw1⟩ : ∃ w1, w1 = ((w.alloc o1).alloc (secO s)).alloc o3 := ⟨_, rfl⟩
  have ha1 : Below (w.alloc o1).heap.size (w.alloc o1) w1 := by rw [hw1]; exact below_two _ _ _
  have ha2 : Below ((w.alloc o1).alloc (secO s)).heap.size ((w.alloc o1).alloc (secO s)) w1 := by rw [hw1]; exact (Below.refl _ _).alloc (Nat.le_refl _) _
  have HV := Lib.hid (show Var w1 w.heap.size A A' n c n' c' f dn from (show Var (w.alloc o1) w.heap.size A A' n c n' c' f dn by rw [ho1]; exact var_new w A A' n c n' c' f dn).below ha1 (by simp))
  have HFR := Lib.hid (show Free w1 w.heap.size from (show Free (w.alloc o1) w.heap.size by rw [ho1]; exact free_new w _ _).below ha1 (by simp))
  have HSR := Lib.hid (show w1.rangeAt (w.heap.size + 1) 0 (secC s) from range_below (show ((w.alloc o1).alloc (secO s)).rangeAt (w.heap.size + 1) 0 (secC s) by have := range_new (w.alloc o1) (secC s) 81; rwa [size_alloc] at this) ha2 (by simp))
  have HV3 := Lib.hid (show Var w1 (w.heap.size + 2) none none 0 0 0 0 0 false by
    rw [hw1, ho3]; have := var_new2 (w.alloc o1) (secO s) none none 0 0 0 0 0 false; rwa [size_alloc] at this)
  have HF3 := Lib.hid (show Free w1 (w.heap.size + 2) by
    rw [hw1, ho3]; have := free_new2 (w.alloc o1) (secO s) #[.slice none 0 0, .slice none 0 0, .int .i64 0, .bool false] 25; rwa [size_alloc] at this)
  have HB := Lib.hid (show Below w.heap.size w w1 from ((Below.refl w.heap.size w).alloc (Nat.le_refl _) o1).trans (ha1.mono (by simp)))
  have HS := Lib.hid (show w1.heap.size = w.heap.size + 3 by rw [hw1]; simp)
  have HW := Lib.hid (show w1 = ((w.alloc (Obj.cells #[.slice A n c, .slice A' n' c', .int .i64 f, .bool dn] 25)).alloc (secO s)).alloc (Obj.cells #[.slice none 0 0, .slice none 0 0, .int .i64 0, .bool false] 25) by rw [hw1, ho1, ho3])
  clear hw1 ha1 ha2 ho1 ho3
  have HD := Lib.hid (show ∀ w2, Below w1.heap.size w1 w2 → DiskAt w2 (.agg #[.slice A n c, .slice A' n' c', .int .i64 f, .bool dn]) d from fun w2 hb2 =>
    disk_of HN.out HN'.out ((H1.out.kept HB.out (Nat.le_refl _)).kept hb2 (Nat.le_refl _)) ((H2.out.kept HB.out (Nat.le_refl _)).kept hb2 (Nat.le_refl _)) HFU.out.symm HDN.out.symm HF.out.1 HF.out.2)
  have HD0 := Lib.hid (show DiskAt w (.agg #[.slice A n c, .slice A' n' c', .int .i64 f, .bool dn]) d from disk_of HN.out HN'.out H1.out H2.out HFU.out.symm HDN.out.symm HF.out.1 HF.out.2)
  have HC := Lib.hid (show ∀ b, w.heap.size ≤ b → Clear b (.agg #[.slice A n c, .slice A' n' c', .int .i64 f, .bool dn]) from fun b hb => (HD0.out).clear hb)
  have HFIN := Lib.hid (show ∀ (W : World), Below w1.heap.size w1 W → ∀ (r : Value) (q : d.write i s = (d, 1) ∨ d.write i s = (d, 10)), r = .int .i64 (d.write i s).2 → WritePost (.agg #[.slice A n c, .slice A' n' c', .int .i64 f, .bool dn]) d i s w (.returned (.tuple #[.agg #[.slice A n c, .slice A' n' c', .int .i64 f, .bool dn], r])) (set4 W (w.heap.size + 2) A A' n c n' c' f dn) from by
    intro W hW r q hr
    refine ⟨⟨_, by rw [hr], ?_⟩, below_set4 (below_chain HB.out hW) (by omega) _ _ _ _ _ _ _ _⟩
    have e : (d.write i s).1 = d := by rcases q with q | q <;> rw [q]
    rw [e]
    exact ⟨set_disk (HD.out W hW) (HC.out _ (by omega)), fun b _ h => h⟩)
  go_enter Tryd.func52, Tryd.ntmps52
  go_wp2_with fail
  rw [← HW.out]
  clear HW
  refine (within_f w1 A A' n c n' c' f i dn).mono ?_
  rintro e w2 ⟨rfl, hb2⟩
  have HB2 := Lib.hid hb2
  clear hb2
  obtain ⟨z0, z1, z2, z3, z4⟩ := HV.out.below HB2.out HV.out.lt
  obtain ⟨y0, y1, y2, y3, y4⟩ := HV3.out.below HB2.out HV3.out.lt
  obtain ⟨u0, u1, u2, u3⟩ := HF3.out.below HB2.out HV3.out.lt
  have HX := Lib.hid (show d.within i = Dk.inside n i by rw [Dk.within, ← HN.out])
  cases hin : Dk.inside n i with
  | false =>
    have HI := Lib.hid hin
    clear hin
    go_wp2
    refine bodyPost_ret (ret_cell_tmp rfl rfl (load_var (Var.set ⟨y0, y1, y2, y3, y4⟩ A A' n c n' c' f dn))) rfl ?_
    have q : d.write i s = (d, 1) := by rw [Dk.write, HX.out, HI.out, Bool.and_false]; rfl
    exact HFIN.out w2 HB2.out _ (.inl q) (by rw [q]; rfl)
  | true =>
  have HI := Lib.hid hin
  clear hin
  go_wp2_with fail
  refine (right_f w2 _ d (HD.out w2 HB2.out)).mono ?_
  rintro e w3 ⟨rfl, hb3⟩
  have HB3 := Lib.hid (below_chain HB2.out hb3)
  clear hb3 z0 z1 z2 z3 z4 y0 y1 y2 y3 y4 u0 u1 u2 u3
  obtain ⟨z0, z1, z2, z3, z4⟩ := HV.out.below HB3.out HV.out.lt
  obtain ⟨y0, y1, y2, y3, y4⟩ := HV3.out.below HB3.out HV3.out.lt
  obtain ⟨u0, u1, u2, u3⟩ := HF3.out.below HB3.out HV3.out.lt
  cases hr : d.right with
  | false =>
    have HR := Lib.hid hr
    clear hr
    go_wp2
    refine bodyPost_ret (ret_cell_tmp rfl rfl (load_var (Var.set ⟨y0, y1, y2, y3, y4⟩ A A' n c n' c' f dn))) rfl ?_
    have q : d.write i s = (d, 1) := by rw [Dk.write, HR.out]; rfl
    exact HFIN.out w3 HB3.out _ (.inl q) (by rw [q]; rfl)
  | true =>
  have HR := Lib.hid hr
  clear hr
  have HRB := Lib.hid (right_bounds HR.out)
  cases dn with
  | true =>
    have hnf : (!d.down && decide (d.loose.length = 4096)) = false := by rw [HDN.out]; rfl
    have HNF := Lib.hid hnf
    clear hnf
    go_wp2_with fail
    refine (spend_f w3 _ d (HD.out w3 HB3.out)).mono ?_
    rintro e w4 ⟨⟨u, rfl, hg⟩, hb4⟩
    have hq : d.write i s = match d.step with | (x, false) => (x, 9) | (x, true) => ({ x with loose := x.loose ++ [⟨i, s⟩] }, 0) := by
      rw [Dk.write, HR.out, HX.out, HI.out, HNF.out]; rfl
    have hsl : d.step.1.loose = d.loose := by
      rw [Dk.step]; split <;> rfl
    have hss : d.step.1.secs = d.secs := by
      rw [Dk.step]; split <;> rfl
    generalize hst : d.step = st at hg hq hsl hss ⊢
    obtain ⟨x, ok⟩ := st
    dsimp only at hg hq hsl hss ⊢
    have HSS := Lib.hid hss
    clear hss
    obtain ⟨hg1, hg2⟩ := hg
    have HG2 := Lib.hid hg2
    have HG1 := Lib.hid hg1
    have HSL := Lib.hid hsl
    clear hg2 hst hsl
    obtain ⟨B, m, e, B', m', e', rfl, hm, hm', r1, r2, r3⟩ := hg1
    have HM := Lib.hid hm
    have HM' := Lib.hid hm'
    have R3 := Lib.hid r3
    have RA := Lib.hid r1
    have RB := Lib.hid r2
    clear hm hm' r1 r2 r3
    have HB4 := Lib.hid (below_chain HB3.out hb4)
    have HB04 := Lib.hid (below_chain HB.out HB4.out)
    have HB34 := Lib.hid hb4
    have hcl3 := HG2.out w.heap.size (by have := HB3.out.size; have := HV.out.lt; omega) (HC.out _ (by omega))
    have hcl6 := HG2.out (w.heap.size + 2) (by have := HB3.out.size; have := HV3.out.lt; omega) (HC.out _ (by omega))
    have C3 := Lib.hid hcl3
    have C6 := Lib.hid hcl6
    clear hb4 hcl3 hcl6 z0 z1 z2 z3 z4 y0 y1 y2 y3 y4 u0 u1 u2 u3
    generalize hgf : x.fuse = g at *
    generalize hdm : x.down = dm at *
    have HGF := Lib.hid hgf
    have HDM := Lib.hid hdm
    clear hgf hdm
    obtain ⟨z0, z1, z2, z3, z4⟩ := HV.out.below HB4.out HV.out.lt
    obtain ⟨k0, k1, k2, k3⟩ := HFR.out.below HB4.out HV.out.lt
    obtain ⟨y0, y1, y2, y3, y4⟩ := HV3.out.below HB4.out HV3.out.lt
    obtain ⟨u0, u1, u2, u3⟩ := HF3.out.below HB4.out HV3.out.lt
    have HVA := Lib.hid (Var.set ⟨z0, z1, z2, z3, z4⟩ B B' m e m' e' g dm)
    have HDA := Lib.hid (set_disk HG1.out C3.out)
    have HBA := Lib.hid (below_set4 HB04.out (Nat.le_refl _) B B' m e m' e' g dm)
    have HVX := Lib.hid (show Var (set4 w4 w.heap.size B B' m e m' e' g dm) (w.heap.size + 2) none none 0 0 0 0 0 false from
      ⟨by simp only [size_set]; exact y0, by go_simp, by go_simp, by go_simp, by go_simp⟩)
    cases ok with
    | false =>
      have HQ := Lib.hid hq
      clear hq
      go_wp2
      refine bodyPost_ret (ret_cell_tmp rfl rfl (load_var (HVX.out.set B B' m e m' e' g dm))) rfl ?_
      refine ⟨⟨_, by rw [HQ.out]; rfl, ?_⟩, below_set4 HBA.out (by omega) _ _ _ _ _ _ _ _⟩
      rw [HQ.out]
      exact ⟨set_disk HDA.out C6.out, fun b hb h => HG2.out b (by have := HB3.out.size; have := HV.out.lt; omega) h⟩
    | true =>
      have HQ := Lib.hid hq
      clear hq
      go_wp2_with fail
      have HX0 := Lib.hid (show ∃ wa, wa = set4 w4 w.heap.size B B' m e m' e' g dm from ⟨_, rfl⟩)
      obtain ⟨wa, hwa⟩ := HX0.out
      have HVA := Lib.hid (show Var wa w.heap.size B B' m e m' e' g dm by rw [hwa]; exact HVA.out)
      have HDA := Lib.hid (show DiskAt wa (.agg #[.slice B m e, .slice B' m' e', .int .i64 g, .bool dm]) x by rw [hwa]; exact HDA.out)
      have HBA := Lib.hid (show Below w.heap.size w wa by rw [hwa]; exact HBA.out)
      have HVX := Lib.hid (show Var wa (w.heap.size + 2) none none 0 0 0 0 0 false by rw [hwa]; exact HVX.out)
      have HFA := Lib.hid (show Free wa w.heap.size by rw [hwa]; exact ⟨by go_simp, by go_simp, by go_simp, by go_simp⟩)
      have HFX := Lib.hid (show Free wa (w.heap.size + 2) by rw [hwa]; exact ⟨by go_simp, by go_simp, by go_simp, by go_simp⟩)
      have HRA := Lib.hid (show wa.rangeAt (w.heap.size + 1) 0 (secC s) by
        have h := range_below HSR.out HB4.out (by have := HV3.out.lt; omega)
        rw [hwa]
        intro j v hv
        rw [World.cell?_setCell_other _ _ _ _ (by intro q; injection q with q1; omega), World.cell?_setCell_other _ _ _ _ (by intro q; injection q with q1; omega), World.cell?_setCell_other _ _ _ _ (by intro q; injection q with q1; omega), World.cell?_setCell_other _ _ _ _ (by intro q; injection q with q1; omega)]
        exact h j v hv)
      dsimp only [set4] at hwa
      rw [← hwa]
      clear hwa HX0 z0 z1 z2 z3 z4 y0 y1 y2 y3 y4 u0 u1 u2 u3 k0 k1 k2 k3
      have HDB := Lib.hid (show RowOf wa 128 B m e (secsC d.secs) ∧ RowOf wa 129 B' m' e' (wrsC d.loose) from by
        obtain ⟨_, _, _, _, _, _, q, _, _, r1, r2, _⟩ := HDA.out
        injection q with q
        injection q with q
        injection q with q1 q
        injection q with q2 q
        injection q1 with q11 q12 q13
        injection q2 with q21 q22 q23
        subst q11; subst q12; subst q13; subst q21; subst q22; subst q23
        rw [← HSL.out]
        exact ⟨by rw [← HSS.out]; exact r1, r2⟩)
      have HML := Lib.hid (show m' ≤ 4096 by have := HRB.out; have := HM'.out; rw [HSL.out] at this; omega)
      have q26 : w.heap.size + 2 < wa.heap.size := HVX.out.lt
      have X1 := Lib.hid (wrsC_one [⟨i, s⟩])
      have HFIN2 := Lib.hid (show ∀ (w5 : World) (A5 : Option Addr) (c5 : Nat), Below wa.heap.size wa w5 → RowOf w5 129 A5 (m' + 1) c5 (wrsC d.loose ++ wrsC [⟨i, s⟩]) → (∀ y, A5 = some y → wa.heap.size ≤ y.block) →
          Var (set4 (w5.setCell ⟨w.heap.size, 1, none⟩ (.slice A5 (m' + 1) c5)) (w.heap.size + 2) B A5 m e (m' + 1) c5 g dm) (w.heap.size + 2) B A5 m e (m' + 1) c5 g dm ∧
          WritePost (.agg #[.slice A n c, .slice A' n' c', .int .i64 f, .bool true]) d i s w (.returned (.tuple #[.agg #[.slice B m e, .slice A5 (m' + 1) c5, .int .i64 g, .bool dm], .int .i64 0])) (set4 (w5.setCell ⟨w.heap.size, 1, none⟩ (.slice A5 (m' + 1) c5)) (w.heap.size + 2) B A5 m e (m' + 1) c5 g dm) from by
        intro w5 A5 c5 hb5 hrow hnew
        obtain ⟨t0, t1, t2, t3, t4⟩ := HVX.out.below hb5 q26
        refine ⟨Var.set (A := none) (A' := none) (n := 0) (c := 0) (n' := 0) (c' := 0) (f := 0) (dn := false) ⟨by rw [size_set]; exact t0, ?_, ?_, ?_, ?_⟩ _ _ _ _ _ _ _ _, ?_⟩
        · rw [World.cell?_setCell_other _ _ _ _ (by intro q; injection q with q1; omega)]; exact t1
        · rw [World.cell?_setCell_other _ _ _ _ (by intro q; injection q with q1; omega)]; exact t2
        · rw [World.cell?_setCell_other _ _ _ _ (by intro q; injection q with q1; omega)]; exact t3
        · rw [World.cell?_setCell_other _ _ _ _ (by intro q; injection q with q1; omega)]; exact t4
        · have hbel : Below w.heap.size w (w5.setCell ⟨w.heap.size, 1, none⟩ (.slice A5 (m' + 1) c5)) := (HBA.out.trans (hb5.mono (by have := HBA.out.size; omega))).setCell (p := ⟨w.heap.size, 1, none⟩) (Nat.le_refl _) _
          refine ⟨⟨_, by rw [HQ.out], ?_⟩, below_set4 hbel (by omega) _ _ _ _ _ _ _ _⟩
          rw [HQ.out]
          obtain ⟨hcl6, _⟩ := C6.out _ _ _ _ _ _ _ _ rfl
          obtain ⟨hcl3, _⟩ := C3.out _ _ _ _ _ _ _ _ rfl
          refine ⟨disk_of HM.out (by rw [HM'.out, HSL.out]; simp) ?_ ?_ HGF.out.symm HDM.out.symm (by show _ ≤ x.fuse; rw [HGF.out]; exact R3.out.1) (by show x.fuse < _; rw [HGF.out]; exact R3.out.2), ?_⟩
          · show RowOf _ 128 B m e (secsC x.secs)
            rw [HSS.out]
            exact ((HDB.out.1.kept hb5 (Nat.le_refl _)).setCell _ _ (fun y hy h0 => hcl3 y hy h0)).set4 hcl6 _ _ _ _ _ _ _ _
          · have : wrsC (x.loose ++ [⟨i, s⟩]) = wrsC d.loose ++ wrsC [⟨i, s⟩] := by rw [HSL.out, wrsC_append]
            show RowOf _ 129 A5 (m' + 1) c5 (wrsC (x.loose ++ [⟨i, s⟩]))
            rw [this]
            exact (hrow.setCell _ _ (fun y hy h0 => by have := hnew y hy; dsimp only; omega)).set4 (fun y hy h0 => by have := hnew y hy; omega) _ _ _ _ _ _ _ _
          · intro b hb hc
            obtain ⟨k1, _⟩ := HG2.out b (by have := HB3.out.size; have := HV.out.lt; omega) hc _ _ _ _ _ _ _ _ rfl
            exact clear_mk k1 (fun y hy h0 => by have := hnew y hy; omega))
      obtain ⟨y0, y1, y2, y3, y4⟩ := HVA.out
      have hl0 := HRA.out
      have hl1 : ∀ W o, World.rangeAt W (w.heap.size + 1) 0 (secC s) → World.rangeAt (W.alloc o) (w.heap.size + 1) 0 (secC s) := fun W o h => World.rangeAt_alloc h o
      have hl2 : ∀ W, World.rangeAt W (w.heap.size + 1) 0 (secC s) → (secVar ⟨w.heap.size + 1, 0, none⟩).run Tryd.prog W = .ok (secV s) W := fun W h => load_secVar h
      have hsz : ∀ o, wa.heap.size ≤ (wa.alloc o).heap.size := fun o => by simp
      have HCL := Lib.hid (show m' ≤ e' ∧ e' ≤ 9223372036854775807 from ⟨HDB.out.2.2.1, HDB.out.2.2.2.1⟩)
      go_region_law (first
        | (refine step_append_full rfl (.tmp 42) (.tmp 46) 23 83 rfl Tryd.underlying23 (wrV zeroWr) 129 136 infoWrite rfl (by decide) B' m' e' _ rfl (HDB.out.2.alloc _).drew wa.heap.size 1 1 _ rfl (row_one wa ⟨i, s⟩).drew X1.out (by decide) (by have := HML.out; omega) (by decide) ?_
           intro v' w5 k1 k2
           have HBX := Lib.hid (show Below wa.heap.size wa w5 from (((Below.refl wa.heap.size wa).alloc (Nat.le_refl _) _).drew).grown k2 (hsz _) (fun k hk => by cases hk))
           obtain ⟨A5, c5, rfl, r1, r2⟩ := row_of_own k1
           have ROW := Lib.hid r1
           have NEW := Lib.hid (show ∀ y, A5 = some y → wa.heap.size ≤ y.block from fun y hy => Nat.le_trans (hsz _) (r2 y hy))
           obtain ⟨t0, t1, t2, t3, t4⟩ := HVA.out.below HBX.out HVA.out.lt
           obtain ⟨v0, v1, v2, v3⟩ := HFA.out.below HBX.out HVA.out.lt
           clear k1 k2 r1 r2)
        | (go_simp
           refine (clip_f _ B' m' e' HCL.out.1 HCL.out.2).mono ?_
           rintro e0 w9 ⟨rfl, rfl⟩))
      all_goals (
        obtain ⟨p0, p1, p2, p3, p4⟩ := HVX.out.below HBX.out q26
        obtain ⟨g0, g1, g2, g3⟩ := HFX.out.below HBX.out q26
        have HFF := Lib.hid (HFIN2.out _ A5 c5 HBX.out ROW.out NEW.out)
        go_wp2
        refine bodyPost_ret (ret_cell_tmp rfl rfl (load_var HFF.out.1)) rfl ?_
        exact HFF.out.2)
  | false =>
    by_cases q4 : n' = 4096
    · have Q4 := Lib.hid q4
      have q5 : ((n' : Int) == 4096) = true := by simp [q4]
      clear q4
      go_wp2
      refine bodyPost_ret (ret_cell_tmp rfl rfl (load_var (Var.set ⟨y0, y1, y2, y3, y4⟩ A A' n c n' c' f false))) rfl ?_
      have q : d.write i s = (d, 10) := by rw [Dk.write, HR.out, HX.out, HI.out, HDN.out, ← HN'.out, Q4.out]; rfl
      exact HFIN.out w3 HB3.out _ (.inr q) (by rw [q]; rfl)
    have hnf : (!d.down && decide (d.loose.length = 4096)) = false := by rw [HDN.out, ← HN'.out, decide_eq_false q4]; rfl
    have q5 : ((n' : Int) == 4096) = false := by simp; omega
    clear q4
    have HNF := Lib.hid hnf
    clear hnf
    go_wp2_with fail
    refine (spend_f w3 _ d (HD.out w3 HB3.out)).mono ?_
    rintro e w4 ⟨⟨u, rfl, hg⟩, hb4⟩
    have hq : d.write i s = match d.step with | (x, false) => (x, 9) | (x, true) => ({ x with loose := x.loose ++ [⟨i, s⟩] }, 0) := by
      rw [Dk.write, HR.out, HX.out, HI.out, HNF.out]; rfl
    have hsl : d.step.1.loose = d.loose := by
      rw [Dk.step]; split <;> rfl
    have hss : d.step.1.secs = d.secs := by
      rw [Dk.step]; split <;> rfl
    generalize hst : d.step = st at hg hq hsl hss ⊢
    obtain ⟨x, ok⟩ := st
    dsimp only at hg hq hsl hss ⊢
    have HSS := Lib.hid hss
    clear hss
    obtain ⟨hg1, hg2⟩ := hg
    have HG2 := Lib.hid hg2
    have HG1 := Lib.hid hg1
    have HSL := Lib.hid hsl
    clear hg2 hst hsl
    obtain ⟨B, m, e, B', m', e', rfl, hm, hm', r1, r2, r3⟩ := hg1
    have HM := Lib.hid hm
    have HM' := Lib.hid hm'
    have R3 := Lib.hid r3
    have RA := Lib.hid r1
    have RB := Lib.hid r2
    clear hm hm' r1 r2 r3
    have HB4 := Lib.hid (below_chain HB3.out hb4)
    have HB04 := Lib.hid (below_chain HB.out HB4.out)
    have HB34 := Lib.hid hb4
    have hcl3 := HG2.out w.heap.size (by have := HB3.out.size; have := HV.out.lt; omega) (HC.out _ (by omega))
    have hcl6 := HG2.out (w.heap.size + 2) (by have := HB3.out.size; have := HV3.out.lt; omega) (HC.out _ (by omega))
    have C3 := Lib.hid hcl3
    have C6 := Lib.hid hcl6
    clear hb4 hcl3 hcl6 z0 z1 z2 z3 z4 y0 y1 y2 y3 y4 u0 u1 u2 u3
    generalize hgf : x.fuse = g at *
    generalize hdm : x.down = dm at *
    have HGF := Lib.hid hgf
    have HDM := Lib.hid hdm
    clear hgf hdm
    obtain ⟨z0, z1, z2, z3, z4⟩ := HV.out.below HB4.out HV.out.lt
    obtain ⟨k0, k1, k2, k3⟩ := HFR.out.below HB4.out HV.out.lt
    obtain ⟨y0, y1, y2, y3, y4⟩ := HV3.out.below HB4.out HV3.out.lt
    obtain ⟨u0, u1, u2, u3⟩ := HF3.out.below HB4.out HV3.out.lt
    have HVA := Lib.hid (Var.set ⟨z0, z1, z2, z3, z4⟩ B B' m e m' e' g dm)
    have HDA := Lib.hid (set_disk HG1.out C3.out)
    have HBA := Lib.hid (below_set4 HB04.out (Nat.le_refl _) B B' m e m' e' g dm)
    have HVX := Lib.hid (show Var (set4 w4 w.heap.size B B' m e m' e' g dm) (w.heap.size + 2) none none 0 0 0 0 0 false from
      ⟨by simp only [size_set]; exact y0, by go_simp, by go_simp, by go_simp, by go_simp⟩)
    cases ok with
    | false =>
      have HQ := Lib.hid hq
      clear hq
      go_wp2
      refine bodyPost_ret (ret_cell_tmp rfl rfl (load_var (HVX.out.set B B' m e m' e' g dm))) rfl ?_
      refine ⟨⟨_, by rw [HQ.out]; rfl, ?_⟩, below_set4 HBA.out (by omega) _ _ _ _ _ _ _ _⟩
      rw [HQ.out]
      exact ⟨set_disk HDA.out C6.out, fun b hb h => HG2.out b (by have := HB3.out.size; have := HV.out.lt; omega) h⟩
    | true =>
      have HQ := Lib.hid hq
      clear hq
      go_wp2_with fail
      have HX0 := Lib.hid (show ∃ wa, wa = set4 w4 w.heap.size B B' m e m' e' g dm from ⟨_, rfl⟩)
      obtain ⟨wa, hwa⟩ := HX0.out
      have HVA := Lib.hid (show Var wa w.heap.size B B' m e m' e' g dm by rw [hwa]; exact HVA.out)
      have HDA := Lib.hid (show DiskAt wa (.agg #[.slice B m e, .slice B' m' e', .int .i64 g, .bool dm]) x by rw [hwa]; exact HDA.out)
      have HBA := Lib.hid (show Below w.heap.size w wa by rw [hwa]; exact HBA.out)
      have HVX := Lib.hid (show Var wa (w.heap.size + 2) none none 0 0 0 0 0 false by rw [hwa]; exact HVX.out)
      have HFA := Lib.hid (show Free wa w.heap.size by rw [hwa]; exact ⟨by go_simp, by go_simp, by go_simp, by go_simp⟩)
      have HFX := Lib.hid (show Free wa (w.heap.size + 2) by rw [hwa]; exact ⟨by go_simp, by go_simp, by go_simp, by go_simp⟩)
      have HRA := Lib.hid (show wa.rangeAt (w.heap.size + 1) 0 (secC s) by
        have h := range_below HSR.out HB4.out (by have := HV3.out.lt; omega)
        rw [hwa]
        intro j v hv
        rw [World.cell?_setCell_other _ _ _ _ (by intro q; injection q with q1; omega), World.cell?_setCell_other _ _ _ _ (by intro q; injection q with q1; omega), World.cell?_setCell_other _ _ _ _ (by intro q; injection q with q1; omega), World.cell?_setCell_other _ _ _ _ (by intro q; injection q with q1; omega)]
        exact h j v hv)
      dsimp only [set4] at hwa
      rw [← hwa]
      clear hwa HX0 z0 z1 z2 z3 z4 y0 y1 y2 y3 y4 u0 u1 u2 u3 k0 k1 k2 k3
      have HDB := Lib.hid (show RowOf wa 128 B m e (secsC d.secs) ∧ RowOf wa 129 B' m' e' (wrsC d.loose) from by
        obtain ⟨_, _, _, _, _, _, q, _, _, r1, r2, _⟩ := HDA.out
        injection q with q
        injection q with q
        injection q with q1 q
        injection q with q2 q
        injection q1 with q11 q12 q13
        injection q2 with q21 q22 q23
        subst q11; subst q12; subst q13; subst q21; subst q22; subst q23
        rw [← HSL.out]
        exact ⟨by rw [← HSS.out]; exact r1, r2⟩)
      have HML := Lib.hid (show m' ≤ 4096 by have := HRB.out; have := HM'.out; rw [HSL.out] at this; omega)
      have q26 : w.heap.size + 2 < wa.heap.size := HVX.out.lt
      have X1 := Lib.hid (wrsC_one [⟨i, s⟩])
      have HFIN2 := Lib.hid (show ∀ (w5 : World) (A5 : Option Addr) (c5 : Nat), Below wa.heap.size wa w5 → RowOf w5 129 A5 (m' + 1) c5 (wrsC d.loose ++ wrsC [⟨i, s⟩]) → (∀ y, A5 = some y → wa.heap.size ≤ y.block) →
          Var (set4 (w5.setCell ⟨w.heap.size, 1, none⟩ (.slice A5 (m' + 1) c5)) (w.heap.size + 2) B A5 m e (m' + 1) c5 g dm) (w.heap.size + 2) B A5 m e (m' + 1) c5 g dm ∧
          WritePost (.agg #[.slice A n c, .slice A' n' c', .int .i64 f, .bool false]) d i s w (.returned (.tuple #[.agg #[.slice B m e, .slice A5 (m' + 1) c5, .int .i64 g, .bool dm], .int .i64 0])) (set4 (w5.setCell ⟨w.heap.size, 1, none⟩ (.slice A5 (m' + 1) c5)) (w.heap.size + 2) B A5 m e (m' + 1) c5 g dm) from by
        intro w5 A5 c5 hb5 hrow hnew
        obtain ⟨t0, t1, t2, t3, t4⟩ := HVX.out.below hb5 q26
        refine ⟨Var.set (A := none) (A' := none) (n := 0) (c := 0) (n' := 0) (c' := 0) (f := 0) (dn := false) ⟨by rw [size_set]; exact t0, ?_, ?_, ?_, ?_⟩ _ _ _ _ _ _ _ _, ?_⟩
        · rw [World.cell?_setCell_other _ _ _ _ (by intro q; injection q with q1; omega)]; exact t1
        · rw [World.cell?_setCell_other _ _ _ _ (by intro q; injection q with q1; omega)]; exact t2
        · rw [World.cell?_setCell_other _ _ _ _ (by intro q; injection q with q1; omega)]; exact t3
        · rw [World.cell?_setCell_other _ _ _ _ (by intro q; injection q with q1; omega)]; exact t4
        · have hbel : Below w.heap.size w (w5.setCell ⟨w.heap.size, 1, none⟩ (.slice A5 (m' + 1) c5)) := (HBA.out.trans (hb5.mono (by have := HBA.out.size; omega))).setCell (p := ⟨w.heap.size, 1, none⟩) (Nat.le_refl _) _
          refine ⟨⟨_, by rw [HQ.out], ?_⟩, below_set4 hbel (by omega) _ _ _ _ _ _ _ _⟩
          rw [HQ.out]
          obtain ⟨hcl6, _⟩ := C6.out _ _ _ _ _ _ _ _ rfl
          obtain ⟨hcl3, _⟩ := C3.out _ _ _ _ _ _ _ _ rfl
          refine ⟨disk_of HM.out (by rw [HM'.out, HSL.out]; simp) ?_ ?_ HGF.out.symm HDM.out.symm (by show _ ≤ x.fuse; rw [HGF.out]; exact R3.out.1) (by show x.fuse < _; rw [HGF.out]; exact R3.out.2), ?_⟩
          · show RowOf _ 128 B m e (secsC x.secs)
            rw [HSS.out]
            exact ((HDB.out.1.kept hb5 (Nat.le_refl _)).setCell _ _ (fun y hy h0 => hcl3 y hy h0)).set4 hcl6 _ _ _ _ _ _ _ _
          · have : wrsC (x.loose ++ [⟨i, s⟩]) = wrsC d.loose ++ wrsC [⟨i, s⟩] := by rw [HSL.out, wrsC_append]
            show RowOf _ 129 A5 (m' + 1) c5 (wrsC (x.loose ++ [⟨i, s⟩]))
            rw [this]
            exact (hrow.setCell _ _ (fun y hy h0 => by have := hnew y hy; dsimp only; omega)).set4 (fun y hy h0 => by have := hnew y hy; omega) _ _ _ _ _ _ _ _
          · intro b hb hc
            obtain ⟨k1, _⟩ := HG2.out b (by have := HB3.out.size; have := HV.out.lt; omega) hc _ _ _ _ _ _ _ _ rfl
            exact clear_mk k1 (fun y hy h0 => by have := hnew y hy; omega))
      obtain ⟨y0, y1, y2, y3, y4⟩ := HVA.out
      have hl0 := HRA.out
      have hl1 : ∀ W o, World.rangeAt W (w.heap.size + 1) 0 (secC s) → World.rangeAt (W.alloc o) (w.heap.size + 1) 0 (secC s) := fun W o h => World.rangeAt_alloc h o
      have hl2 : ∀ W, World.rangeAt W (w.heap.size + 1) 0 (secC s) → (secVar ⟨w.heap.size + 1, 0, none⟩).run Tryd.prog W = .ok (secV s) W := fun W h => load_secVar h
      have hsz : ∀ o, wa.heap.size ≤ (wa.alloc o).heap.size := fun o => by simp
      have HCL := Lib.hid (show m' ≤ e' ∧ e' ≤ 9223372036854775807 from ⟨HDB.out.2.2.1, HDB.out.2.2.2.1⟩)
      go_region_law (first
        | (refine step_append_full rfl (.tmp 42) (.tmp 46) 23 83 rfl Tryd.underlying23 (wrV zeroWr) 129 136 infoWrite rfl (by decide) B' m' e' _ rfl (HDB.out.2.alloc _).drew wa.heap.size 1 1 _ rfl (row_one wa ⟨i, s⟩).drew X1.out (by decide) (by have := HML.out; omega) (by decide) ?_
           intro v' w5 k1 k2
           have HBX := Lib.hid (show Below wa.heap.size wa w5 from (((Below.refl wa.heap.size wa).alloc (Nat.le_refl _) _).drew).grown k2 (hsz _) (fun k hk => by cases hk))
           obtain ⟨A5, c5, rfl, r1, r2⟩ := row_of_own k1
           have ROW := Lib.hid r1
           have NEW := Lib.hid (show ∀ y, A5 = some y → wa.heap.size ≤ y.block from fun y hy => Nat.le_trans (hsz _) (r2 y hy))
           obtain ⟨t0, t1, t2, t3, t4⟩ := HVA.out.below HBX.out HVA.out.lt
           obtain ⟨v0, v1, v2, v3⟩ := HFA.out.below HBX.out HVA.out.lt
           clear k1 k2 r1 r2)
        | (go_simp
           refine (clip_f _ B' m' e' HCL.out.1 HCL.out.2).mono ?_
           rintro e0 w9 ⟨rfl, rfl⟩))
      all_goals (
        obtain ⟨p0, p1, p2, p3, p4⟩ := HVX.out.below HBX.out q26
        obtain ⟨g0, g1, g2, g3⟩ := HFX.out.below HBX.out q26
        have HFF := Lib.hid (HFIN2.out _ A5 c5 HBX.out ROW.out NEW.out)
        go_wp2
        refine bodyPost_ret (ret_cell_tmp rfl rfl (load_var HFF.out.1)) rfl ?_
        exact HFF.out.2)
end Go.Proofs.YtbhjigejpdbeiaaDoor
