/-
  The reference's Write.
-/
import Derived.Test.YtbhjigejpdbeiaaDoorZKCp
import Derived.Test.YtbhjigejpdbeiaaDoorZMk
import Derived.Deep.RegionLaw
import Derived.Deep.RegionHeld3
set_option linter.unusedSimpArgs false
set_option linter.unusedVariables false
namespace Go.Proofs.YtbhjigejpdbeiaaDoor
open Go.RowKit
set_option linter.unusedVariables false

theorem step_append_row {w : World} {ops : Array Oper} {o : Oper} {a : Act} {K : Act → World → Prop} {Q : Exit → Act → World → Prop} {Z : Prop} (hgd : o.guard = none) (s x : Operand) (T E : TypeId)
    (ho : o.op = .call { callee := .builtin .append, args := #[s, x], argTypes := #[T, T] }) (ht : Tryd.prog.underlying T = some (.slice E))
    (base : Nat) (z : Value) (size bytes : Nat) (hinf : (Tryd.prog.info? E).map (fun i => (i.zero, i.size, i.bytes)) = some (some z, size, bytes)) (hzs : z.cells.size = size) (hsz : 0 < size)
    (v : Value) (n : Nat) (xs : List Value) (hs : a.eval s = v) (hown : w.ownsRow base E size v n xs)
    (A : Option Addr) (m c : Nat) (X : List Value) (hx : a.eval x = .slice A m c) (hr : RowOf w size A m c X) (h1 : ∀ u ∈ X, u.oneCell' = true)
    (h63 : n + m ≤ 1000000) (hbytes : bytes ≤ 100000) (hbase : base ≤ w.heap.size)
    (h : ∀ v' w', w'.ownsRow base E size v' (n + m) (xs ++ X) → w.grownBy w' v.ownBlock → K (a.put o.dst v') w') :
    if Region.wanted o (yielded ops a.tmps) = true then Oper.wp Tryd.prog o a w K Q else Z := by
  have hw : Region.wanted o (yielded ops a.tmps) = true := by simp [Region.wanted, hgd]
  rw [if_pos hw]
  obtain ⟨i, hi, hz, hsize, hby⟩ := info_parts hinf
  obtain ⟨h2, h3, h4, h5, h6⟩ := hr
  cases A with
  | none =>
    have hc0 : c = 0 := h5 rfl
    subst hc0
    have hm0 : m = 0 := by omega
    subst hm0
    have hX : X = [] := List.eq_nil_of_length_eq_zero (by simpa using h2)
    subst hX
    have hrun := run_append_owned_none (P := Tryd.prog) (w := w) base T o.type E i size ht hi v n xs hown
    have hk := h v w (by simpa using hown) (World.grownBy.refl w _)
    unfold Oper.wp
    simp [execOp, ho, resolve, invoke, builtin, hs, hx, hrun, Result.andThen]
    exact hk
  | some ad =>
    refine wp_append_own w s x T ho base E i z size bytes ht hi hz hsize hby hzs hsz v n xs hs hown ad m c X hx h2 ?_ h1 (by unfold maxLen; omega) (Nat.le_trans (Nat.mul_le_mul h63 hbytes) (by omega)) hbase (fun v' w' k1 k2 _ => h v' w' k1 k2)
    intro j u hj
    have hj' := (List.getElem?_eq_some_iff.1 hj).1
    have hm0 : 0 < m := by
      rcases Nat.eq_zero_or_pos m with h | h
      · subst h; simp at h2; subst h2; simp at hj'
      · exact h
    obtain ⟨k1, k2, k3⟩ := h6 ad rfl hm0
    obtain ⟨b, of, sp⟩ := ad
    obtain rfl : sp = none := k1
    rw [add_none]
    exact k3 j u hj

/-- A new block of one write, as a row. -/
theorem row_one (w : World) (x : Wr) : RowOf (w.alloc (wrO x)) 129 (some ⟨w.heap.size, 0, none⟩) 1 1 (wrsC [x]) := by
  have e : wrsC [x] = wrC x := by simp [wrsC]
  refine ⟨by rw [e, wrC_length], Nat.le_refl _, by omega, (fun h => by cases h), fun y hy _ => ?_⟩
  injection hy with hy; subst hy
  exact ⟨rfl, by simp, by rw [e]; exact range_new w (wrC x) 83⟩

theorem own_drew {w : World} {base size n : Nat} {E : TypeId} {v : Value} {xs : List Value} (h : w.ownsRow base E size v n xs) : w.drew.ownsRow base E size v n xs := h
theorem RowOf.drew {w : World} {sz n c : Nat} {A : Option Addr} {X : List Value} (h : RowOf w sz A n c X) : RowOf w.drew sz A n c X := h.keep (Nat.le_refl _) (fun _ _ _ _ => rfl)
theorem below_owned {a w w' : World} {B base size n : Nat} {E : TypeId} {v : Value} {xs : List Value} (h : Below B a w) (hown : w.ownsRow base E size v n xs) (hg : w.grownBy w' v.ownBlock) (hb : B ≤ base) (hB : B ≤ w.heap.size) : Below B a w' :=
  h.grown hg hB (fun k hk => Nat.le_trans hb (hown.lt k hk).1)
theorem own_empty1 (w : World) (o : Obj) (E : TypeId) (size : Nat) : ((w.alloc o).alloc (.cells #[] E)).ownsRow w.heap.size E size (.slice (some ⟨w.heap.size + 1, 0, none⟩) 0 0) 0 [] := by
  have h := own_empty (w.alloc o) w.heap.size (by simp) E size
  rwa [size_alloc] at h
theorem row_one1 (w : World) (o : Obj) (x : Wr) : RowOf ((w.alloc o).alloc (wrO x)) 129 (some ⟨w.heap.size + 1, 0, none⟩) 1 1 (wrsC [x]) := by
  have h := row_one (w.alloc o) x
  rwa [size_alloc] at h

def WritePost (v : Value) (d : Dk) (i : Int) (s : Sec) (w : World) (e : Ending) (w' : World) : Prop := DiskOut2 v (d.write i s).1 (.int .i64 (d.write i s).2) w e w'

set_option maxHeartbeats 4000000 in
theorem rwrite_f (w : World) (v : Value) (d : Dk) (i : Int) (s : Sec) (h : DiskAt w v d) :
    Calls Tryd.prog 57 #[v, .int .i64 i, secV s] w fun e w' => WritePost v d i s w e w' := by
  obtain ⟨A, n, c, A', n', c', rfl, hn, hn', h1, h2, h3⟩ := h
  have H1 := Lib.hid h1
  have H2 := Lib.hid h2
  have HN := Lib.hid hn
  have HN' := Lib.hid hn'
  have HF := Lib.hid h3
  clear h1 h2 hn hn' h3
  generalize hf : d.fuse = f
  generalize hdn : d.down = dn
  have HFU := Lib.hid hf
  have HDN := Lib.hid hdn
  clear hf hdn
  obtain ⟨o1, ho1⟩ : ∃ o, o = Obj.cells #[.slice A n c, .slice A' n' c', .int .i64 f, .bool dn] 25 := ⟨_, rfl⟩
  obtain ⟨o3, ho3⟩ : ∃ o, o = Obj.cells #[.slice none 0 0, .slice none 0 0, .int .i64 0, .bool false] 25 := ⟨_, rfl⟩
  obtain ⟨w1, hw1⟩ : ∃ w1, w1 = ((w.alloc o1).alloc (secO s)).alloc o3 := ⟨_, rfl⟩
  have ha1 : Below (w.alloc o1).heap.size (w.alloc o1) w1 := by rw [hw1]; exact below_two _ _ _
  have ha2 : Below ((w.alloc o1).alloc (secO s)).heap.size ((w.alloc o1).alloc (secO s)) w1 := by rw [hw1]; exact (Below.refl _ _).alloc (Nat.le_refl _) _
  have HV := Lib.hid (show Var w1 w.heap.size A A' n c n' c' f dn from (show Var (w.alloc o1) w.heap.size A A' n c n' c' f dn by rw [ho1]; exact var_new w A A' n c n' c' f dn).below ha1 (by simp))
  have HFR := Lib.hid (show Free w1 w.heap.size from (show Free (w.alloc o1) w.heap.size by rw [ho1]; exact free_new w _ _).below ha1 (by simp))
  have HSR := Lib.hid (show w1.rangeAt (w.heap.size + 1) 0 (secC s) from range_below (show ((w.alloc o1).alloc (secO s)).rangeAt (w.heap.size + 1) 0 (secC s) by have := range_new (w.alloc o1) (secC s) 81; rwa [size_alloc] at this) ha2 (by simp))
  have HV3 := Lib.hid (show Var w1 (w.heap.size + 2) none none 0 0 0 0 0 false by
    rw [hw1, ho3]; have := var_new2 (w.alloc o1) (secO s) none none 0 0 0 0 0 false; rwa [size_alloc] at this)
  have HF3 := Lib.hid (show Free w1 (w.heap.size + 2) by
    rw [hw1, ho3]; have := free_new2 (w.alloc o1) (secO s) #[.slice none 0 0, .slice none 0 0, .int .i64 0, .bool false] 25; rwa [size_alloc] at this)
  have HB := Lib.hid (show Below w.heap.size w w1 from ((Below.refl w.heap.size w).alloc (Nat.le_refl _) o1).trans (ha1.mono (by simp)))
  have HS := Lib.hid (show w1.heap.size = w.heap.size + 3 by rw [hw1]; simp)
  have HW := Lib.hid (show w1 = ((w.alloc (Obj.cells #[.slice A n c, .slice A' n' c', .int .i64 f, .bool dn] 25)).alloc (secO s)).alloc (Obj.cells #[.slice none 0 0, .slice none 0 0, .int .i64 0, .bool false] 25) by rw [hw1, ho1, ho3])
  clear hw1 ha1 ha2 ho1 ho3
  have HD := Lib.hid (show ∀ w2, Below w1.heap.size w1 w2 → DiskAt w2 (.agg #[.slice A n c, .slice A' n' c', .int .i64 f, .bool dn]) d from fun w2 hb2 =>
    disk_of HN.out HN'.out ((H1.out.kept HB.out (Nat.le_refl _)).kept hb2 (Nat.le_refl _)) ((H2.out.kept HB.out (Nat.le_refl _)).kept hb2 (Nat.le_refl _)) HFU.out.symm HDN.out.symm HF.out.1 HF.out.2)
  have HD0 := Lib.hid (show DiskAt w (.agg #[.slice A n c, .slice A' n' c', .int .i64 f, .bool dn]) d from disk_of HN.out HN'.out H1.out H2.out HFU.out.symm HDN.out.symm HF.out.1 HF.out.2)
  go_enter Tryd.func57, Tryd.ntmps57
  go_wp2_with fail
  rw [← HW.out]
  clear HW
  refine (rright_f w1 _ d (HD.out w1 (Below.refl _ _))).mono ?_
  rintro e w2 ⟨rfl, hb2⟩
  have HB2 := Lib.hid hb2
  have HB02 := Lib.hid (below_chain HB.out hb2)
  clear hb2
  obtain ⟨z0, z1, z2, z3, z4⟩ := HV.out.below HB2.out HV.out.lt
  obtain ⟨y0, y1, y2, y3, y4⟩ := HV3.out.below HB2.out HV3.out.lt
  obtain ⟨u0, u1, u2, u3⟩ := HF3.out.below HB2.out HV3.out.lt
  have HX := Lib.hid (show d.within i = true ↔ 0 ≤ i ∧ i < n by rw [Dk.within, Dk.inside, HN.out]; simp)
  have HC := Lib.hid (show ∀ b, w.heap.size ≤ b → Clear b (.agg #[.slice A n c, .slice A' n' c', .int .i64 f, .bool dn]) from fun b hb => (HD0.out).clear hb)
  have HFIN := Lib.hid (show ∀ (r : Value) (q : d.write i s = (d, 1) ∨ d.write i s = (d, 10)), r = .int .i64 (d.write i s).2 → WritePost (.agg #[.slice A n c, .slice A' n' c', .int .i64 f, .bool dn]) d i s w (.returned (.tuple #[.agg #[.slice A n c, .slice A' n' c', .int .i64 f, .bool dn], r])) (set4 w2 (w.heap.size + 2) A A' n c n' c' f dn) from by
    intro r q hr
    refine ⟨⟨_, by rw [hr], ?_⟩, below_set4 HB02.out (by omega) _ _ _ _ _ _ _ _⟩
    have e : (d.write i s).1 = d := by rcases q with q | q <;> rw [q]
    rw [e]
    exact ⟨set_disk (HD.out w2 HB2.out) (HC.out _ (by omega)), fun b _ h => h⟩)
  cases hr : d.right with
  | false =>
    have HR := Lib.hid hr
    clear hr
    go_wp2
    refine bodyPost_ret (ret_cell_tmp rfl rfl (load_var (Var.set ⟨y0, y1, y2, y3, y4⟩ A A' n c n' c' f dn))) rfl ?_
    have q : d.write i s = (d, 1) := by rw [Dk.write, HR.out]; rfl
    exact HFIN.out _ (.inl q) (by rw [q]; rfl)
  | true =>
    have HR := Lib.hid hr
    clear hr
    by_cases q0 : i < 0
    · go_wp2
      refine bodyPost_ret (ret_cell_tmp rfl rfl (load_var (Var.set ⟨y0, y1, y2, y3, y4⟩ A A' n c n' c' f dn))) rfl ?_
      have q : d.write i s = (d, 1) := by rw [Dk.write, HR.out, show d.within i = false by rw [Bool.eq_false_iff]; intro h; have := HX.out.1 h; omega]; rfl
      exact HFIN.out _ (.inl q) (by rw [q]; rfl)
    by_cases q1 : (n : Int) ≤ i
    · go_wp2
      refine bodyPost_ret (ret_cell_tmp rfl rfl (load_var (Var.set ⟨y0, y1, y2, y3, y4⟩ A A' n c n' c' f dn))) rfl ?_
      have q : d.write i s = (d, 1) := by rw [Dk.write, HR.out, show d.within i = false by rw [Bool.eq_false_iff]; intro h; have := HX.out.1 h; omega]; rfl
      exact HFIN.out _ (.inl q) (by rw [q]; rfl)
    have HWI := Lib.hid (show d.within i = true from HX.out.2 (by omega))
    have HRB := Lib.hid (right_bounds HR.out)
    cases dn with
    | true =>
      go_wp2_with fail
      refine (step_f w2 _ d (HD.out w2 HB2.out)).mono ?_
      rintro e w3 ⟨⟨u, rfl, hg⟩, hb3⟩
      have hs : d.step = ({ d with down := true }, false) := by rw [Dk.step, HDN.out]; rfl
      rw [hs] at hg ⊢
      dsimp only at hg ⊢
      obtain ⟨hg1, hg2⟩ := hg
      have HG2 := Lib.hid hg2
      have HG1 := Lib.hid hg1
      clear hg2
      obtain ⟨B, m, e, B', m', e', rfl, hm, hm', r1, r2, r3⟩ := hg1
      clear hm hm' r1 r2 r3
      have HB3 := Lib.hid (below_chain HB02.out hb3)
      clear z0 z1 z2 z3 z4 y0 y1 y2 y3 y4 u0 u1 u2 u3
      obtain ⟨y0, y1, y2, y3, y4⟩ := (HV3.out.below HB2.out HV3.out.lt).below hb3 (by have := HB2.out.size; have := HV3.out.lt; omega)
      obtain ⟨u0, u1, u2, u3⟩ := (HF3.out.below HB2.out HV3.out.lt).below hb3 (by have := HB2.out.size; have := HV3.out.lt; omega)
      clear hb3
      have HS := Lib.hid hs
      clear hs
      generalize d.fuse = g at *
      go_wp2
      refine bodyPost_ret (ret_cell_tmp rfl rfl (load_var ((Var.set ⟨y0, y1, y2, y3, y4⟩ B B' m e m' e' g true).below ((Below.refl _ _).alloc (Nat.le_refl _) _) (by simp only [size_set]; exact y0)))) rfl ?_
      have q : d.write i s = ({ d with fuse := g, down := true }, 9) := by rw [Dk.write, HR.out, HWI.out, HDN.out, HS.out]; rfl
      refine ⟨⟨_, by rw [q]; rfl, ?_⟩, (below_set4 HB3.out (by omega) _ _ _ _ _ _ _ _).alloc (by simp only [size_set]; have := HB3.out.size; omega) _⟩
      rw [q]
      have hc := HG2.out (w.heap.size + 2) (by have := HB2.out.size; have := HV3.out.lt; omega) (HC.out _ (by omega))
      exact ⟨(set_disk HG1.out hc).kept ((Below.refl _ _).alloc (Nat.le_refl _) _) (Nat.le_refl _), fun b hb h => HG2.out b (by have := HB02.out.size; omega) h⟩
    | false =>
      by_cases q4 : n' = 4096
      · have Q4 := Lib.hid q4
        have q5 : ((n' : Int) == 4096) = true := by simp [q4]
        clear q4
        go_wp2
        refine bodyPost_ret (ret_cell_tmp rfl rfl (load_var (Var.set ⟨y0, y1, y2, y3, y4⟩ A A' n c n' c' f false))) rfl ?_
        have q : d.write i s = (d, 10) := by rw [Dk.write, HR.out, HWI.out, HDN.out, ← HN'.out, Q4.out]; rfl
        exact HFIN.out _ (.inr q) (by rw [q]; rfl)
      have Q4 := Lib.hid q4
      have q5 : ((n' : Int) == 4096) = false := by simp; omega
      clear q4
      go_wp2_with fail
      refine (step_f w2 _ d (HD.out w2 HB2.out)).mono ?_
      rintro e w3 ⟨⟨u, rfl, hg⟩, hb3⟩
      have hq : d.write i s = match d.step with | (x, false) => (x, 9) | (x, true) => ({ x with loose := x.loose ++ [⟨i, s⟩] }, 0) := by
        rw [Dk.write, HR.out, HWI.out, HDN.out, ← HN'.out, decide_eq_false Q4.out]; rfl
      have hsl : d.step.1.loose = d.loose := by
        rw [Dk.step]; split <;> rfl
      generalize hst : d.step = st at hg hq hsl ⊢
      obtain ⟨x, ok⟩ := st
      dsimp only at hg hq hsl ⊢
      obtain ⟨hg1, hg2⟩ := hg
      have HG2 := Lib.hid hg2
      have HG1 := Lib.hid hg1
      have HSL := Lib.hid hsl
      clear hg2 hst hsl
      obtain ⟨B, m, e, B', m', e', rfl, hm, hm', r1, r2, r3⟩ := hg1
      have HM := Lib.hid hm
      have HM' := Lib.hid hm'
      have R1 := Lib.hid r1
      have R2 := Lib.hid r2
      have R3 := Lib.hid r3
      clear hm hm' r1 r2 r3
      have HB3 := Lib.hid (below_chain HB02.out hb3)
      have HB23 := Lib.hid (show Below w1.heap.size w1 w3 from below_chain HB2.out hb3)
      clear z0 z1 z2 z3 z4 y0 y1 y2 y3 y4 u0 u1 u2 u3
      obtain ⟨y0, y1, y2, y3, y4⟩ := HV3.out.below HB23.out HV3.out.lt
      obtain ⟨u0, u1, u2, u3⟩ := HF3.out.below HB23.out HV3.out.lt
      clear hb3
      generalize hg : x.fuse = g at *
      generalize hdm : x.down = dm at *
      have HGF := Lib.hid hg
      have HDM := Lib.hid hdm
      clear hg hdm
      cases ok with
      | false =>
        have HQ := Lib.hid hq
        clear hq
        go_wp2
        refine bodyPost_ret (ret_cell_tmp rfl rfl (load_var ((Var.set ⟨y0, y1, y2, y3, y4⟩ B B' m e m' e' g dm).below ((Below.refl _ _).alloc (Nat.le_refl _) _) (by simp only [size_set]; exact y0)))) rfl ?_
        refine ⟨⟨_, by rw [HQ.out]; rfl, ?_⟩, (below_set4 HB3.out (by omega) _ _ _ _ _ _ _ _).alloc (by simp only [size_set]; have := HB3.out.size; omega) _⟩
        rw [HQ.out]
        have hc := HG2.out (w.heap.size + 2) (by have := HB2.out.size; have := HV3.out.lt; omega) (HC.out _ (by omega))
        exact ⟨(set_disk HG1.out hc).kept ((Below.refl _ _).alloc (Nat.le_refl _) _) (Nat.le_refl _), fun b hb h => HG2.out b (by have := HB02.out.size; omega) h⟩
      | true =>
        have HQ := Lib.hid hq
        clear hq
        go_wp2_with fail
        have HX0 := Lib.hid (show ∃ wa, wa = w3.alloc (Obj.cells #[.slice B m e, .slice B' m' e', .int .i64 g, .bool dm] 25) from ⟨_, rfl⟩)
        obtain ⟨wa, hwa⟩ := HX0.out
        rw [← hwa]
        have HVA := Lib.hid (show Var wa w3.heap.size B B' m e m' e' g dm by rw [hwa]; exact var_new w3 B B' m e m' e' g dm)
        have HFA := Lib.hid (show Free wa w3.heap.size by rw [hwa]; exact free_new w3 _ _)
        have HB3A := Lib.hid (show Below w3.heap.size w3 wa by rw [hwa]; exact (Below.refl _ _).alloc (Nat.le_refl _) _)
        have HSA := Lib.hid (show wa.heap.size = w3.heap.size + 1 by rw [hwa]; simp)
        have HRA := Lib.hid (range_below (range_below HSR.out HB23.out (by have := HV3.out.lt; omega)) HB3A.out (by have := HV3.out.lt; have := HB23.out.size; omega))
        clear hwa HX0
        obtain ⟨b8, hb8⟩ : ∃ b8, b8 = w3.heap.size := ⟨_, rfl⟩
        rw [← hb8] at HVA HFA HSA ⊢
        have HB8 := Lib.hid hb8
        clear hb8
        have HR2A := Lib.hid (show RowOf wa 129 B' m' e' (wrsC d.loose) by have := R2.out; rw [HSL.out] at this; exact this.kept HB3A.out (Nat.le_refl _))
        have HML := Lib.hid (show m' ≤ 4096 by have := HRB.out; have := HM'.out; rw [HSL.out] at this; omega)
        have hba : b8 < wa.heap.size := HVA.out.lt
        have hba' : b8 ≤ wa.heap.size := Nat.le_of_lt hba
        have X2 := Lib.hid (wrsC_one d.loose)
        have X1 := Lib.hid (wrsC_one [⟨i, s⟩])
        clear y0 y1 y2 y3 y4 u0 u1 u2 u3
        obtain ⟨y0, y1, y2, y3, y4⟩ := HVA.out
        have hsec : w3.rangeAt (w.heap.size + 1) 0 (secC s) → True := fun _ => trivial
        have hl0 := HRA.out
        have hl1 : ∀ W o, World.rangeAt W (w.heap.size + 1) 0 (secC s) → World.rangeAt (W.alloc o) (w.heap.size + 1) 0 (secC s) := fun W o h => World.rangeAt_alloc h o
        have hl2 : ∀ W, World.rangeAt W (w.heap.size + 1) 0 (secC s) → (secVar ⟨w.heap.size + 1, 0, none⟩).run Tryd.prog W = .ok (secV s) W := fun W h => load_secVar h
        clear hsec
        have hsz : ∀ o, wa.heap.size ≤ (wa.alloc o).heap.size := fun o => by simp
        have hsz2 : ∀ o p, wa.heap.size ≤ ((wa.alloc o).alloc p).heap.size := fun o p => by simp; omega
        have HLT := Lib.hid (show w.heap.size + 1 < wa.heap.size by have := HVA.out.lt; have := HV3.out.lt; have := HB23.out.size; have := HB8.out; omega)
        have HCONT := Lib.hid (show ∀ w4, Below wa.heap.size wa w4 → World.rangeAt w4 (w.heap.size + 1) 0 (secC s) from fun w4 h => range_below HRA.out h HLT.out)
        have HV6 := Lib.hid ((HV3.out.below HB23.out HV3.out.lt).below HB3A.out (by have := HV3.out.lt; have := HB23.out.size; omega))
        have HF6 := Lib.hid ((HF3.out.below HB23.out HV3.out.lt).below HB3A.out (by have := HV3.out.lt; have := HB23.out.size; omega))
        have HBF := Lib.hid (below_chain HB3.out HB3A.out)
        have R1A := Lib.hid (R1.out.kept HB3A.out (Nat.le_refl _))
        have R1L := Lib.hid (show ∀ y, B = some y → 0 < m → y.block < b8 from fun y hy h0 => by have := (R1.out.2.2.2.2 y hy h0).2.1; have := HB8.out; omega)
        have HFIN2 := Lib.hid (show ∀ (w5 : World) (A5 : Option Addr) (c5 : Nat), Below wa.heap.size wa w5 → RowOf w5 129 A5 (m' + 1) c5 (wrsC d.loose ++ wrsC [⟨i, s⟩]) → (∀ y, A5 = some y → wa.heap.size ≤ y.block) →
            Var (set4 (w5.setCell ⟨b8, 1, none⟩ (.slice A5 (m' + 1) c5)) (w.heap.size + 2) B A5 m e (m' + 1) c5 g dm) (w.heap.size + 2) B A5 m e (m' + 1) c5 g dm ∧
            WritePost (.agg #[.slice A n c, .slice A' n' c', .int .i64 f, .bool false]) d i s w (.returned (.tuple #[.agg #[.slice B m e, .slice A5 (m' + 1) c5, .int .i64 g, .bool dm], .int .i64 0])) (set4 (w5.setCell ⟨b8, 1, none⟩ (.slice A5 (m' + 1) c5)) (w.heap.size + 2) B A5 m e (m' + 1) c5 g dm) from by
          intro w5 A5 c5 hb5 hrow hnew
          have q26 : w.heap.size + 2 < b8 := by have := HV3.out.lt; have := HB23.out.size; have := HB8.out; omega
          have q6 : w.heap.size + 2 < wa.heap.size := by omega
          obtain ⟨t0, t1, t2, t3, t4⟩ := HV6.out.below hb5 q6
          refine ⟨Var.set (A := none) (A' := none) (n := 0) (c := 0) (n' := 0) (c' := 0) (f := 0) (dn := false) ⟨by rw [size_set]; exact t0, ?_, ?_, ?_, ?_⟩ _ _ _ _ _ _ _ _, ?_⟩
          · rw [World.cell?_setCell_other _ _ _ _ (by intro q; injection q with q1; omega)]; exact t1
          · rw [World.cell?_setCell_other _ _ _ _ (by intro q; injection q with q1; omega)]; exact t2
          · rw [World.cell?_setCell_other _ _ _ _ (by intro q; injection q with q1; omega)]; exact t3
          · rw [World.cell?_setCell_other _ _ _ _ (by intro q; injection q with q1; omega)]; exact t4
          · have hbel : Below w.heap.size w (w5.setCell ⟨b8, 1, none⟩ (.slice A5 (m' + 1) c5)) := (HBF.out.trans (hb5.mono (by have := HBF.out.size; omega))).setCell (p := ⟨b8, 1, none⟩) (by dsimp only; omega) _
            refine ⟨⟨_, by rw [HQ.out], ?_⟩, below_set4 hbel (by omega) _ _ _ _ _ _ _ _⟩
            rw [HQ.out]
            have hcl := HG2.out (w.heap.size + 2) (by have := HB2.out.size; have := HV3.out.lt; omega) (HC.out _ (by omega))
            obtain ⟨hcl1, _⟩ := hcl _ _ _ _ _ _ _ _ rfl
            refine ⟨disk_of HM.out (by rw [HM'.out, HSL.out]; simp) ?_ ?_ HGF.out.symm HDM.out.symm (by show _ ≤ x.fuse; rw [HGF.out]; exact R3.out.1) (by show x.fuse < _; rw [HGF.out]; exact R3.out.2), ?_⟩
            · exact ((R1A.out.kept hb5 (Nat.le_refl _)).setCell _ _ (fun y hy h0 => by have := R1L.out y hy h0; dsimp only; omega)).set4 hcl1 _ _ _ _ _ _ _ _
            · have : wrsC (x.loose ++ [⟨i, s⟩]) = wrsC d.loose ++ wrsC [⟨i, s⟩] := by rw [HSL.out, wrsC_append]
              show RowOf _ 129 A5 (m' + 1) c5 (wrsC (x.loose ++ [⟨i, s⟩]))
              rw [this]
              exact (hrow.setCell _ _ (fun y hy h0 => by have := hnew y hy; dsimp only; omega)).set4 (fun y hy h0 => by have := hnew y hy; omega) _ _ _ _ _ _ _ _
            · intro b hb hc
              obtain ⟨k1, _⟩ := HG2.out b (by have := HB02.out.size; omega) hc _ _ _ _ _ _ _ _ rfl
              exact clear_mk k1 (fun y hy h0 => by have := hnew y hy; omega))
        go_region_law (first
          | (refine step_append_row rfl (.tmp 43) (.tmp 45) 23 83 rfl Tryd.underlying23 wa.heap.size (wrV zeroWr) 129 136 infoWrite rfl (by decide) (.slice (some ⟨wa.heap.size, 0, none⟩) 0 0) 0 [] rfl (own_drew (own_empty wa wa.heap.size (Nat.le_refl _) 83 129)) B' m' e' _ rfl (HR2A.out.alloc _).drew X2.out (by have := HML.out; omega) (by decide) (hsz _) ?_
             intro v' w4 k1 k2
             simp only [Nat.zero_add, List.nil_append] at k1
             have HBW := Lib.hid (below_owned ((Below.refl wa.heap.size wa).alloc (Nat.le_refl _) _).drew (own_drew (own_empty wa wa.heap.size (Nat.le_refl _) 83 129)) k2 (Nat.le_refl _) (hsz _))
             have hl3 := HCONT.out w4 HBW.out
             obtain ⟨A2, c2, rfl, r1, r2⟩ := row_of_own k1
             have ONE := Lib.hid (row_one w4 ⟨i, s⟩)
             have OWN := Lib.hid (k1.alloc (wrO ⟨i, s⟩))
             have HBY := Lib.hid (HBW.out.alloc HBW.out.size (wrO ⟨i, s⟩))
             clear k1 k2 r1 r2)
          | (refine step_append_row rfl (.tmp 43) (.tmp 45) 23 83 rfl Tryd.underlying23 wa.heap.size (wrV zeroWr) 129 136 infoWrite rfl (by decide) (.slice (some ⟨wa.heap.size, 0, none⟩) 0 0) 0 [] rfl (own_drew ((own_empty wa wa.heap.size (Nat.le_refl _) 83 129).alloc _)) B' m' e' _ rfl ((HR2A.out.alloc _).alloc _).drew X2.out (by have := HML.out; omega) (by decide) (hsz2 _ _) ?_
             intro v' w4 k1 k2
             simp only [Nat.zero_add, List.nil_append] at k1
             have HBY := Lib.hid (below_owned (((Below.refl wa.heap.size wa).alloc (Nat.le_refl _) _).alloc (hsz _) _).drew (own_drew ((own_empty wa wa.heap.size (Nat.le_refl _) 83 129).alloc _)) k2 (Nat.le_refl _) (hsz2 _ _))
             have hl3 := HCONT.out w4 HBY.out
             have ONE := Lib.hid ((row_one1 wa (.cells #[] 83) ⟨i, s⟩).drew.grown k2 (fun x hx _ => by injection hx with hx; subst hx; simp [Value.ownBlock]))
             obtain ⟨A2, c2, rfl, r1, r2⟩ := row_of_own k1
             have OWN := Lib.hid k1
             clear k1 k2 r1 r2)
          | (refine step_append_row rfl (.tmp 43) (.tmp 45) 23 83 rfl Tryd.underlying23 wa.heap.size (wrV zeroWr) 129 136 infoWrite rfl (by decide) (.slice (some ⟨wa.heap.size + 1, 0, none⟩) 0 0) 0 [] rfl (own_drew (own_empty1 wa _ 83 129)) B' m' e' _ rfl ((HR2A.out.alloc _).alloc _).drew X2.out (by have := HML.out; omega) (by decide) (hsz2 _ _) ?_
             intro v' w4 k1 k2
             simp only [Nat.zero_add, List.nil_append] at k1
             have HBY := Lib.hid (below_owned (((Below.refl wa.heap.size wa).alloc (Nat.le_refl _) _).alloc (hsz _) _).drew (own_drew (own_empty1 wa _ 83 129)) k2 (Nat.le_refl _) (hsz2 _ _))
             have hl3 := HCONT.out w4 HBY.out
             have ONE := Lib.hid (((row_one wa ⟨i, s⟩).alloc (.cells #[] 83)).drew.grown k2 (fun x hx _ => by injection hx with hx; subst hx; simp [Value.ownBlock]))
             obtain ⟨A2, c2, rfl, r1, r2⟩ := row_of_own k1
             have OWN := Lib.hid k1
             clear k1 k2 r1 r2)
          | (refine step_append_row rfl (.tmp 46) (.tmp 50) 23 83 rfl Tryd.underlying23 wa.heap.size (wrV zeroWr) 129 136 infoWrite rfl (by decide) (.slice A2 m' c2) m' _ rfl OWN.out _ 1 1 _ rfl ONE.out X1.out (by have := HML.out; omega) (by decide) HBY.out.size ?_
             intro v' w5 k1 k2
             have HBX := Lib.hid (below_owned HBY.out OWN.out k2 (Nat.le_refl _) HBY.out.size)
             obtain ⟨A5, c5, rfl, r1, r2⟩ := row_of_own k1
             have ROW := Lib.hid r1
             have NEW := Lib.hid r2
             obtain ⟨t0, t1, t2, t3, t4⟩ := HVA.out.below HBX.out HVA.out.lt
             obtain ⟨v0, v1, v2, v3⟩ := HFA.out.below HBX.out HVA.out.lt
             clear k1 k2 r1 r2))
        all_goals (
          obtain ⟨p0, p1, p2, p3, p4⟩ := HV6.out.below HBX.out (by have := HV3.out.lt; have := HB23.out.size; have := HB8.out; omega)
          obtain ⟨g0, g1, g2, g3⟩ := HF6.out.below HBX.out (by have := HV3.out.lt; have := HB23.out.size; have := HB8.out; omega)
          have HFF := Lib.hid (HFIN2.out _ A5 c5 HBX.out ROW.out NEW.out)
          have ne1 : ¬ b8 = w.heap.size + 1 + 1 := by have := HV3.out.lt; have := HB23.out.size; have := HB8.out; omega
          have ne2 : ¬ w.heap.size + 1 + 1 = b8 := by omega
          go_wp2
          refine bodyPost_ret (ret_cell_tmp rfl rfl (load_var HFF.out.1)) rfl ?_
          exact HFF.out.2)
end Go.Proofs.YtbhjigejpdbeiaaDoor
