/-
  Fall of the program.
-/
import Derived.Test.YtbhjigejpdbeiaaDoorZSr
import Derived.Test.YtbhjigejpdbeiaaDoorZKCp
import Derived.Laws.IdiomCopy
import Derived.StillTailTactics
set_option linter.unusedSimpArgs false
set_option linter.unusedVariables false
namespace Go.Proofs.YtbhjigejpdbeiaaDoor
open Go.RowKit
set_option linter.unusedVariables false
set_option maxRecDepth 8000

/-- Cells written in the midst of a range. -/
theorem range_setCells {w : World} {b o : Nat} {X : List Value} (h : w.rangeAt b o X) (k : Nat) (vs : List Value) (hk : k + vs.length ≤ X.length) :
    (w.setCells b (o + k) vs).rangeAt b o (X.take k ++ vs ++ X.drop (k + vs.length)) := by
  have htl : (X.take k).length = k := by rw [List.length_take]; omega
  intro i v hv
  by_cases c1 : i < k
  · rw [List.append_assoc, List.getElem?_append_left (by omega), List.getElem?_take_of_lt c1] at hv
    rw [World.cell?_setCells_out b _ _ w ⟨b, o + i, none⟩ (fun _ _ => Or.inl (by show o + i < o + k; omega))]
    exact h i v hv
  · by_cases c2 : i < k + vs.length
    · rw [List.append_assoc, List.getElem?_append_right (by omega), htl, List.getElem?_append_left (by omega)] at hv
      have hj : i - k < vs.length := by omega
      have := World.cell?_setCells_in b vs (o + k) w (fun j hj => by
        rw [Nat.add_assoc, h (k + j) _ (List.getElem?_eq_getElem (by omega))]; rfl) (i - k) hj
      rw [show o + k + (i - k) = o + i by omega] at this
      rw [this]
      rw [List.getElem?_eq_getElem hj] at hv
      exact hv
    · rw [List.getElem?_append_right (by rw [List.length_append, htl]; omega), List.length_append, htl, List.getElem?_drop] at hv
      rw [show k + vs.length + (i - (k + vs.length)) = i by omega] at hv
      rw [World.cell?_setCells_out b _ _ w ⟨b, o + i, none⟩ (fun _ _ => Or.inr (by show o + k + vs.length ≤ o + i; omega))]
      exact h i v hv

/-- The beginning of a sector of a row is written. -/
theorem range_part_row {w : World} {b o : Nat} {l : List Sec} (h : w.rangeAt b o (secsC l)) {j : Nat} (hj : j < l.length) (s : Sec) (n : Nat) :
    (w.setCells b (o + j * 128) ((secC s).take n)).rangeAt b o (secsC (l.set j (Dk.torn s l[j] n))) := by
  obtain ⟨P, Q, h1, h2, h3⟩ := flat_split (secs_len l) (j := j) (cs := secC l[j]) (by rw [List.getElem?_map, List.getElem?_eq_getElem hj]; rfl)
  have e : secsC (l.set j (Dk.torn s l[j] n)) = P ++ secC (Dk.torn s l[j] n) ++ Q := by rw [secsC, List.map_set]; exact h3 _
  have e0 : secsC l = P ++ secC l[j] ++ Q := h1
  have hs := secC_length s
  have hl := secC_length l[j]
  have hn : ((secC s).take n).length = min n 128 := by rw [List.length_take, hs]
  have k := range_setCells h (j * 128) ((secC s).take n) (by rw [hn, secsC_length]; omega)
  rw [e, ← mix_torn]
  rw [e0] at k
  have q : (P ++ secC l[j] ++ Q).take (j * 128) ++ (secC s).take n ++ (P ++ secC l[j] ++ Q).drop (j * 128 + ((secC s).take n).length) = P ++ mix s l[j] n ++ Q := by
    rw [← h2, List.append_assoc P, List.take_left, hn, List.drop_append, List.drop_eq_nil_of_le (by omega : P.length ≤ P.length + min n 128), List.nil_append, Nat.add_sub_cancel_left,
      List.drop_append_of_le_length (by rw [hl]; omega), mix]
    rw [List.append_assoc, List.append_assoc, List.append_assoc]
    congr 2
    rcases Nat.le_total n 128 with c | c
    · rw [Nat.min_eq_left c]
    · rw [Nat.min_eq_right c, List.drop_eq_nil_of_le (by rw [hl]; omega), List.drop_eq_nil_of_le (by rw [hl]; omega)]
  rw [q] at k
  exact k

/-! ### Fates -/
def fateC (f : UInt8 × UInt8) : List Value := [.int .u8 f.1.toNat, .int .u8 f.2.toNat]
def fatesC (l : List (UInt8 × UInt8)) : List Value := (l.map fateC).flatten
theorem fates_len (l : List (UInt8 × UInt8)) : ∀ x ∈ l.map fateC, x.length = 2 := by
  intro x hx; obtain ⟨s, _, rfl⟩ := List.mem_map.1 hx; rfl
theorem range_fates {w : World} {b o : Nat} {l : List (UInt8 × UInt8)} (h : w.rangeAt b o (fatesC l)) {j : Nat} {s : UInt8 × UInt8} (hj : l[j]? = some s) : w.rangeAt b (o + j * 2) (fateC s) := by
  obtain ⟨P, Q, h1, h2, _⟩ := flat_split (fates_len l) (j := j) (cs := fateC s) (by rw [List.getElem?_map, hj]; rfl)
  rw [fatesC, h1] at h
  rw [← h2]
  exact range_sub h
def FatesAt (w : World) (v : Value) (l : List (UInt8 × UInt8)) : Prop := ∃ A n c, v = .slice A n c ∧ n = l.length ∧ RowOf w 2 A n c (fatesC l)
theorem FatesAt.kept {w w' : World} {B : Nat} {v : Value} {l : List (UInt8 × UInt8)} (h : FatesAt w v l) (hb : Below B w w') (hB : w.heap.size ≤ B) : FatesAt w' v l := by
  obtain ⟨A, n, c, h1, h2, h3⟩ := h
  exact ⟨A, n, c, h1, h2, h3.kept hb hB⟩

theorem lands_append (fates : List (UInt8 × UInt8)) : ∀ (a b : List Wr) (l : List Sec) (i : Nat), Dk.lands fates l (a ++ b) i = Dk.lands fates (Dk.lands fates l a i) b (i + a.length)
  | [], b, l, i => by simp [Dk.lands]
  | x :: r, b, l, i => by
    rw [List.cons_append, Dk.lands, Dk.lands, lands_append fates r b, List.length_cons]
    congr 1; omega
theorem land_length (fates : List (UInt8 × UInt8)) (l : List Sec) (x : Wr) (i : Nat) : (Dk.land fates l x i).length = l.length := by
  rw [Dk.land]; split
  · rfl
  · rw [List.length_set]
theorem lands_length (fates : List (UInt8 × UInt8)) : ∀ (a : List Wr) (l : List Sec) (i : Nat), (Dk.lands fates l a i).length = l.length
  | [], l, i => rfl
  | x :: r, l, i => by rw [Dk.lands, lands_length fates r, land_length]
theorem lands_take (fates : List (UInt8 × UInt8)) (l : List Wr) (s : List Sec) (k : Nat) (x : Wr) (hx : l[k]? = some x) : Dk.lands fates s (l.take (k + 1)) 0 = Dk.land fates (Dk.lands fates s (l.take k) 0) x k := by
  have hk := (List.getElem?_eq_some_iff.1 hx).1
  rw [List.take_add_one, hx, lands_append, List.length_take, Nat.min_eq_left (by omega), Nat.zero_add]; rfl

theorem wpList_copy_part (w : World) {ops : Array Oper} {rest : List Oper} {o : Oper} {a : Act} {Q : Exit → Act → World → Prop} (hgd : o.guard = none) (d s : Operand) (t t' : TypeId)
    (ho : o.op = .call { callee := .builtin .copy, args := #[d, s], argTypes := #[t, t'] }) (v u : Value) (hd : a.eval d = v) (hs : a.eval s = u) {v' : Value} {w' : World}
    (hr : (Builtin.copy_ #[t, t'] o.type #[v, u]).run Tryd.prog w = .ok v' w') (h : wpList Tryd.prog ops Q rest (a.put o.dst v') w') : wpList Tryd.prog ops Q (o :: rest) a w :=
  wpList_plain hgd fun K hK => by
    have hk := hK _ _ h
    unfold Oper.wp execOp
    simp only [ho, resolve, invoke, builtin, Sem.run_bind, Sem.run_pure, Result.andThen_ok, List.map_toArray, List.map_cons, List.map_nil, hd, hs, hr]
    exact hk
theorem kept_le (f : UInt8 × UInt8) : Dk.kept f ≤ 128 := by unfold Dk.kept; split <;> (try split) <;> omega

def FallPost (v : Value) (d : Dk) (fates : List (UInt8 × UInt8)) (f : Int) (w : World) (e : Ending) (w' : World) : Prop := DiskOut2 v (d.fall fates f).1 (.int .i64 (d.fall fates f).2) w e w'

set_option maxHeartbeats 1000000 in
theorem fall_f (w : World) (v u : Value) (d : Dk) (fates : List (UInt8 × UInt8)) (ff : Int) (f0 : -9223372036854775808 ≤ ff) (f1 : ff < 9223372036854775808) (hfl : fates.length ≤ 1000000) (h : DiskAt w v d) (hfa : FatesAt w u fates) :
    Calls Tryd.prog 31 #[v, u, .int .i64 ff] w fun e w' => FallPost v d fates ff w e w' := by
  have HD0 := Lib.hid h
  obtain ⟨A, n, c, A', n', c', rfl, hn, hn', h1, h2, h3⟩ := h
  obtain ⟨AF, nf, cf, rfl, hnf, hrf⟩ := hfa
  have H1 := Lib.hid h1
  have H2 := Lib.hid h2
  have HN := Lib.hid hn
  have HN' := Lib.hid hn'
  have HF := Lib.hid h3
  have HNF := Lib.hid hnf
  have HRF := Lib.hid hrf
  have hfl : nf ≤ 1000000 := by omega
  clear h1 h2 hn hn' h3 hnf hrf
  generalize hf : d.fuse = f at *
  generalize hdn : d.down = dn at *
  have HFU := Lib.hid hf
  have HDN := Lib.hid hdn
  clear hf hdn
  obtain ⟨w1, hw1⟩ : ∃ w1, w1 = (w.alloc (Obj.cells #[.slice A n c, .slice A' n' c', .int .i64 f, .bool dn] 25)).alloc (Obj.cells #[.slice none 0 0, .slice none 0 0, .int .i64 0, .bool false] 25) := ⟨_, rfl⟩
  have HV := Lib.hid (show Var w1 w.heap.size A A' n c n' c' f dn by rw [hw1]; exact (var_new w A A' n c n' c' f dn).below ((Below.refl _ _).alloc (Nat.le_refl _) _) (by simp))
  have HFR := Lib.hid (show Free w1 w.heap.size by rw [hw1]; exact (free_new w _ _).below ((Below.refl _ _).alloc (Nat.le_refl _) _) (by simp))
  have HV2 := Lib.hid (show Var w1 (w.heap.size + 1) none none 0 0 0 0 0 false by rw [hw1]; exact var_new2 _ _ _ _ _ _ _ _ _ _)
  have HF2 := Lib.hid (show Free w1 (w.heap.size + 1) by rw [hw1]; exact free_new2 _ _ _ _)
  have HB := Lib.hid (show Below w.heap.size w w1 by rw [hw1]; exact below_two _ _ _)
  have HS := Lib.hid (show w1.heap.size = w.heap.size + 2 by rw [hw1]; simp)
  have HW := Lib.hid hw1
  clear hw1
  have HD := Lib.hid (show ∀ w2, Below w1.heap.size w1 w2 → DiskAt w2 (.agg #[.slice A n c, .slice A' n' c', .int .i64 f, .bool dn]) d from fun w2 hb2 => (HD0.out.kept HB.out (Nat.le_refl _)).kept hb2 (Nat.le_refl _))
  have HC := Lib.hid (show ∀ b, w.heap.size ≤ b → Clear b (.agg #[.slice A n c, .slice A' n' c', .int .i64 f, .bool dn]) from fun b hb => (HD0.out).clear hb)
  go_enter Tryd.func31, Tryd.ntmps31
  go_wp2_with fail
  rw [← HW.out]
  clear HW
  refine (right_f w1 _ d (HD.out w1 (Below.refl _ _))).mono ?_
  rintro e w2 ⟨rfl, hb2⟩
  have HB2 := Lib.hid hb2
  clear hb2
  obtain ⟨z0, z1, z2, z3, z4⟩ := HV.out.below HB2.out HV.out.lt
  obtain ⟨y0, y1, y2, y3, y4⟩ := HV2.out.below HB2.out HV2.out.lt
  obtain ⟨u0, u1, u2, u3⟩ := HF2.out.below HB2.out HV2.out.lt
  cases hr : d.right with
  | false =>
    have HR := Lib.hid hr
    clear hr
    go_wp2
    refine bodyPost_ret (ret_cell_tmp rfl rfl (load_var (Var.set ⟨y0, y1, y2, y3, y4⟩ A A' n c n' c' f dn))) rfl ?_
    have q : d.fall fates ff = (d, 1) := by rw [Dk.fall, HR.out]; rfl
    refine ⟨⟨_, by rw [q]; rfl, ?_⟩, below_set4 (below_chain HB.out HB2.out) (by omega) _ _ _ _ _ _ _ _⟩
    rw [q]
    exact ⟨set_disk (HD.out w2 HB2.out) (HC.out _ (by omega)), fun b _ h => h⟩
  | true =>
  have HR := Lib.hid hr
  clear hr
  have HRB := Lib.hid (right_bounds HR.out)
  have hml : n' ≤ 4096 := by have := HRB.out; have := HN'.out; omega
  have hm2 : n ≤ 2048 := by have := HRB.out; have := HN.out; omega
  have hm0 : 0 < n := by have := HRB.out; have := HN.out; omega
  obtain ⟨k0, k1, k2, k3⟩ := HFR.out.below HB2.out HV.out.lt
  have HBA := Lib.hid (below_chain HB.out HB2.out)
  have HSZ := Lib.hid (show w.heap.size + 1 < w2.heap.size from y0)
  go_wp2_with fail
  refine (clone_f w2 A n c (secsC d.secs) (H1.out.kept HBA.out (Nat.le_refl _)) (secsC_one _) (by omega)).mono ?_
  rintro e0 w4 ⟨⟨v0, rfl, hown⟩, hb4⟩
  obtain ⟨A1, c1, rfl, r1, r2⟩ := row_of_own hown
  have OWN := Lib.hid hown
  have HB4 := Lib.hid hb4
  clear hown r1 r2 hb4 z0 z1 z2 z3 z4 y0 y1 y2 y3 y4 u0 u1 u2 u3 k0 k1 k2 k3
  have HBA4 := Lib.hid (below_chain HB2.out HB4.out)
  obtain ⟨z0, z1, z2, z3, z4⟩ := HV.out.below HBA4.out HV.out.lt
  obtain ⟨k0, k1, k2, k3⟩ := HFR.out.below HBA4.out HV.out.lt
  obtain ⟨w5, hw5⟩ : ∃ w5, w5 = w4.setCell ⟨w.heap.size, 0, none⟩ (.slice A1 n c1) := ⟨_, rfl⟩
  have HV5 := Lib.hid (show Var w5 w.heap.size A1 A' n c1 n' c' f dn by rw [hw5]; exact ⟨by rw [size_set]; exact z0, by go_simp, by go_simp, by go_simp, by go_simp⟩)
  have HF5 := Lib.hid (show Free w5 w.heap.size by rw [hw5]; exact ⟨by go_simp, by go_simp, by go_simp, by go_simp⟩)
  have HW5 := Lib.hid hw5
  have HK5 := Lib.hid (show ∀ q, q ≠ w.heap.size → w5.heap[q]? = w4.heap[q]? from fun q hq => by rw [hw5]; exact Below.heap_setCell _ _ _ _ hq)
  have HS5 := Lib.hid (show w5.heap.size = w4.heap.size by rw [hw5, size_set])
  have HB5 := Lib.hid (show Below w.heap.size w w5 by
    rw [hw5]
    exact (below_chain HBA.out HB4.out).setCell (p := ⟨w.heap.size, 0, none⟩) (Nat.le_refl _) _)
  clear hw5
  go_wp2
  rw [← HW5.out]
  have HCAP := Lib.hid (show n ≤ c1 ∧ c1 ≤ 9223372036854775807 by
    obtain ⟨A9, c9, e9, r9, _⟩ := row_of_own OWN.out
    injection e9 with _ _ e9
    subst e9
    exact ⟨r9.2.1, r9.2.2.1⟩)
  obtain ⟨g1, rfl, hg1, hg2, hg3, hg4⟩ := own_there OWN.out hm0
  have HG3 := Lib.hid hg3
  have HG4 := Lib.hid hg4
  clear hg3 hg4
  have hne : w.heap.size + 1 < g1 := by have := HSZ.out; omega
  have HLB := Lib.hid (show ∀ y, A' = some y → 0 < n' → y.block < w.heap.size from fun y hy h0 => (H2.out.2.2.2.2 y hy h0).2.1)
  go_loopw [22] (fun i wr => ∃ k : Nat, k ≤ n' ∧ i = .int .i64 k ∧ Var wr w.heap.size (some ⟨g1, 0, none⟩) A' n c1 n' c' f dn ∧ Free wr w.heap.size ∧ Var wr (w.heap.size + 1) none none 0 0 0 0 0 false ∧ Free wr (w.heap.size + 1) ∧ Below w.heap.size w wr ∧
      wr.rangeAt g1 0 (secsC (Dk.lands fates d.secs (d.loose.take k) 0)) ∧ wr.there g1 0 (n * 128) ∧ g1 < wr.heap.size) (fun i _ => n' - (intOf i).toNat)
  case atStart =>
    have hw1 : w.heap.size + 1 < w4.heap.size := by have := HSZ.out; have := HB4.out.size; omega
    refine ⟨0, by omega, rfl, HV5.out, HF5.out, (HV2.out.below HBA4.out HV2.out.lt).keepb (by rw [HS5.out]; exact Nat.le_refl _) (HK5.out _ (by omega)), (HF2.out.below HBA4.out HV2.out.lt).keepb (HK5.out _ (by omega)), HB5.out, ?_, there_keepb HG4.out (HK5.out _ (by omega)), by rw [HS5.out]; exact hg2⟩
    exact range_keepb HG3.out (HK5.out _ (by omega))
  case round =>
    obtain ⟨k, hk, rfl, hv, hf, hv2, hf2, hb, hrg, hth, hgl⟩ := hrel
    rename World => wr
    have HVR := Lib.hid hv
    have HFR2 := Lib.hid hf
    have HV2R := Lib.hid hv2
    have HF2R := Lib.hid hf2
    have HBR := Lib.hid hb
    have HRG := Lib.hid hrg
    have HTH := Lib.hid hth
    have HROW := Lib.hid (H2.out.kept hb (Nat.le_refl _))
    have HROWF := Lib.hid (HRF.out.kept hb (Nat.le_refl _))
    clear hf hv2 hf2 hb hrg hth
    obtain ⟨y0, y1, y2, y3, y4⟩ := hv
    by_cases hkn : k < n'
    · obtain ⟨b', o', rfl, hb', hx⟩ := row_at HROW.out (by omega)
      obtain ⟨xk, hxk⟩ : ∃ xk, d.loose[k]? = some xk := ⟨_, List.getElem?_eq_getElem (by rw [← HN'.out]; exact hkn)⟩
      have hld := load_wrVar (range_wrs hx hxk)
      have HXK := Lib.hid hxk
      clear hx hxk
      have htw : (wr.alloc (wrO zeroWr)).there wr.heap.size 0 129 := by have := there_new wr (wrC zeroWr) 83; rwa [wrC_length] at this
      have hst := store_wr htw xk
      obtain ⟨wc, hwc⟩ : ∃ wc, wc = putWr (wr.alloc (wrO zeroWr)) wr.heap.size 0 xk := ⟨_, rfl⟩
      have hrc : wc.rangeAt wr.heap.size 0 (wrC xk) := by rw [hwc]; exact range_putWr htw xk
      have hkeep : ∀ q, q < wr.heap.size → wc.heap[q]? = wr.heap[q]? := fun q hq => by
        rw [hwc, putWr, heap_setCells _ _ (by omega)]; exact Below.heap_alloc _ _ _ hq
      have hcs : wc.heap.size = wr.heap.size + 1 := by rw [hwc, putWr, size_setCells, size_alloc]
      have HST := Lib.hid (show wc.os = wr.os ∧ wc.tape = wr.tape ∧ wc.output = wr.output by rw [hwc, putWr]; exact streams_setCells _ _ _ _)
      rw [← hwc] at hst
      clear hwc htw
      have HRC := Lib.hid hrc
      clear hrc
      have HKEEP := Lib.hid hkeep
      have HCS := Lib.hid hcs
      clear hkeep hcs
      by_cases hnf : 0 < nf
      · have hnd : decide ((0:Int) < (nf : Int)) = true := by simp; omega
        obtain ⟨bf, of, rfl, hbf, hxf⟩ := row_at HROWF.out hnf
        obtain ⟨r, hrm⟩ : ∃ r : Nat, (k : Int) % (nf : Int) = (r : Int) := ⟨k % nf, by omega⟩
        have hrl : r < nf := by have := Int.emod_lt_of_pos (k : Int) (show (0 : Int) < nf by omega); omega
        obtain ⟨fx, hfx⟩ : ∃ fx, fates[r]? = some fx := ⟨_, List.getElem?_eq_getElem (by rw [← HNF.out]; exact hrl)⟩
        have hfr := range_keepb (range_fates hxf hfx) (HKEEP.out bf hbf)
        have hc0 : wc.cell? ⟨bf, of + r * 2, none⟩ = some (.int .u8 fx.1.toNat) := hfr 0 _ rfl
        have hc1 : wc.cell? ⟨bf, of + r * 2 + 1, none⟩ = some (.int .u8 fx.2.toNat) := hfr 1 _ rfl
        have hrm' : k % nf = r := by omega
        have HFX := Lib.hid hfx
        have HRM := Lib.hid hrm'
        clear hxf hfx hfr hrm'
        obtain ⟨f1, f2⟩ := fx
        dsimp only at hc0 hc1
        have hrl' : (r : Int) < nf := by omega
        have hr0 : (0 : Int) ≤ r := by omega
        go_wp2_with fail
        refine (kept_f wc f1 f2).mono ?_
        rintro e6 w6 ⟨rfl, hb6⟩
        have hkl := kept_le (f1, f2)
        have HKL := Lib.hid hkl
        generalize hkp : Dk.kept (f1, f2) = kp at hkl ⊢
        have HKP := Lib.hid hkp
        have hr6 := range_below HRC.out hb6 (by have := HCS.out; omega)
        have hk6 : ∀ q, q < wr.heap.size → w6.heap[q]? = wr.heap[q]? := fun q hq => by rw [hb6.block q (by have := HCS.out; omega)]; exact HKEEP.out q hq
        have hs6 : wr.heap.size + 1 ≤ w6.heap.size := by have := hb6.size; have := HCS.out; omega
        have HEQ6 := Lib.hid (show w6.os = wr.os ∧ w6.tape = wr.tape ∧ w6.output = wr.output from ⟨hb6.os.trans HST.out.1, hb6.tape.trans HST.out.2.1, hb6.output.trans HST.out.2.2⟩)
        clear hb6 hkp hc0 hc1
        have hat0 := range_wr_at hr6
        have hdat := range_wr_data hr6
        rw [Nat.zero_add] at hdat
        have HDAT := Lib.hid hdat
        clear hdat hr6
        have hbnd : (0 : Int) ≤ xk.at_ ∧ xk.at_ < n := by
          have h := HR.out
          rw [Dk.right, Bool.and_eq_true, List.all_eq_true] at h
          have h2 := h.2 xk (List.mem_of_getElem? HXK.out)
          have hm := HN.out
          simp [Dk.inside] at h2
          omega
        obtain ⟨at0, hat1⟩ : ∃ a : Nat, xk.at_ = a := ⟨xk.at_.toNat, by omega⟩
        rw [hat1] at hat0 hbnd
        have HAT := Lib.hid hat1
        clear hat1
        have hb0 := hbnd.1
        have hb1 := hbnd.2
        have hkp0 : (0 : Int) ≤ kp := by omega
        have hkp1 : (kp : Int) ≤ 128 := by omega
        have hth6 := there_row (there_keepb HTH.out (hk6 g1 hgl)) (j := at0) (by omega)
        obtain ⟨y0, y1, y2, y3, y4⟩ := HVR.out.keepb (by omega) (hk6 _ HVR.out.lt)
        have hlen : ((secC xk.data).take kp).length = kp := by rw [List.length_take, secC_length]; omega
        have HCPY := Lib.hid (show (Builtin.copy_ #[28, 28] 3 #[.slice (some ⟨g1, at0 * 128, none⟩) kp 128, .slice (some ⟨wr.heap.size, 1, none⟩) kp 128]).run Tryd.prog w6.drew = .ok (.int .i64 kp) (w6.drew.setCells g1 (at0 * 128) ((secC xk.data).take kp)) by
          have := run_copy_cells (P := Tryd.prog) w6.drew 28 28 3 5 g1 (at0 * 128) kp 128 ⟨wr.heap.size, 1, none⟩ kp 128 ((secC xk.data).take kp) Tryd.underlying28 (by kernel_rfl) (by rw [hlen]; simp)
            (fun j v hv => by
              rw [add_none]
              refine HDAT.out j v ?_
              have hj := (List.getElem?_eq_some_iff.1 hv).1
              rw [List.getElem?_take_of_lt (by omega)] at hv; exact hv)
            (fun j hj => by have := (hth6 j (by omega)).1; rwa [Nat.zero_add] at this)
            (fun j hj => by have := (hth6 j (by omega)).2; rwa [Nat.zero_add] at this)
            (fun v hv => secC_one _ v (List.mem_of_mem_take hv))
          rw [hlen] at this
          exact this)
        have HTH6 := Lib.hid hth6
        have HK6 := Lib.hid hk6
        have HLEN := Lib.hid hlen
        clear hth6 hk6 hlen hbnd
        go_wp2_with fail
        go_still_tail 10, (by kernel_rfl)
        change wpList _ _ _ _ _ w6.drew
        refine wpList_copy_part w6.drew rfl (.tmp 44) (.tmp 47) 28 28 rfl _ _ rfl rfl HCPY.out ?_
        go_wp2
        have hsz : (w6.drew.setCells g1 (at0 * 128) ((secC xk.data).take kp)).heap.size = w6.heap.size := by rw [size_setCells]; rfl
        have hk2 : ∀ q, q < wr.heap.size → q ≠ g1 → (w6.drew.setCells g1 (at0 * 128) ((secC xk.data).take kp)).heap[q]? = wr.heap[q]? := fun q h1 h2 => by rw [heap_setCells _ _ h2]; exact HK6.out q h1
        have HEQ := Lib.hid (show (w6.drew.setCells g1 (at0 * 128) ((secC xk.data).take kp)).os = wr.os ∧ (w6.drew.setCells g1 (at0 * 128) ((secC xk.data).take kp)).tape = wr.tape ∧ (w6.drew.setCells g1 (at0 * 128) ((secC xk.data).take kp)).output = wr.output by
          obtain ⟨e1, e2, e3⟩ := streams_setCells g1 ((secC xk.data).take kp) (at0 * 128) w6.drew
          exact ⟨e1.trans HEQ6.out.1, e2.trans HEQ6.out.2.1, e3.trans HEQ6.out.2.2⟩)
        go_roundw
        case rel =>
          have hlw := HVR.out.lt
          have hlw2 := HV2R.out.lt
          refine ⟨k + 1, by omega, by go_num, HVR.out.keepb (by omega) (hk2 _ hlw (by omega)), HFR2.out.keepb (hk2 _ hlw (by omega)), HV2R.out.keepb (by omega) (hk2 _ hlw2 (by omega)), HF2R.out.keepb (hk2 _ hlw2 (by omega)), ?_, ?_, ?_, by omega⟩
          · exact HBR.out.trans ⟨HEQ.out.1, HEQ.out.2.1, HEQ.out.2.2, by omega, fun q hq => hk2 q (by have := HBR.out.size; omega) (by omega)⟩
          · rw [lands_take _ _ _ _ _ HXK.out]
            have hlen : (Dk.lands fates d.secs (d.loose.take k) 0).length = n := by rw [lands_length]; exact HN.out.symm
            have h := range_part_row (w := w6.drew) (range_keepb HRG.out (HK6.out g1 hgl)) (j := at0) (by rw [hlen]; omega) xk.data kp
            rw [Nat.zero_add] at h
            have e : xk.at_.toNat = at0 := by rw [HAT.out]; rfl
            have e2 : fates.getD (k % fates.length) (0, 0) = (f1, f2) := by rw [← HNF.out, HRM.out, List.getD_eq_getElem?_getD, HFX.out]; rfl
            have e3 : (Dk.lands fates d.secs (d.loose.take k) 0).getD at0 zeroSec = (Dk.lands fates d.secs (d.loose.take k) 0)[at0]'(by rw [hlen]; omega) := by
              rw [List.getD_eq_getElem?_getD, List.getElem?_eq_getElem]; rfl
            rw [Dk.land, if_neg (by rw [← HNF.out]; omega), e, e2, HKP.out, e3]
            exact h
          · exact World.there_setCells (w := w6.drew) (there_keepb HTH.out (HK6.out g1 hgl)) _ _ _
        case measure => simp [intOf]; omega
      · have hnf0 : nf = 0 := by omega
        have HNF0 := Lib.hid hnf0
        have hnd : decide ((0:Int) < (nf : Int)) = false := by simp; omega
        clear hnf0
        go_wp2
        go_roundw
        case rel =>
          have hlw := HVR.out.lt
          have hlw2 := HV2R.out.lt
          refine ⟨k + 1, by omega, by go_num, HVR.out.keepb (by have := HCS.out; omega) (HKEEP.out _ hlw), HFR2.out.keepb (HKEEP.out _ hlw), HV2R.out.keepb (by have := HCS.out; omega) (HKEEP.out _ hlw2), HF2R.out.keepb (HKEEP.out _ hlw2), ?_, ?_, ?_, by have := HCS.out; omega⟩
          · exact HBR.out.trans ⟨HST.out.1, HST.out.2.1, HST.out.2.2, by have := HCS.out; omega, fun q hq => HKEEP.out q (by have := HBR.out.size; omega)⟩
          · rw [lands_take _ _ _ _ _ HXK.out, Dk.land, if_pos (by rw [← HNF.out]; exact HNF0.out)]
            exact range_keepb HRG.out (HKEEP.out g1 hgl)
          · exact there_keepb HTH.out (HKEEP.out g1 hgl)
        case measure => simp [intOf]; omega
    · obtain ⟨e0, e1, e2, e3⟩ := HFR2.out
      obtain ⟨p0, p1, p2, p3, p4⟩ := HV2R.out
      obtain ⟨t0, t1, t2, t3⟩ := HF2R.out
      have hkm : k = n' := by omega
      have HKM := Lib.hid hkm
      clear hkm
      have hlen : (Dk.lands fates d.secs d.loose 0).length = n := by rw [lands_length]; exact HN.out.symm
      have hfin : d.loose.take k = d.loose := List.take_of_length_le (by rw [HKM.out, HN'.out]; exact Nat.le_refl _)
      have hrg := HRG.out
      rw [hfin] at hrg
      have hrow : RowOf wr 128 (some ⟨g1, 0, none⟩) n c1 (secsC (Dk.lands fates d.secs d.loose 0)) :=
        ⟨by rw [secsC_length, hlen], HCAP.out.1, HCAP.out.2, (fun h => by cases h), fun y hy _ => by injection hy with hy; subst hy; exact ⟨rfl, hgl, hrg⟩⟩
      have HDF := Lib.hid (show DiskAt ((wr.setCell ⟨w.heap.size, 1, none⟩ (.slice none 0 0)).setCell ⟨w.heap.size, 3, none⟩ (.bool false)) (.agg #[.slice (some ⟨g1, 0, none⟩) n c1, .slice none 0 0, .int .i64 f, .bool false]) { d with secs := Dk.lands fates d.secs d.loose 0, loose := [], down := false } from
        disk_of hlen.symm rfl ((hrow.setCell _ _ (fun y hy _ => by injection hy with hy; subst hy; show g1 ≠ w.heap.size; omega)).setCell _ _ (fun y hy _ => by injection hy with hy; subst hy; show g1 ≠ w.heap.size; omega)) ⟨by simp [wrsC], by omega, by omega, fun _ => rfl, fun y hy _ => by cases hy⟩ HFU.out.symm rfl (by show _ ≤ d.fuse; rw [HFU.out]; exact HF.out.1) (by show d.fuse < _; rw [HFU.out]; exact HF.out.2))
      have HLS := Lib.hid hlen
      clear hlen hfin hrg hrow
      go_wp2_with fail
      refine (arm_f _ _ _ ff f0 f1 HDF.out).mono ?_
      rintro e7 w7 ⟨⟨v7, rfl, hg7⟩, hb7⟩
      obtain ⟨hd7, hc7⟩ := hg7
      have HC7 := Lib.hid hc7
      clear hc7
      have HD7 := Lib.hid hd7
      obtain ⟨B, m, e, B', m', e', rfl, hm, hm', r1, r2, r3⟩ := hd7
      have HR3 := Lib.hid r3
      clear hm hm' r1 r2 r3
      have HB7 := Lib.hid hb7
      clear hb7
      generalize hgf : Dk.fuse (Dk.arm _ _) = g at *
      generalize hdm : Dk.down (Dk.arm _ _) = dm at *
      clear hgf hdm
      have hle : w.heap.size + 1 < ((wr.setCell ⟨w.heap.size, 1, none⟩ (.slice none 0 0)).setCell ⟨w.heap.size, 3, none⟩ (.bool false)).heap.size := by simp only [size_set]; exact p0
      have HV7 := Lib.hid (show Var w7 (w.heap.size + 1) none none 0 0 0 0 0 false from (show Var ((wr.setCell ⟨w.heap.size, 1, none⟩ (.slice none 0 0)).setCell ⟨w.heap.size, 3, none⟩ (.bool false)) (w.heap.size + 1) none none 0 0 0 0 0 false from ⟨hle, by go_simp, by go_simp, by go_simp, by go_simp⟩).below HB7.out hle)
      have HF7 := Lib.hid (show Free w7 (w.heap.size + 1) from (show Free ((wr.setCell ⟨w.heap.size, 1, none⟩ (.slice none 0 0)).setCell ⟨w.heap.size, 3, none⟩ (.bool false)) (w.heap.size + 1) from ⟨by go_simp, by go_simp, by go_simp, by go_simp⟩).below HB7.out hle)
      have HBW := Lib.hid (show Below w.heap.size w w7 from ((HBR.out.setCell (p := ⟨w.heap.size, 1, none⟩) (Nat.le_refl _) _).setCell (p := ⟨w.heap.size, 3, none⟩) (Nat.le_refl _) _).trans (HB7.out.mono (by omega)))
      clear p0 p1 p2 p3 p4 t0 t1 t2 t3 y0 y1 y2 y3 y4 e0 e1 e2 e3
      obtain ⟨p0, p1, p2, p3, p4⟩ := HV7.out
      obtain ⟨t0, t1, t2, t3⟩ := HF7.out
      have HCL := Lib.hid (show ∀ b, b < g1 → Clear b (.agg #[.slice B m e, .slice B' m' e', .int .i64 g, .bool dm]) from fun b hb => HC7.out b (by simp only [size_set]; omega) (clear_mk (fun y hy _ => by injection hy with hy; subst hy; show g1 ≠ b; omega) (fun y hy => by cases hy)))
      have q : d.fall fates ff = (Dk.arm { d with secs := Dk.lands fates d.secs d.loose 0, loose := [], down := false } ff, 0) := by rw [Dk.fall, HR.out]; rfl
      go_wp2
      refine bodyPost_ret (ret_cell_tmp rfl rfl (load_var (HV7.out.set B B' m e m' e' g dm))) rfl ?_
      refine ⟨⟨_, by rw [q]; rfl, ?_⟩, below_set4 HBW.out (by omega) _ _ _ _ _ _ _ _⟩
      rw [q]
      exact ⟨set_disk HD7.out (HCL.out _ (by omega)), fun b hb _ => HCL.out b (by omega)⟩
end Go.Proofs.YtbhjigejpdbeiaaDoor
