/-
  Read of the program.
-/
import Derived.Test.YtbhjigejpdbeiaaDoorZBk
import Derived.Test.YtbhjigejpdbeiaaDoorZKCp
import Derived.Test.YtbhjigejpdbeiaaDoorZFr
set_option linter.unusedSimpArgs false
set_option linter.unusedVariables false
namespace Go.Proofs.YtbhjigejpdbeiaaDoor
open Go.RowKit Go.Shelf
set_option linter.unusedVariables false
set_option maxRecDepth 8000
attribute [local go_sem] Oper.semAt_some

theorem ret_cell2 {fn : Func} {c e : Tmp} {t t' : TypeId} (h : fn.results = #[.cell c t, .cell e t']) {tmps : Array Value} {a b : Addr} {u v : Value} {P : Program} {w : World}
    (hc : tmps.getD c undef = .pointer (some a)) (he : tmps.getD e undef = .pointer (some b)) (hl : (loadVar t a).run P w = .ok u w) (hl2 : (loadVar t' b).run P w = .ok v w) : (results fn tmps).run P w = .ok (.tuple #[u, v]) w := by
  have hc' : tmps[c]?.getD undef = .pointer (some a) := by simpa using hc
  have he' : tmps[e]?.getD undef = .pointer (some b) := by simpa using he
  simp [results, h, hc', he', asAddr, Sem.run_bind, hl, hl2]
theorem load_errno {w : World} {b : Nat} {r : Int} (h : w.cell? ⟨b, 0, none⟩ = some (.int .i64 r)) : (loadVar 31 ⟨b, 0, none⟩).run Tryd.prog w = .ok (.int .i64 r) w :=
  by go_simp

/-- Between two rounds: nothing that lay has turned, and none was at the place. -/
def RdI (i : Int) (W0 : World) (pre : List (Nat × Wr)) (W : World) : Prop := (∀ p ∈ pre, p.2.at_ ≠ i) ∧ Below W0.heap.size W0 W
/-- A round has returned: the last one was at the place; its data lies in the result's variable. -/
def RdX (i : Int) (b : Nat) (w : World) (c : Code) (pre : List (Nat × Wr)) (W : World) : Prop :=
  (c = .ret ∧ ∃ (ini : List (Nat × Wr)) (last : Nat × Wr), pre = ini ++ [last] ∧ (∀ p ∈ ini, p.2.at_ ≠ i) ∧ last.2.at_ = i ∧ W.rangeAt b 0 (secC last.2.data) ∧ W.cell? ⟨b + 1, 0, none⟩ = some (.int .i64 0)) ∧ Below w.heap.size w W
def RdAt (B : Nat) (x : Nat × Wr) (Bx : Nat) (W : World) : Prop := B ≤ Bx ∧ Bx < W.heap.size ∧ W.rangeAt Bx 0 (wrC x.2)
theorem rdI_own (i : Int) (W0 : World) : OwnFrom W0.heap.size (RdI i W0) :=
  fun s A B row hs hg hr => ⟨hs.1, ownFrom_below (Nat.le_refl _) (Nat.le_refl _) s A B row hs.2 hg hr⟩
theorem rdX_own (i : Int) (b : Nat) (w : World) (c : Code) (B0 : Nat) (hB : w.heap.size ≤ B0) : OwnFrom B0 (RdX i b w c) :=
  fun s A B row hs hg hr => by
    obtain ⟨⟨h1, ini, last, e1, e2, e3, e4, e5⟩, h2⟩ := hs
    exact ⟨⟨h1, ini, last, e1, e2, e3, fun j v hv => cell_kept (e4 j v hv) hg (fun r e => (hr r e).2), cell_kept e5 hg (fun r e => (hr r e).2)⟩, ownFrom_below (Nat.le_refl _) hB s A B row h2 hg hr⟩
theorem rdA_own (B0 : Nat) (x : Nat × Wr) (B1 : Nat) (p : Nat → Prop) : OwnFrom B0 (fun (_ : Unit) W => ∃ Bx, RdAt B1 x Bx W ∧ p Bx) :=
  fun s A B row hs hg hr => by
    obtain ⟨Bx, ⟨h1, h2, h3⟩, hp⟩ := hs
    exact ⟨Bx, ⟨h1, Nat.lt_of_lt_of_le h2 hg.size, fun j v hv => cell_kept (h3 j v hv) hg (fun r e => (hr r e).2)⟩, hp⟩
theorem keeps_setCells (b : Nat) : ∀ (vs : List Value) (o : Nat) (W : World), KeepsOthers W (W.setCells b o vs)
  | [], _, W => KeepsOthers.refl W
  | v :: r, o, W => by rw [World.setCells]; exact (KeepsOthers.setCell W _ v).trans (keeps_setCells b r (o + 1) _)
theorem mem_back {l : List Wr} {k j : Nat} {y : Wr} (hj : l[j]? = some y) (hk : l.length ≤ j + k) : (j, y) ∈ back l k := by
  have hlt := (List.getElem?_eq_some_iff.1 hj).1
  simp only [back, List.mem_map, List.mem_range]
  refine ⟨l.length - 1 - j, by omega, ?_⟩
  rw [show l.length - 1 - (l.length - 1 - j) = j by omega, hj]; rfl
theorem fin_read {w W : World} {b D : Nat} {s : Sec} {r : Int} (hr : W.rangeAt b 0 (secC s)) (hc : W.cell? ⟨b + 1, 0, none⟩ = some (.int .i64 r)) (hB : Below w.heap.size w W) (hK : W.heap[D]? = some (.deferred (some []))) (hD : w.heap.size ≤ D) :
    (secVar ⟨b, 0, none⟩).run Tryd.prog (W.putObj D (.deferred none)) = .ok (secV s) (W.putObj D (.deferred none)) ∧ (W.putObj D (.deferred none)).cell? ⟨b + 1, 0, none⟩ = some (.int .i64 r) ∧ Below w.heap.size w (W.putObj D (.deferred none)) :=
  ⟨load_secVar fun j v hv => cell_kept (hr j v hv) (grownBy_putObj' _ D (.deferred none)) (fun r e => by cases e; exact ⟨_, hK, rfl⟩),
   cell_kept hc (grownBy_putObj' _ D (.deferred none)) (fun r e => by cases e; exact ⟨_, hK, rfl⟩),
   hB.trans (belowK_b (n₀ := w.heap.size) (w := w) (Nat.le_refl _) W D _ _ hD hK rfl rfl)⟩
theorem store_new0 (w : World) (z x : Wr) : (wrSet ⟨w.heap.size, 0, none⟩ (wrV x)).run Tryd.prog (w.alloc (wrO z)) = .ok () (w.alloc (wrO x)) := by
  have := store_wr (there_wr w z) x
  rw [putWr_new] at this
  exact this

set_option maxRecDepth 100000 in
set_option maxHeartbeats 400000 in
theorem read_in (w : World) (v : Value) (d : Dk) (i : Int) (h : DiskAt w v d) :
    CallsIn Fence.wide 4 Tryd.prog 78 #[v, .int .i64 i] w fun e w' => ReadPost d i w e w' := by
  have HD0 := Lib.hid h
  obtain ⟨A, n, c, A', n', c', rfl, hn, hn', h1, h2, h3⟩ := h
  have H1 := Lib.hid h1
  have H2 := Lib.hid h2
  have HN := Lib.hid hn
  have HN' := Lib.hid hn'
  clear h1 h2 hn hn' h3
  generalize hf : d.fuse = f at *
  generalize hdn : d.down = dn at *
  have HDN := Lib.hid hdn
  clear hf hdn
  obtain ⟨w1, hw1⟩ : ∃ w1, w1 = (((w.alloc (Obj.cells #[.slice A n c, .slice A' n' c', .int .i64 f, .bool dn] 25)).alloc (Obj.cells #[.int .i64 i] 3)).alloc (secO zeroSec)).alloc (Obj.cells #[.int .i64 0] 31) := ⟨_, rfl⟩
  have HW := Lib.hid hw1
  clear hw1
  refine callsIn_of_wp_marks Tryd.func78 rfl trivial ?_ rfl
  simp only [Tryd.ntmps78, List.size_toArray, List.length_cons, List.length_nil, Nat.reduceAdd, Nat.reduceSub, Array.replicate_succ, Array.replicate_zero, List.push_toArray, List.append_toArray, List.nil_append, List.cons_append]
  gi_wp2_with fail
  rw [← HW.out]
  refine ⟨trivial, (callsIn_wide.2 (within_f w1 A A' n c n' c' f i dn)).mono ?_⟩
  rintro e w2 ⟨rfl, hb2⟩
  have HB := Lib.hid (show Below w.heap.size w w1 by rw [HW.out]; exact ((below_two _ _ _).alloc (by simp; omega) _).alloc (by simp; omega) _)
  have HS := Lib.hid (show w1.heap.size = w.heap.size + 4 by rw [HW.out]; simp)
  have HV := Lib.hid (show Var w1 w.heap.size A A' n c n' c' f dn by
    rw [HW.out]; exact (var_new w A A' n c n' c' f dn).below ((((Below.refl _ _).alloc (Nat.le_refl _) _).alloc (by simp) _).alloc (by simp <;> omega) _) (by simp))
  have HI := Lib.hid (show w1.cell? ⟨w.heap.size + 1, 0, none⟩ = some (.int .i64 i) by
    rw [HW.out]
    have := cell_of_new (w.alloc (Obj.cells #[.slice A n c, .slice A' n' c', .int .i64 f, .bool dn] 25)) #[.int .i64 i] 3 0
    rw [size_alloc] at this
    exact ((((Below.refl _ _).alloc (Nat.le_refl _) _).alloc (by simp) _).cell (p := ⟨w.heap.size + 1, 0, none⟩) (by simp)).trans this)
  have HT := Lib.hid (show w1.there (w.heap.size + 1 + 1) 0 128 by
    rw [HW.out]
    have := there_new ((w.alloc (Obj.cells #[.slice A n c, .slice A' n' c', .int .i64 f, .bool dn] 25)).alloc (Obj.cells #[.int .i64 i] 3)) (secC zeroSec) 81
    rw [size_alloc, size_alloc, secC_length] at this
    exact there_below this ((Below.refl _ _).alloc (Nat.le_refl _) _) (by simp))
  have HE := Lib.hid (show w1.cell? ⟨w.heap.size + 1 + 1 + 1, 0, none⟩ = some (.int .i64 0) ∧ w1.frozen? ⟨w.heap.size + 1 + 1 + 1, 0, none⟩ = false by
    rw [HW.out]
    have h1 := cell_of_new (((w.alloc (Obj.cells #[.slice A n c, .slice A' n' c', .int .i64 f, .bool dn] 25)).alloc (Obj.cells #[.int .i64 i] 3)).alloc (secO zeroSec)) #[.int .i64 0] 31 0
    have h2 := frozen_new (((w.alloc (Obj.cells #[.slice A n c, .slice A' n' c', .int .i64 f, .bool dn] 25)).alloc (Obj.cells #[.int .i64 i] 3)).alloc (secO zeroSec)) #[.int .i64 0] 31 0
    simp only [size_alloc] at h1 h2
    exact ⟨h1, h2⟩)
  have HD := Lib.hid (show ∀ w2, Below w1.heap.size w1 w2 → DiskAt w2 (.agg #[.slice A n c, .slice A' n' c', .int .i64 f, .bool dn]) d from fun w2 hb2 => (HD0.out.kept HB.out (Nat.le_refl _)).kept hb2 (Nat.le_refl _))
  clear HW
  have HB2 := Lib.hid hb2
  clear hb2
  have HOUT := Lib.hid (show ∀ W (s : Sec) (r : Int), Below w.heap.size w W → d.read i = (s, r) → ReadPost d i w (.returned (.tuple #[secV s, .int .i64 r])) W from fun W s r hW hq => ⟨by rw [hq], hW⟩)
  have HEP := Lib.hid (show ∀ W, Below w1.heap.size w1 W → (∀ s, (putSec W (w.heap.size + 1 + 1) 0 s).cell? ⟨w.heap.size + 1 + 1 + 1, 0, none⟩ = some (.int .i64 0)) ∧ (∀ s, (putSec W (w.heap.size + 1 + 1) 0 s).frozen? ⟨w.heap.size + 1 + 1 + 1, 0, none⟩ = false) from fun W hW => by
    have h1 := (hW.cell (p := ⟨w.heap.size + 1 + 1 + 1, 0, none⟩) (show w.heap.size + 1 + 1 + 1 < _ by have := HS.out; omega)).trans HE.out.1
    have h2 := (hW.frozen (p := ⟨w.heap.size + 1 + 1 + 1, 0, none⟩) (show w.heap.size + 1 + 1 + 1 < _ by have := HS.out; omega)).trans HE.out.2
    exact ⟨fun s => (World.cell?_of_block (a := ⟨w.heap.size + 1 + 1 + 1, 0, none⟩) (heap_putSec W (w.heap.size + 1 + 1) 0 s (w.heap.size + 1 + 1 + 1) (by omega))).trans h1, fun s => (World.frozen?_of_block (a := ⟨w.heap.size + 1 + 1 + 1, 0, none⟩) (heap_putSec W (w.heap.size + 1 + 1) 0 s (w.heap.size + 1 + 1 + 1) (by omega))).trans h2⟩)
  have HFINL := Lib.hid (show ∀ W, Below w1.heap.size w1 W → ∀ (s : Sec) (r : Int),
      (secVar ⟨w.heap.size + 1 + 1, 0, none⟩).run Tryd.prog ((putSec W (w.heap.size + 1 + 1) 0 s).setCell ⟨w.heap.size + 1 + 1 + 1, 0, none⟩ (.int .i64 r)) = .ok (secV s) ((putSec W (w.heap.size + 1 + 1) 0 s).setCell ⟨w.heap.size + 1 + 1 + 1, 0, none⟩ (.int .i64 r)) ∧
      ((putSec W (w.heap.size + 1 + 1) 0 s).setCell ⟨w.heap.size + 1 + 1 + 1, 0, none⟩ (.int .i64 r)).cell? ⟨w.heap.size + 1 + 1 + 1, 0, none⟩ = some (.int .i64 r) ∧
      Below w.heap.size w ((putSec W (w.heap.size + 1 + 1) 0 s).setCell ⟨w.heap.size + 1 + 1 + 1, 0, none⟩ (.int .i64 r)) from fun W hW s r => by
    refine ⟨load_secVar (range_keepb (range_putSec (there_below HT.out hW (by have := HS.out; omega)) s) (Below.heap_setCell _ _ _ _ (by show w.heap.size + 1 + 1 ≠ w.heap.size + 1 + 1 + 1; omega))), ?_, ?_⟩
    · exact World.cell?_setCell_same _ _ _ ((HEP.out W hW).1 s)
    · exact (below_putSec (below_chain HB.out hW) (by omega) _ _).setCell (p := ⟨w.heap.size + 1 + 1 + 1, 0, none⟩) (by show _ ≤ w.heap.size + 1 + 1 + 1; omega) _)
  have HWI := Lib.hid (show d.within i = Dk.inside n i by rw [Dk.within, HN.out])
  cases hin : Dk.inside n i with
  | false =>
    have HIN := Lib.hid hin
    clear hin
    obtain ⟨z0, z1, z2, z3, z4⟩ := HV.out.below HB2.out HV.out.lt
    have ht := there_below HT.out HB2.out (by have := HS.out; omega)
    have hst := store_sec ht
    have HL := Lib.hid (load_put ht)
    obtain ⟨he1, he2⟩ := HEP.out w2 HB2.out
    clear ht
    gi_wp2_with fail
    refine ⟨trivial, ?_⟩
    gi_wp2_with fail
    refine ⟨_, ret_cell2 rfl rfl rfl (secVar_run (HFINL.out w2 HB2.out zeroSec 1).1) (load_errno (HFINL.out w2 HB2.out zeroSec 1).2.1), HOUT.out _ _ _ (HFINL.out w2 HB2.out zeroSec 1).2.2 ?_⟩
    rw [Dk.read, HWI.out, HIN.out, Bool.and_false]; rfl
  | true =>
  have HIN := Lib.hid hin
  clear hin
  obtain ⟨z0, z1, z2, z3, z4⟩ := HV.out.below HB2.out HV.out.lt
  gi_wp2_with fail
  clear z0 z1 z2 z3 z4
  refine ⟨trivial, (callsIn_wide.2 (right_f w2 _ d (HD.out w2 HB2.out))).mono ?_⟩
  rintro e w3 ⟨rfl, hb3⟩
  have HB3 := Lib.hid (below_chain HB2.out hb3)
  clear hb3
  obtain ⟨z0, z1, z2, z3, z4⟩ := HV.out.below HB3.out HV.out.lt
  have ht := there_below HT.out HB3.out (by have := HS.out; omega)
  have hst := store_sec ht
  have HL := Lib.hid (load_put ht)
  obtain ⟨he1, he2⟩ := HEP.out w3 HB3.out
  clear ht
  cases hr : d.right with
  | false =>
    have HR := Lib.hid hr
    clear hr
    gi_wp2_with fail
    refine ⟨_, ret_cell2 rfl rfl rfl (secVar_run (HFINL.out w3 HB3.out zeroSec 1).1) (load_errno (HFINL.out w3 HB3.out zeroSec 1).2.1), HOUT.out _ _ _ (HFINL.out w3 HB3.out zeroSec 1).2.2 ?_⟩
    rw [Dk.read, HR.out, Bool.false_and]; rfl
  | true =>
  have HR := Lib.hid hr
  clear hr
  cases dn with
  | true =>
    gi_wp2_with fail
    refine ⟨_, ret_cell2 rfl rfl rfl (secVar_run (HFINL.out w3 HB3.out zeroSec 9).1) (load_errno (HFINL.out w3 HB3.out zeroSec 9).2.1), HOUT.out _ _ _ (HFINL.out w3 HB3.out zeroSec 9).2.2 ?_⟩
    rw [Dk.read, HR.out, HWI.out, HIN.out, HDN.out]; rfl
  | false =>
  clear hst he1 he2
  have hn' : n' ≤ 4096 := by have := right_bounds HR.out; have := HN'.out; omega
  gi_wp2_with fail
  refine ⟨trivial, (back_in Fence.wide 3 trivial rfl A' n' c' w3).mono ?_⟩
  rintro e W0 ⟨rfl, hW0⟩
  have HB30 := Lib.hid (show Below w3.heap.size w3 W0 by rw [hW0]; exact (Below.refl _ _).alloc (Nat.le_refl _) _)
  have HS0 := Lib.hid (show W0.heap.size = w3.heap.size + 1 by rw [hW0]; simp)
  have HBOX := Lib.hid (show W0.cell? ⟨w3.heap.size, 0, none⟩ = some (.slice A' n' c') by rw [hW0]; exact cell_of_new w3 #[.slice A' n' c'] 23 0)
  have HB0 := Lib.hid (below_chain HB3.out HB30.out)
  have HBW := Lib.hid (below_chain HB.out HB0.out)
  have HROW := Lib.hid (H2.out.kept HBW.out (Nat.le_refl _))
  clear hW0 z0 z1 z2 z3 z4
  gi_wp2_with fail
  refine wpIn_rangeFunc_ownH rfl (by decide) (gf := 106) (lb := #[.pointer (some ⟨w3.heap.size, 0, none⟩)]) rfl trivial (enters_of Tryd.func106 (by kernel_rfl) rfl)
    (back_stops Fence.wide 3 trivial rfl (by decide) w3.heap.size W0.heap.size A' n' c' d.loose HN'.out (by omega) W0 (by have := HS0.out; omega) (Nat.le_refl _) HBOX.out HROW.out (fun y hy h0 => Nat.lt_of_lt_of_le (H2.out.2.2.2.2 y hy h0).2.1 HBW.out.size)) belowK_t (belowK_b (Nat.le_refl _)) (Below.refl _ _) (fun _ => rfl)
    (fun pre W => RdI i W0 pre W) (fun c pre W => RdX i (w.heap.size + 1 + 1) w c pre W) (rdI_own i W0) (fun c => rdX_own i _ w c W0.heap.size (by have := HBW.out.size; omega))
    ⟨fun p hp => absurd hp (by simp), Below.refl _ _⟩
    (fun x a' W => ∃ Bx, RdAt W0.heap.size x Bx W ∧ a' = { tmps := #[.agg #[.slice A n c, .slice A' n' c', .int .i64 f, .bool false], .int .i64 i, .pointer (some ⟨w.heap.size, 0, none⟩), .pointer (some ⟨w.heap.size + 1, 0, none⟩), .pointer (some ⟨w.heap.size + 1 + 1, 0, none⟩), .pointer (some ⟨w.heap.size + 1 + 1 + 1, 0, none⟩), undef, .pointer (some ⟨Bx, 0, none⟩), .bool false,
      .agg #[.slice A n c, .slice A' n' c', .int .i64 f, .bool false], .int .i64 i, .bool true, .bool false, .bool false, .agg #[.slice A n c, .slice A' n' c', .int .i64 f, .bool false], .bool true, .bool false, .bool false, undef, .bool false, .pointer (some ⟨w.heap.size, 3, none⟩), .bool false, undef,
      .pointer (some ⟨w.heap.size, 1, none⟩), .slice A' n' c', .func (.func 106) #[] #[.pointer (some ⟨w3.heap.size, 0, none⟩)], .int .i64 (x.1 : Int), wrV x.2, undef, undef, undef, undef, undef, undef, undef, undef, undef, undef, undef], defers := [] })
    (fun x a' => rdA_own _ x _ (fun Bx => a' = { tmps := #[.agg #[.slice A n c, .slice A' n' c', .int .i64 f, .bool false], .int .i64 i, .pointer (some ⟨w.heap.size, 0, none⟩), .pointer (some ⟨w.heap.size + 1, 0, none⟩), .pointer (some ⟨w.heap.size + 1 + 1, 0, none⟩), .pointer (some ⟨w.heap.size + 1 + 1 + 1, 0, none⟩), undef, .pointer (some ⟨Bx, 0, none⟩), .bool false,
      .agg #[.slice A n c, .slice A' n' c', .int .i64 f, .bool false], .int .i64 i, .bool true, .bool false, .bool false, .agg #[.slice A n c, .slice A' n' c', .int .i64 f, .bool false], .bool true, .bool false, .bool false, undef, .bool false, .pointer (some ⟨w.heap.size, 3, none⟩), .bool false, undef,
      .pointer (some ⟨w.heap.size, 1, none⟩), .slice A' n' c', .func (.func 106) #[] #[.pointer (some ⟨w3.heap.size, 0, none⟩)], .int .i64 (x.1 : Int), wrV x.2, undef, undef, undef, undef, undef, undef, undef, undef, undef, undef, undef], defers := [] })) ?assign ?body ?done ?stop
  case assign =>
    rintro l pre x W K ⟨hp, hB⟩ hK
    have hst := store_new0 W zeroWr x.2
    have HKK := Lib.hid hK
    clear hK
    have HBB := Lib.hid hB
    clear hB
    gi_wp2
    exact HKK.out _ _ ((KeepsOthers.alloc W (wrO x.2)).from _) ((Below.refl _ W).alloc HBB.out.size _) ⟨hp, HBB.out.alloc HBB.out.size _⟩ ⟨W.heap.size, ⟨HBB.out.size, by simp, range_new W (wrC x.2) 83⟩, rfl⟩
  case body =>
    rintro l pre x a' W hl ⟨r, hr⟩ ⟨hp, hB⟩ ⟨Bx, ⟨hx1, hx2, hx3⟩, rfl⟩ hlt
    have HP := Lib.hid hp
    have HBB := Lib.hid hB
    have HB1 := Lib.hid (below_chain HB0.out hB)
    have hi := (HB1.out.cell (p := ⟨w.heap.size + 1, 0, none⟩) (show w.heap.size + 1 < _ by have := HS.out; omega)).trans HI.out
    have hat := range_wr_at hx3
    have hld := load_secVar (range_wr_data hx3)
    rw [Nat.zero_add] at hld
    have ht := there_below HT.out HB1.out (by have := HS.out; omega)
    have hst := store_sec ht x.2.data
    have HRG := Lib.hid (range_putSec ht x.2.data)
    obtain ⟨he1, he2⟩ := HEP.out W HB1.out
    have HFIN := Lib.hid (HFINL.out W HB1.out x.2.data 0)
    clear hp hB hx3 ht
    by_cases q : x.2.at_ = i
    · have HQ := Lib.hid q
      have hq : (x.2.at_ == i) = true := by simp [q]
      clear q
      gi_wp2
      exact ⟨((keeps_setCells _ _ _ _).trans (KeepsOthers.setCell _ _ _)).from _, ⟨rfl, pre, x, rfl, HP.out, HQ.out, range_keepb HRG.out (Below.heap_setCell _ _ _ _ (by show w.heap.size + 1 + 1 ≠ w.heap.size + 1 + 1 + 1; omega)), HFIN.out.2.1⟩, HFIN.out.2.2⟩
    · have HQ := Lib.hid q
      have hq : (x.2.at_ == i) = false := by simp [q]
      clear q
      gi_wp2
      exact ⟨KeepsFrom.refl _ _, Below.refl _ _, fun p hp' => (List.mem_append.1 hp').elim (HP.out p) (fun e => by simp at e; subst e; exact HQ.out), HBB.out⟩
  case done =>
    rintro D ys W hD rfl ⟨hp, hB⟩ hK
    have HP := Lib.hid hp
    have HBB := Lib.hid hB
    have HB1 := Lib.hid (below_chain HB0.out hB)
    have hi := (HB1.out.cell (p := ⟨w.heap.size + 1, 0, none⟩) (show w.heap.size + 1 < _ by have := HS.out; omega)).trans HI.out
    have HKD := Lib.hid hK
    clear hp hB hK
    obtain ⟨z0, z1, z2, z3, z4⟩ := HV.out.below HB1.out HV.out.lt
    have hin := HIN.out
    simp only [Dk.inside, decide_eq_true_eq] at hin
    obtain ⟨m, rfl⟩ : ∃ m : Nat, i = m := ⟨i.toNat, by omega⟩
    have hmn : m < n := by omega
    obtain ⟨b, o, rfl, hb, hx⟩ := row_at H1.out (by omega)
    obtain ⟨s, hs⟩ : ∃ s, d.secs[m]? = some s := ⟨_, List.getElem?_eq_getElem (by rw [← HN.out]; exact hmn)⟩
    have hld := load_secVar (range_below (range_below (range_secs hx hs) HB.out hb) HB1.out (by have := HS.out; omega))
    have HSS := Lib.hid hs
    clear hx hs
    have ht := there_below HT.out HB1.out (by have := HS.out; omega)
    have hst := store_sec ht s
    obtain ⟨he1, he2⟩ := HEP.out W HB1.out
    have HFIN := Lib.hid (HFINL.out W HB1.out s 0)
    clear ht hin
    have HKZ := Lib.hid (show ((putSec W (w.heap.size + 1 + 1) 0 s).setCell ⟨w.heap.size + 1 + 1 + 1, 0, none⟩ (.int .i64 0)).heap[D]? = some (.deferred (some [])) from ((keeps_setCells _ _ _ _).trans (KeepsOthers.setCell _ _ _)).same D _ HKD.out rfl)
    have HRG := Lib.hid (show ((putSec W (w.heap.size + 1 + 1) 0 s).setCell ⟨w.heap.size + 1 + 1 + 1, 0, none⟩ (.int .i64 0)).rangeAt (w.heap.size + 1 + 1) 0 (secC s) from
      range_keepb (range_putSec (there_below HT.out HB1.out (by have := HS.out; omega)) s) (Below.heap_setCell _ _ _ _ (by show w.heap.size + 1 + 1 ≠ w.heap.size + 1 + 1 + 1; omega)))
    gi_wp2
    obtain ⟨r1, r2, r3⟩ := fin_read HRG.out HFIN.out.2.1 HFIN.out.2.2 HKZ.out (show w.heap.size ≤ D by have := HBW.out.size; omega)
    refine ⟨by simp, .inl ⟨_, _, rfl, run_takeDeferred HKZ.out, ?_⟩⟩
    refine ⟨_, ret_cell2 rfl rfl rfl (secVar_run r1) (load_errno r2), HOUT.out _ _ _ r3 ?_⟩
    rw [Dk.read, HR.out, HWI.out, HIN.out, HDN.out]
    have : d.look (m : Int) = s := by
      rw [Dk.look, Dk.lookL_none]
      · simp [List.getD, HSS.out]
      · intro x hx
        obtain ⟨j, hj⟩ := List.getElem?_of_mem hx
        exact HP.out _ (mem_back (k := n') hj (by have := HN'.out; omega))
    rw [this]; rfl
  case stop =>
    rintro D c pre W hD ⟨k, hk, rfl⟩ ⟨⟨rfl, ini, last, e1, e2, e3, e4, e5⟩, hB⟩ hK
    have HE1 := Lib.hid e1
    have HE2 := Lib.hid e2
    have HE3 := Lib.hid e3
    have HE4 := Lib.hid e4
    have HE5 := Lib.hid e5
    have HBE := Lib.hid hB
    have HKD := Lib.hid hK
    clear e1 e2 e3 e4 e5 hB hK
    gi_wp2
    obtain ⟨r1, r2, r3⟩ := fin_read HE4.out HE5.out HBE.out HKD.out (show w.heap.size ≤ D by have := HBW.out.size; omega)
    refine ⟨by simp, .inl ⟨_, _, rfl, run_takeDeferred HKD.out, ?_⟩⟩
    refine ⟨_, ret_cell2 rfl rfl rfl (secVar_run r1) (load_errno r2), HOUT.out _ _ _ r3 ?_⟩
    rw [Dk.read, HR.out, HWI.out, HIN.out, HDN.out]
    have : d.look i = last.2.data := by
      obtain ⟨k', rfl⟩ : ∃ k', k = k' + 1 := by
        cases k with
        | zero => have := HE1.out; simp [back] at this
        | succ k' => exact ⟨k', rfl⟩
      have e1 := HE1.out
      rw [back_succ] at e1
      obtain ⟨h1, h2⟩ := List.append_inj' e1 rfl
      injection h2 with h2
      have hlen := HN'.out
      obtain ⟨y, hy⟩ : ∃ y, d.loose[d.loose.length - 1 - k']? = some y := ⟨_, List.getElem?_eq_getElem (by omega)⟩
      rw [hy] at h2
      subst h2
      rw [Dk.look, Dk.lookL_some hy HE3.out (fun j z hj hz => ?_)]
      · rfl
      · rw [← h1] at HE2
        exact HE2.out _ (mem_back (k := k') hz (by have := (List.getElem?_eq_some_iff.1 hz).1; omega))
    rw [this]; rfl
theorem read_f (w : World) (v : Value) (d : Dk) (i : Int) (h : DiskAt w v d) : Calls Tryd.prog 78 #[v, .int .i64 i] w fun e w' => ReadPost d i w e w' :=
  callsIn_wide.1 (read_in w v d i h)
end Go.Proofs.YtbhjigejpdbeiaaDoor
