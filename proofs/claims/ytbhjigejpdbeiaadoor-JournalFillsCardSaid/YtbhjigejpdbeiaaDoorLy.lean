/-
  Variables that hold logs; the reference's lay: records in a half.
-/
import Derived.Test.YtbhjigejpdbeiaaDoorKSd
import Derived.Test.YtbhjigejpdbeiaaDoorKDsk
set_option linter.unusedSimpArgs false
set_option linter.unusedVariables false
namespace Go.Proofs.YtbhjigejpdbeiaaDoor
open Go.RowKit Go.Shelf
set_option linter.unusedVariables false
set_option maxRecDepth 8000

/-! ### A log's variable, whole -/
@[irreducible] def logVar (a : Addr) : Sem Value := loadVar 27 a
@[irreducible] def logSet (a : Addr) (v : Value) : Sem Unit := storeVar 27 a v
@[go_sem ↓] theorem logVar_def (a : Addr) : loadVar 27 a = logVar a := by unfold logVar; rfl
@[go_sem ↓] theorem logSet_def (a : Addr) (v : Value) : storeVar 27 a v = logSet a v := by unfold logSet; rfl
theorem sizeLog : (Tryd.prog.info? 27).map (·.size) = some 3 := by kernel_rfl
def logC (l : Dk.Log) : List Value := [.int .i64 l.half, .int .i64 l.gen, .int .i64 l.used]
theorem logC_one (l : Dk.Log) : ∀ v ∈ logC l, v.oneCell' = true := by
  intro v hv
  simp only [logC, List.mem_cons, List.not_mem_nil, or_false] at hv
  rcases hv with rfl | rfl | rfl <;> rfl
def putLog (w : World) (b : Nat) (l : Dk.Log) : World := w.setCells b 0 (logC l)
theorem load_log {w : World} {b : Nat} {l : Dk.Log} (h : w.rangeAt b 0 (logC l)) : (logVar ⟨b, 0, none⟩).run Tryd.prog w = .ok (logV l) w := by
  unfold logVar
  exact run_loadVar_mid w b 0 27 (logC l) _ h Tryd.underlying27 rfl (by rw [sizeLog]; rfl)
theorem store_log {w : World} {b : Nat} (ht : w.there b 0 3) (l : Dk.Log) : (logSet ⟨b, 0, none⟩ (logV l)).run Tryd.prog w = .ok () (putLog w b l) := by
  unfold logSet
  exact run_storeVar_mid (P := Tryd.prog) w b 0 27 (logC l).toArray ht (by rw [sizeLog]; rfl) (all_oneCell_toArray (logC_one l))
theorem logVar_run {w : World} {a : Addr} {v : Value} (h : (logVar a).run Tryd.prog w = .ok v w) : (loadVar 27 a).run Tryd.prog w = .ok v w := by
  unfold logVar at h; exact h
theorem range_putLog {w : World} {b : Nat} (ht : w.there b 0 3) (l : Dk.Log) : (putLog w b l).rangeAt b 0 (logC l) := World.rangeAt_setCells_same w b 0 (logC l) ht
theorem heap_putLog (w : World) (b : Nat) (l : Dk.Log) (k : Nat) (hk : k ≠ b) : (putLog w b l).heap[k]? = w.heap[k]? := heap_setCells b k hk _ _ _
theorem size_putLog (w : World) (b : Nat) (l : Dk.Log) : (putLog w b l).heap.size = w.heap.size := size_setCells _ _ _ _
theorem below_putLog {B : Nat} {a w : World} (h : Below B a w) {b : Nat} (hb : B ≤ b) (l : Dk.Log) : Below B a (putLog w b l) := below_setCells b hb _ _ _ h
theorem ret_cell_cell_tmp {fn : Func} {c1 c2 e : Tmp} {t1 t2 : TypeId} (h : fn.results = #[.cell c1 t1, .cell c2 t2, .tmp e]) {tmps : Array Value} {a1 a2 : Addr} {u1 u2 : Value} {P : Program} {w : World}
    (hc1 : tmps.getD c1 undef = .pointer (some a1)) (hl1 : (loadVar t1 a1).run P w = .ok u1 w) (hc2 : tmps.getD c2 undef = .pointer (some a2)) (hl2 : (loadVar t2 a2).run P w = .ok u2 w) :
    (results fn tmps).run P w = .ok (.tuple #[u1, u2, tmps.getD e undef]) w := by
  have hc1' : tmps[c1]?.getD undef = .pointer (some a1) := by simpa using hc1
  have hc2' : tmps[c2]?.getD undef = .pointer (some a2) := by simpa using hc2
  simp [results, h, hc1', hc2', asAddr, Sem.run_bind, hl1, hl2]
/-- A disk, a log, and an error come back. -/
def DiskOut3 (v : Value) (d : Dk) (l : Dk.Log) (r : Int) (w : World) (e : Ending) (w' : World) : Prop := (∃ u, e = .returned (.tuple #[u, logV l, .int .i64 r]) ∧ DiskGot v d w u w') ∧ Below w.heap.size w w'
theorem out3 {w W : World} {v0 : Value} {bD bL : Nat} {C : Array Value} {x : Dk} (l : Dk.Log) (r : Int) (hb : w.heap.size ≤ bD) (hne : bD < bL) (hlt : bL < W.heap.size) (hD : W.there bD 0 4) (hL : W.there bL 0 3) (h4 : D4 C) (hd : DiskAt W (.agg C) x)
    (hcD : Clear bD (.agg C)) (hcL : Clear bL (.agg C)) (hgot : ∀ b, b < w.heap.size → Clear b v0 → Clear b (.agg C)) (hB : Below w.heap.size w W) :
    (diskSet ⟨bD, 0, none⟩ (.agg C)).run Tryd.prog W = .ok () (putDisk W bD C) ∧ (logSet ⟨bL, 0, none⟩ (logV l)).run Tryd.prog (putDisk W bD C) = .ok () (putLog (putDisk W bD C) bL l) ∧
    (loadVar 25 ⟨bD, 0, none⟩).run Tryd.prog (putLog (putDisk W bD C) bL l) = .ok (.agg C) (putLog (putDisk W bD C) bL l) ∧ (loadVar 27 ⟨bL, 0, none⟩).run Tryd.prog (putLog (putDisk W bD C) bL l) = .ok (logV l) (putLog (putDisk W bD C) bL l) ∧
    DiskOut3 v0 x l r w (.returned (.tuple #[.agg C, logV l, .int .i64 r])) (putLog (putDisk W bD C) bL l) := by
  have hL2 : (putDisk W bD C).there bL 0 3 := World.there_setCells hL _ _ _
  have hv : DVar (putDisk W bD C) bD C := dvar_put (by omega) hD h4
  have hv2 : DVar (putLog (putDisk W bD C) bL l) bD C := hv.keepb (by rw [size_putLog]; exact Nat.le_refl _) (heap_putLog _ _ _ _ (by omega))
  have hd2 : DiskAt (putDisk W bD C) (.agg C) x := hd.keep hcD (by rw [size_putDisk]; exact Nat.le_refl _) (fun q _ hq => heap_putDisk _ _ _ _ hq)
  have hd3 : DiskAt (putLog (putDisk W bD C) bL l) (.agg C) x := hd2.keep hcL (by rw [size_putLog]; exact Nat.le_refl _) (fun q _ hq => heap_putLog _ _ _ _ hq)
  exact ⟨store_disk hD h4, store_log hL2 l, diskVar_run hv2.load, logVar_run (load_log (range_putLog hL2 l)), ⟨_, rfl, hd3, hgot⟩, below_putLog (below_putDisk hB hb C) (by omega) l⟩
theorem size_log3 (w : World) : (w.alloc (.cells #[.int .i64 0, .int .i64 0, .int .i64 0] 27)).there w.heap.size 0 3 := there_new w [.int .i64 0, .int .i64 0, .int .i64 0] 27
/-- Records in a half, of a generation. -/
def layR (d : Dk) (h : Nat) (gen : Int) (rs : List (List UInt8)) : Dk × Dk.Log × Int :=
  match d.puts h (Dk.layP gen rs []) with
  | (x, e) => if e = 0 then (match x.puts h [Dk.head gen (Dk.layP gen rs []).length] with
      | (y, e) => if e = 0 then (y, ⟨h, gen, ((1 + (Dk.layP gen rs []).length : Nat) : Int)⟩, 0) else (y, .zero, e)) else (x, .zero, e)
theorem lay_is (d : Dk) (h : Nat) (rs : List (List UInt8)) : d.lay h rs = if 1099511627776 ≤ d.top then (d, .zero, 5) else layR d h (d.top + 1) rs := by
  rw [Dk.lay, layR]
def LayPost (v : Value) (o : Dk × Dk.Log × Int) (w : World) (e : Ending) (w' : World) : Prop := DiskOut3 v o.1 o.2.1 o.2.2 w e w'
theorem lay_data (gen : Int) : ∀ (rs : List (List UInt8)) (l : List Part), (∀ p ∈ l, p.data.length ≤ 100) → ∀ p ∈ Dk.layP gen rs l, p.data.length ≤ 100
  | [], l, hl, p, hp => hl p hp
  | r :: rs, l, hl, p, hp => by
    rw [Dk.layP] at hp
    refine lay_data gen rs _ (fun q hq => ?_) p hp
    rcases List.mem_append.1 hq with hq | hq
    · exact hl q hq
    · obtain ⟨j, hj⟩ := List.getElem?_of_mem hq
      rw [(Jp.parts_at hj).2]
      show ((r.drop (100 * j)).take 100).length ≤ 100
      rw [List.length_take]; omega
theorem lay_fine {gen : Int} {rs : List (List UInt8)} (hn : (Dk.layP gen rs []).length ≤ 100000) : ∀ p ∈ Dk.layP gen rs [], p.data.length ≤ 100 ∧ 0 ≤ p.index ∧ p.index ≤ 1000000 := fun p hp => by
  refine ⟨lay_data gen rs [] (fun q hq => by cases hq) p hp, ?_⟩
  obtain ⟨j, hj⟩ := List.getElem?_of_mem hp
  have hlt := (List.getElem?_eq_some_iff.1 hj).1
  have := Jp.laidP_seq gen rs j p hj
  omega
theorem lay_count {r : List UInt8} (h : r.length ≤ 4096) : sizeN r.length ≤ 41 := (Jp.sizeN_pos h).2.2.2.1
theorem PartSet.up {w : World} {top top' : Nat} {cs : List (List Value)} {ps : List Part} (h : PartSet w top cs ps) (ht : top ≤ top') : PartSet w top' cs ps :=
  ⟨h.len, fun i p hp => by
    obtain ⟨B, m, k, e1, e2, e3, e4⟩ := h.row i p hp
    exact ⟨B, m, k, e1, e2, e3, fun x hx h0 => Nat.lt_of_lt_of_le (e4 x hx h0) ht⟩⟩
theorem head_cells {L : Nat} (h : L ≤ 82000) : Lib.byteCells ([108, 111, 103] ++ leB (L : Int) 4) = [.int .u8 108, .int .u8 111, .int .u8 103, .int .u8 ((L : Int) % 256), .int .u8 ((L : Int) / 256 % 256), .int .u8 ((L : Int) / 65536), .int .u8 ((L : Int) / 16777216)] := by
  have e1 : (L : Int) / 65536 = (L : Int) / 65536 % 256 := by omega
  have e2 : (L : Int) / 16777216 = (L : Int) / 16777216 % 256 := by omega
  have b0 := Jp.byte_nat (L : Int)
  have b1 := Jp.byte_nat ((L : Int) / 256)
  have b2 := Jp.byte_nat ((L : Int) / 65536)
  have b3 := Jp.byte_nat ((L : Int) / 16777216)
  have e : leB (L : Int) 4 = [UInt8.ofNat ((L : Int) % 256).toNat, UInt8.ofNat ((L : Int) / 256 % 256).toNat, UInt8.ofNat ((L : Int) / 65536 % 256).toNat, UInt8.ofNat ((L : Int) / 16777216 % 256).toNat] := by
    simp only [leB, List.range, List.range.loop, List.map_cons, List.map_nil]
    have p0 : (2 : Int) ^ (8 * 0) = 1 := rfl
    have p1 : (2 : Int) ^ (8 * 1) = 256 := rfl
    have p2 : (2 : Int) ^ (8 * 2) = 65536 := rfl
    have p3 : (2 : Int) ^ (8 * 3) = 16777216 := rfl
    rw [p0, p1, p2, p3, Int.ediv_one]
  rw [e]
  simp only [Lib.byteCells, List.cons_append, List.nil_append, List.map_cons, List.map_nil, b0, b1, b2, b3]
  rw [← e1, ← e2]
  rfl
theorem head_row {w : World} {gen : Int} {L : Nat} (h : L ≤ 82000) : RowOf ((w.alloc (.cells #[.int .u8 108, .int .u8 111, .int .u8 103, .int .u8 ((L : Int) % 256), .int .u8 ((L : Int) / 256 % 256), .int .u8 ((L : Int) / 65536), .int .u8 ((L : Int) / 16777216)] 5)).alloc
    (.cells #[.int .i64 gen, .int .i64 0, .int .u8 3, .slice (some ⟨w.heap.size, 0, none⟩) 7 7] 94)) 1 (some ⟨w.heap.size, 0, none⟩) 7 7 (Lib.byteCells (Dk.head gen L).data) := by
  have e : (Dk.head gen L).data = [108, 111, 103] ++ leB (L : Int) 4 := rfl
  rw [e, head_cells h]
  refine ⟨rfl, Nat.le_refl _, by omega, (fun h => by cases h), fun y hy _ => ?_⟩
  injection hy with hy; subst hy
  exact ⟨rfl, by show w.heap.size < _; simp; omega, range_below (range_new w [.int .u8 108, .int .u8 111, .int .u8 103, .int .u8 ((L : Int) % 256), .int .u8 ((L : Int) / 256 % 256), .int .u8 ((L : Int) / 65536), .int .u8 ((L : Int) / 16777216)] 5) ((Below.refl (w.heap.size + 1) _).alloc (by simp) _) (Nat.lt_succ_self _)⟩
theorem sync_len (d : Dk) : d.sync.1.secs.length = d.secs.length := by
  have h1 := step_secs' d
  unfold Dk.sync
  split
  · split
    · rename_i x hx; rw [hx] at h1; exact congrArg List.length h1
    · rename_i x hx; rw [hx] at h1
      show (x.loose.foldl Dk.put x.secs).length = _
      rw [Jp.fold_length]; exact congrArg List.length h1
  · rfl
theorem puts_len (h : Nat) : ∀ (l : List Part) (d : Dk), (d.puts h l).1.secs.length = d.secs.length
  | [], d => sync_len d
  | p :: l, d => by
    rw [Dk.puts]
    have h1 := write_secs d (((h * d.half : Nat) : Int) + p.index) p.sec
    generalize d.write (((h * d.half : Nat) : Int) + p.index) p.sec = y at *
    obtain ⟨x, e⟩ := y
    dsimp only at h1 ⊢
    by_cases q : e = 0
    · rw [if_pos q, puts_len h l x, h1]
    · rw [if_neg q, h1]
/-- Between two rounds. -/
def LyRel (T : TypeId) (gen : Int) (rs : List (List UInt8)) (top : Nat) (w1 : World) (v ix : Value) (wr : World) : Prop :=
  ∃ (k : Nat) (cs : List (List Value)) (ps : List Part), ix = .int .i64 (k : Int) ∧ k ≤ rs.length ∧ Hid (ps.length ≤ 41 * k) ∧ Hid (Below w1.heap.size w1 wr) ∧ Hid (wr.ownsRow w1.heap.size T 4 v ps.length cs.flatten) ∧ Hid (PartSet wr top cs ps) ∧ Hid (Dk.layP gen rs [] = Dk.layP gen (rs.drop k) ps)
set_option maxHeartbeats 2000000 in
theorem rlay_f (w : World) (C0 : Array Value) (d : Dk) (h : Nat) (gen : Int) (v : Value) (rs : List (List UInt8)) (hd : DiskAt w (.agg C0) d) (h4 : D4 C0) (hh : h ≤ 1) (hs : d.secs.length ≤ 2048)
    (hv : RecsAt w v rs) (hn : rs.length ≤ 2000) (hr : ∀ r ∈ rs, r.length ≤ 4096) (hL : LaidR w) :
    Calls Tryd.prog 43 #[.agg C0, .int .i64 (h : Int), .int .i64 gen, v] w fun e w' => LayPost (.agg C0) (layR d h gen rs) w e w' := by
  obtain ⟨A, n, c, vs, rfl, hnl, hrow, hset⟩ := hv
  have hz : D4 #[.slice none 0 0, .slice none 0 0, .int .i64 0, .bool false] := ⟨rfl, fun v hv => by
    simp only [List.mem_cons, List.not_mem_nil, or_false] at hv
    rcases hv with rfl | rfl | rfl | rfl <;> rfl⟩
  obtain ⟨w1, hw1⟩ : ∃ w1, w1 = ((w.alloc (.cells C0 25)).alloc (.cells #[.slice none 0 0, .slice none 0 0, .int .i64 0, .bool false] 25)).alloc (.cells #[.int .i64 0, .int .i64 0, .int .i64 0] 27) := ⟨_, rfl⟩
  obtain ⟨bb, hbb⟩ : ∃ bb, bb = w.heap.size := ⟨_, rfl⟩
  have HN := Lib.hid hnl
  have HROW := Lib.hid hrow
  have HSET := Lib.hid hset
  have HW := Lib.hid hw1
  have HBB := Lib.hid hbb
  have HL := Lib.hid hL
  have H4 := Lib.hid h4
  have HD := Lib.hid hd
  have HSZ := Lib.hid hs
  have HRL := Lib.hid hr
  have hn2 : n ≤ 2000 := by omega
  clear hd h4 hs hrow hset hr hL hw1 hbb hnl hn
  have HB1 := Lib.hid (show Below bb w w1 by rw [HW.out, HBB.out]; exact (below_two _ _ _).alloc (by simp <;> omega) _)
  have HS1 := Lib.hid (show w1.heap.size = bb + 3 by rw [HW.out, HBB.out]; simp)
  go_enter Tryd.func43, Tryd.ntmps43
  go_wp2_with fail
  rw [← HW.out, ← HBB.out]
  go_loopw [11, 12] (fun v ix wr => LyRel 94 gen rs bb w1 v ix wr) (fun v ix wr => n - (intOf ix).toNat)
  case atStart => exact ⟨0, [], [], rfl, by omega, Lib.hid (by simp), Lib.hid (Below.refl _ _), Lib.hid (World.ownsRow_nil w1 w1.heap.size 94 4), Lib.hid (partSet_nil _ _), Lib.hid rfl⟩
  case round =>
    obtain ⟨k, cs, ps, rfl, hk, HPL, HBW, HO, HPS, HLP⟩ := hrel
    obtain ⟨Av, cv, rfl, hrowv, hlov⟩ := row_of_own HO.out
    have hkn : k ≤ n := by have := HN.out; omega
    have HLT := Lib.hid (Nat.le_trans (Nat.le_of_eq HS1.out.symm) HBW.out.size)
    clear hrowv hlov
    by_cases hlt : k < n
    case neg =>
      have hdn : decide (k < n) = false := by simp; omega
      obtain ⟨L, hPL⟩ : ∃ L, L = ps.length := ⟨_, rfl⟩
      have HPE := Lib.hid (show Dk.layP gen rs [] = ps by rw [HLP.out, List.drop_eq_nil_of_le (by have := HN.out; omega)]; rfl)
      have hL2 : L ≤ 82000 := by have := HPL.out; omega
      have HPLL := Lib.hid hPL
      rw [← hPL] at HO ⊢
      clear hlt hPL
      have hbd := HBW.out.size
      have HBX := Lib.hid (show BoxAt wr bb C0 d by
        have h1 := box_new HD.out H4.out
        rw [← HBB.out] at h1
        have h2 : Below (bb + 1) (w.alloc (.cells C0 25)) w1 := by
          rw [HW.out, HBB.out]
          exact ((Below.refl _ _).alloc (by simp) _).alloc (by simp) _
        exact (h1.below (h2.mono (by simp [HBB.out]))).below (HBW.out.mono (Nat.le_refl _)))
      have HLP2 := Lib.hid (show ∀ p ∈ ps, p.data.length ≤ 100 ∧ 0 ≤ p.index ∧ p.index ≤ 1000000 from fun p hp => by
        have h1 := HPE.out
        rw [← h1] at hp
        exact lay_fine (by rw [h1, ← HPLL.out]; omega) p hp)
      have hl0 := HBX.out.load
      have HB0 := Lib.hid (HB1.out.trans (HBW.out.mono (by have := HS1.out; omega)))
      obtain ⟨A2, c2, e2, hrowv, hlov⟩ := row_of_own HO.out
      injection e2 with e21 e22 e23
      subst e21; subst e23
      have HRV := Lib.hid hrowv
      clear hrowv hlov e22
      go_wp2_with fail
      refine (rput_f wr C0 d h Av L cv cs ps HBX.out.disk H4.out hh HSZ.out HPLL.out (by omega) HRV.out (HPS.out.up (by have := HLT.out; omega)) HLP2.out (HL.out.below HB0.out (by rw [HBB.out]; exact HL.out.size))).mono ?_
      rintro e w5 ⟨⟨u, rfl, hg1, hg2⟩, hb5⟩
      obtain ⟨C5, rfl, hc5⟩ := hg1.agg
      obtain ⟨X, er, hX⟩ : ∃ X er, d.puts h ps = (X, er) := ⟨_, _, rfl⟩
      rw [hX] at hg1 ⊢
      have HX := Lib.hid hX
      have HC5 := Lib.hid hc5
      have HG1 := Lib.hid hg1
      have HG2 := Lib.hid hg2
      have HB5 := Lib.hid hb5
      clear hg1 hg2 hb5 hl0 hX hbd
      go_upto_region 7 with fail
      obtain ⟨w6, hw6⟩ : ∃ w6, w6 = w5.alloc (.cells C5 25) := ⟨_, rfl⟩
      obtain ⟨b6, hb6⟩ : ∃ b6, b6 = w5.heap.size := ⟨_, rfl⟩
      rw [← hw6, ← hb6]
      have HB56 := Lib.hid (show Below w5.heap.size w5 w6 by rw [hw6]; exact (Below.refl _ _).alloc (Nat.le_refl _) _)
      have HS6 := Lib.hid (show w6.heap.size = b6 + 1 by rw [hw6, hb6]; simp)
      have HBX6 := Lib.hid (show BoxAt w6 b6 C5 X by rw [hw6, hb6]; exact box_new HG1.out HC5.out)
      have HT6 := Lib.hid (show w6.there b6 0 4 by rw [hw6, hb6]; exact there_disk w5 HC5.out)
      have HCL6 := Lib.hid (show Clear b6 (.agg C5) from HG1.out.clear (by omega))
      have HB06 := Lib.hid (show Below bb w w6 from (HB0.out.trans (HB5.out.mono (by have := HLT.out; omega))).trans (HB56.out.mono (by have := HLT.out; have := HB5.out.size; omega)))
      have HLT6 := Lib.hid (show bb + 3 ≤ b6 by have := HLT.out; have := HB5.out.size; omega)
      have HTD := Lib.hid (show ∀ W, Below (bb + 3) w6 W → W.there (bb + 1) 0 4 ∧ W.there (bb + 2) 0 3 from fun W hW => by
        have h2 := there_disk (w.alloc (.cells C0 25)) hz
        have h3 := size_log3 ((w.alloc (.cells C0 25)).alloc (.cells #[.slice none 0 0, .slice none 0 0, .int .i64 0, .bool false] 25))
        rw [size_alloc, ← HBB.out] at h2
        rw [size_alloc, size_alloc, ← HBB.out, ← HW.out] at h3
        have h4 : w1.there (bb + 1) 0 4 := by
          rw [HW.out]
          exact there_below h2 ((Below.refl (bb + 2) _).alloc (by simp [HBB.out]) _) (by omega)
        have h5 : Below (bb + 3) w1 w6 := ((HBW.out.mono (by have := HS1.out; omega)).trans (HB5.out.mono HLT.out)).trans (HB56.out.mono (by have := HLT6.out; omega))
        exact ⟨there_below (there_below h4 h5 (by omega)) hW (by omega), there_below (there_below h3 h5 (by omega)) hW (by omega)⟩)
      have HCD := Lib.hid (show Clear (bb + 1) (.agg C5) ∧ Clear (bb + 2) (.agg C5) from
        ⟨HG2.out _ (by have := HLT.out; omega) (HD.out.clear (by have := HBB.out; omega)), HG2.out _ (by have := HLT.out; omega) (HD.out.clear (by have := HBB.out; omega))⟩)
      have HGT := Lib.hid (show ∀ b, b < w.heap.size → Clear b (.agg C0) → Clear b (.agg C5) from fun b hb hcl => HG2.out b (by have := HLT.out; have := HBB.out; omega) hcl)
      clear hw6 hb6
      by_cases her : er = 0
      case neg =>
        have hne : (er != 0) = true := by rw [bne_iff_ne]; exact her
        have HRES := Lib.hid (show layR d h gen rs = (X, .zero, er) by
          rw [layR, HPE.out, HX.out]
          dsimp only
          rw [if_neg her])
        clear her
        have hl6 := HBX6.out.load
        obtain ⟨o1, o2, o3, o4, o5⟩ := out3 (w := w) (W := w6) (v0 := .agg C0) (bD := bb + 1) (bL := bb + 1 + 1) (C := C5) (x := X) .zero er (by rw [← HBB.out]; omega) (by omega) (by have := HS6.out; have := HLT6.out; omega) (HTD.out w6 (Below.refl _ _)).1 (HTD.out w6 (Below.refl _ _)).2 HC5.out HBX6.out.disk HCD.out.1 HCD.out.2 HGT.out (by rw [← HBB.out]; exact HB06.out)
        have HO5 := Lib.hid o5
        have o2 : (logSet ⟨bb + 1 + 1, 0, none⟩ (.agg #[.int .i64 0, .int .i64 0, .int .i64 0])).run Tryd.prog (putDisk w6 (bb + 1) C5) = .ok () (putLog (putDisk w6 (bb + 1) C5) (bb + 1 + 1) .zero) := o2
        have HO3 := Lib.hid o3
        have HO4 := Lib.hid o4
        clear o5 o3 o4
        go_wp2_with fail
        refine bodyPost_ret (ret_cell_cell_tmp rfl rfl HO3.out rfl HO4.out) rfl ?_
        rw [LayPost, HRES.out]
        exact HO5.out
      subst her
      go_upto_region 11 with fail
      obtain ⟨w7, hw7⟩ : ∃ w7, w7 = (w6.alloc (.cells #[.int .u8 108, .int .u8 111, .int .u8 103, .int .u8 ((L : Int) % 256), .int .u8 ((L : Int) / 256 % 256), .int .u8 ((L : Int) / 65536), .int .u8 ((L : Int) / 16777216)] 5)).alloc (.cells #[.int .i64 gen, .int .i64 0, .int .u8 3, .slice (some ⟨w6.heap.size, 0, none⟩) 7 7] 94) := ⟨_, rfl⟩
      obtain ⟨b7, hb7⟩ : ∃ b7, b7 = w6.heap.size := ⟨_, rfl⟩
      have HHR := Lib.hid (head_row (w := w6) (gen := gen) hL2)
      rw [← hw7, ← hb7] at HHR
      rw [← hb7] at hw7
      rw [← hb7, ← hw7]
      have HB67 := Lib.hid (show Below w6.heap.size w6 w7 by rw [hw7]; exact below_two _ _ _)
      have HS7 := Lib.hid (show w7.heap.size = b7 + 2 by rw [hw7, hb7]; simp)
      have HB7 := Lib.hid hb7
      have HP7 := Lib.hid (show w7.rangeAt (b7 + 1) 0 (partC gen 0 3 (some ⟨b7, 0, none⟩) 7 7) by
        have := range_new (w6.alloc (.cells #[.int .u8 108, .int .u8 111, .int .u8 103, .int .u8 ((L : Int) % 256), .int .u8 ((L : Int) / 256 % 256), .int .u8 ((L : Int) / 65536), .int .u8 ((L : Int) / 16777216)] 5)) (partC gen 0 3 (some ⟨b7, 0, none⟩) 7 7) 94
        rw [size_alloc, ← hb7] at this
        rw [hw7]; exact this)
      have HBX7 := Lib.hid (HBX6.out.below HB67.out)
      have HB07 := Lib.hid (show Below bb w w7 from HB06.out.trans (HB67.out.mono (by have := HS6.out; have := HLT6.out; omega)))
      clear hw7 hb7
      have hl7 := HBX7.out.load
      obtain ⟨q0, q1, q2, q3⟩ := part_cells HP7.out
      go_wp2_with fail
      obtain ⟨w8, hw8⟩ : ∃ w8, w8 = w7.alloc (.cells #[.int .i64 gen, .int .i64 0, .int .u8 3, .slice (some ⟨b7, 0, none⟩) 7 7] 94) := ⟨_, rfl⟩
      have HB78 := Lib.hid (show Below w7.heap.size w7 w8 by rw [hw8]; exact (Below.refl _ _).alloc (Nat.le_refl _) _)
      have HR8 := Lib.hid (part_row w7 gen 0 3 (some ⟨b7, 0, none⟩) 7 7 94)
      rw [← hw8] at HR8 ⊢
      have HB08 := Lib.hid (HB07.out.trans (HB78.out.mono (by have := HS7.out; have := HB7.out; have := HS6.out; have := HLT6.out; omega)))
      have HP8 := Lib.hid (show PartSet w8 w8.heap.size [partC gen 0 3 (some ⟨b7, 0, none⟩) 7 7] [Dk.head gen L] from partSet_one (p := Dk.head gen L) (by simp [Dk.head, leB_length]) (HHR.out.kept HB78.out (Nat.le_refl _)) (fun x hx _ => by
        injection hx with hx
        rw [← hx]
        have := HB78.out.size; have := HS7.out
        show b7 < _
        omega))
      have HXL := Lib.hid (show X.secs.length ≤ 2048 by
        have := puts_len h ps d
        rw [HX.out] at this
        rw [this]; exact HSZ.out)
      clear hw8 q0 q1 q2 q3 hl7
      refine (rput_f w8 C5 X h _ 1 1 [partC gen 0 3 (some ⟨b7, 0, none⟩) 7 7] [Dk.head gen L] ((HBX7.out.below HB78.out).disk) HC5.out hh HXL.out rfl (by omega) HR8.out HP8.out (fun p hp => by
        rw [List.mem_singleton] at hp
        subst hp
        exact ⟨by simp [Dk.head, leB_length], Int.le_refl _, by show (0 : Int) ≤ 1000000; omega⟩) (HL.out.below HB08.out (by rw [HBB.out]; exact HL.out.size))).mono ?_
      rintro e w9 ⟨⟨u, rfl, hg1, hg2⟩, hb9⟩
      obtain ⟨C9, rfl, hc9⟩ := hg1.agg
      obtain ⟨Y, er, hY⟩ : ∃ Y er, X.puts h [Dk.head gen L] = (Y, er) := ⟨_, _, rfl⟩
      rw [hY] at hg1 ⊢
      have HY := Lib.hid hY
      have HC9 := Lib.hid hc9
      have HG91 := Lib.hid hg1
      have HG92 := Lib.hid hg2
      have HB9 := Lib.hid hb9
      have HB69 := Lib.hid (show Below w6.heap.size w6 w9 from (HB67.out.trans (HB78.out.mono HB67.out.size)).trans (hb9.mono (Nat.le_trans HB67.out.size HB78.out.size)))
      have HT9 := Lib.hid (show w9.there b6 0 4 from there_below HT6.out HB69.out (by have := HS6.out; omega))
      have HB09 := Lib.hid (show Below bb w w9 from HB06.out.trans (HB69.out.mono (by have := HS6.out; have := HLT6.out; omega)))
      have HLT9 := Lib.hid (show b6 + 1 ≤ w9.heap.size by have := HB69.out.size; have := HS6.out; omega)
      have HLT8 := Lib.hid (show b6 + 1 ≤ w8.heap.size by have := HB78.out.size; have := HS7.out; have := HB7.out; have := HS6.out; omega)
      have hst := store_disk HT9.out hc9
      clear hg1 hg2 hb9 hY
      go_upto_region 12 with fail
      clear hst
      obtain ⟨wa, hwa⟩ : ∃ wa, wa = putDisk w9 b6 C9 := ⟨_, rfl⟩
      rw [← hwa]
      have HCL9 := Lib.hid (show Clear b6 (.agg C9) ∧ Clear (bb + 1) (.agg C9) ∧ Clear (bb + 1 + 1) (.agg C9) from
        ⟨HG92.out b6 HLT8.out HCL6.out, HG92.out _ (by have := HLT8.out; have := HLT6.out; omega) HCD.out.1, HG92.out _ (by have := HLT8.out; have := HLT6.out; omega) HCD.out.2⟩)
      have HBXA := Lib.hid (show BoxAt wa b6 C9 Y from ⟨by rw [hwa]; exact dvar_put HLT9.out HT9.out HC9.out, by
        rw [hwa]
        exact HG91.out.keep HCL9.out.1 (by rw [size_putDisk]; exact Nat.le_refl _) (fun q _ hq => heap_putDisk _ _ _ _ hq)⟩)
      have HSA := Lib.hid (show wa.heap.size = w9.heap.size by rw [hwa, size_putDisk])
      have HB6A := Lib.hid (show Below (bb + 3) w6 wa by rw [hwa]; exact below_putDisk (HB69.out.mono (by have := HS6.out; have := HLT6.out; omega)) HLT6.out C9)
      have HB0A := Lib.hid (show Below bb w wa from HB06.out.trans (HB6A.out.mono (by omega)))
      have HGTA := Lib.hid (show ∀ b, b < w.heap.size → Clear b (.agg C0) → Clear b (.agg C9) from fun b hb hcl => HG92.out b (by have := HLT8.out; have := HLT6.out; have := HBB.out; omega) (HGT.out b hb hcl))
      have HOUT := Lib.hid (fun l r => out3 (w := w) (W := wa) (v0 := .agg C0) (bD := bb + 1) (bL := bb + 1 + 1) (C := C9) (x := Y) l r (by rw [← HBB.out]; omega) (by omega) (by have := HSA.out; have := HLT9.out; have := HLT6.out; omega) (HTD.out wa HB6A.out).1 (HTD.out wa HB6A.out).2 HC9.out HBXA.out.disk HCL9.out.2.1 HCL9.out.2.2 HGTA.out (by rw [← HBB.out]; exact HB0A.out))
      have HRES := Lib.hid (show layR d h gen rs = if er = 0 then (Y, ⟨h, gen, ((1 + L : Nat) : Int)⟩, 0) else (Y, .zero, er) by
        rw [layR, HPE.out, HX.out]
        dsimp only
        rw [if_pos rfl, ← HPLL.out, HY.out])
      clear hwa
      have hla := HBXA.out.load
      by_cases her : er = 0
      case neg =>
        have hne : (er != 0) = true := by rw [bne_iff_ne]; exact her
        have HR2 := Lib.hid (HRES.out.trans (if_neg her))
        clear her
        obtain ⟨o1, o2, o3, o4, o5⟩ := HOUT.out .zero er
        have HO5 := Lib.hid o5
        have o2 : (logSet ⟨bb + 1 + 1, 0, none⟩ (.agg #[.int .i64 0, .int .i64 0, .int .i64 0])).run Tryd.prog (putDisk wa (bb + 1) C9) = .ok () (putLog (putDisk wa (bb + 1) C9) (bb + 1 + 1) .zero) := o2
        have HO3 := Lib.hid o3
        have HO4 := Lib.hid o4
        clear o5 o3 o4
        go_wp2_with fail
        refine bodyPost_ret (ret_cell_cell_tmp rfl rfl HO3.out rfl HO4.out) rfl ?_
        rw [LayPost, HR2.out]
        exact HO5.out
      subst her
      have HR2 := Lib.hid (HRES.out.trans (if_pos rfl))
      obtain ⟨o1, o2, o3, o4, o5⟩ := HOUT.out ⟨h, gen, ((1 + L : Nat) : Int)⟩ 0
      have HO5 := Lib.hid o5
      have hs1 : IntKind.i64.wrap (1 + (L : Int)) = 1 + (L : Int) := IntWalk.i64_in _ (by omega)
      have hcast : ((1 + L : Nat) : Int) = 1 + (L : Int) := by omega
      rw [hcast] at o2 o3 o4
      have HCAST := Lib.hid hcast
      have o2 : (logSet ⟨bb + 1 + 1, 0, none⟩ (.agg #[.int .i64 (h : Int), .int .i64 gen, .int .i64 (1 + (L : Int))])).run Tryd.prog (putDisk wa (bb + 1) C9) = .ok () (putLog (putDisk wa (bb + 1) C9) (bb + 1 + 1) ⟨h, gen, 1 + (L : Int)⟩) := o2
      have HO3 := Lib.hid o3
      have HO4 := Lib.hid o4
      clear o5 o3 o4 hcast
      go_wp2_with fail
      refine bodyPost_ret (ret_cell_cell_tmp rfl rfl HO3.out rfl HO4.out) rfl ?_
      rw [LayPost, HR2.out]
      have := HO5.out
      rw [HCAST.out] at this ⊢
      exact this
    have hdn : decide (k < n) = true := by simp; omega
    have hkl : k < rs.length := by have := HN.out; omega
    obtain ⟨r, hr⟩ : ∃ r, r = rs[k] := ⟨_, rfl⟩
    have HRK := Lib.hid (show rs[k]? = some r by rw [hr]; exact List.getElem?_eq_getElem hkl)
    have HDR := Lib.hid (show rs.drop k = r :: rs.drop (k + 1) by rw [hr]; exact List.drop_eq_getElem_cons hkl)
    have HR4 := Lib.hid (HRL.out r (by rw [hr]; exact List.getElem_mem hkl))
    clear hr
    obtain ⟨B, m, kk, hck, hm, hrowB, _⟩ := HSET.out.row k r HRK.out
    have HM := Lib.hid hm
    have HRB := Lib.hid hrowB
    obtain ⟨b, o, rfl, hb, hX⟩ := row_at HROW.out (by omega)
    have HBL := Lib.hid (HB1.out.trans (HBW.out.mono (by have := HS1.out; omega)))
    have HC := Lib.hid (show ∀ W, Below bb w W → W.cell? ⟨b, o + k, none⟩ = some (.slice B m kk) from fun W hW => by
      have := range_below hX hW (by rw [HBB.out]; exact hb)
      exact this k _ hck)
    clear hck hm hrowB hb hX
    obtain ⟨L, hPL⟩ : ∃ L, L = ps.length := ⟨_, rfl⟩
    have HPLL := Lib.hid hPL
    have hL2 : L ≤ 82000 := by have := HPL.out; omega
    rw [← hPL] at HO
    rw [← hPL]
    clear hPL
    have hs1 : IntKind.i64.wrap (1 + (L : Int)) = 1 + (L : Int) := IntWalk.i64_in _ (by omega)
    have HPARTS := Lib.hid (show ∀ W, Below wr.heap.size wr W → Calls Tryd.prog 38 #[.slice B m kk, .int .i64 gen, .int .i64 (1 + (L : Int))] W fun e w' => PartsPost 94 r gen (1 + L) bb W e w' from fun W hW => by
      have := rparts_f W B m kk r gen (1 + L) HM.out (HRB.out.below (HBL.out.trans (hW.mono (by have := HLT.out; omega))) (fun y hy h0 => by rw [HBB.out]; exact (HRB.out.2.2.2.2 y hy h0).2.1)) (by rw [HM.out]; exact HR4.out) (by omega) bb (fun y hy h0 => by rw [HBB.out]; exact (HRB.out.2.2.2.2 y hy h0).2.1) (by have := HLT.out; have := hW.size; omega)
      exact this)
    have hc0 := HC.out wr HBL.out
    have HSZ41 := Lib.hid (lay_count HR4.out)
    go_wp2_with fail
    refine (HPARTS.out wr (Below.refl _ _)).mono ?_
    rintro e w3 ⟨v3, cs3, rfl, hown3, hps3, hb3⟩
    obtain ⟨A3, c3, rfl, hrow3, hlo3⟩ := row_of_own hown3
    have HB3 := Lib.hid (below_chain (HBW.out.mono (by exact Nat.le_refl _)) hb3)
    have HROW3 := Lib.hid hrow3
    have HPS3 := Lib.hid hps3
    have HB3' := Lib.hid hb3
    have HO3 := Lib.hid (own_below HO.out hb3 (Nat.le_refl _))
    have HPS0 := Lib.hid (HPS.out.below hb3 (by have := HLT.out; omega))
    have HONE := Lib.hid hps3.cellsOne
    have HOL := Lib.hid (own_lt HO.out)
    have hz41 := HSZ41.out
    obtain ⟨z, hz⟩ : ∃ z, z = sizeN r.length := ⟨_, rfl⟩
    rw [← hz] at HROW3 hz41 HSZ41
    rw [← hz]
    have HZ := Lib.hid hz
    clear hown3 hrow3 hlo3 hps3 hb3 hz
    go_wp2_with (at_builtin; refine append_row rfl (.tmp 23) (.tmp 32) 73 94 rfl Tryd.underlying73 w1.heap.size _ 4 48 infoPart rfl (by decide) _ _ _ rfl HO3.out A3 z c3 cs3.flatten rfl HROW3.out HONE.out (by omega) (by decide) HB3.out.size ?_)
    intro v4 w4 k1 k2
    have HO4 := Lib.hid k1
    have HG4 := Lib.hid k2
    have HB4 := Lib.hid (HB3.out.grown k2 (by have := HB3.out.size; omega) (fun q e => (HOL.out q e).1))
    clear k1 k2
    go_wp2_with fail
    go_roundw
    case rel =>
      refine ⟨k + 1, cs ++ cs3, ps ++ Dk.parts r gen ((1 + L : Nat) : Int), rfl, by omega, Lib.hid ?_, HB4, Lib.hid ?_, Lib.hid ?_, Lib.hid ?_⟩
      · rw [List.length_append, Dk.parts_length, ← HPLL.out, ← HZ.out]; have := HPL.out; have := HPLL.out; omega
      · rw [List.length_append, Dk.parts_length, ← HPLL.out, ← HZ.out, List.flatten_append]; exact HO4.out
      · refine (HPS0.out.app HPS3.out).keep HG4.out.size (fun q hq hq2 => HG4.out.block q hq (fun e => ?_))
        have := (HOL.out q e.symm).1
        have := HS1.out
        omega
      · rw [HLP.out, HDR.out, Dk.layP, HPLL.out]
    case measure => simp [intOf]; omega
end Go.Proofs.YtbhjigejpdbeiaaDoor
