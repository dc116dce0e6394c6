/-
  Variables that hold logs; the reference's lay: records in a half.
-/
import Derived.Test.YtbhjigejpdbeiaaDoorZKSd
import Derived.Test.YtbhjigejpdbeiaaDoorZKDsk
set_option linter.unusedSimpArgs false
set_option linter.unusedVariables false
namespace Go.Proofs.YtbhjigejpdbeiaaDoor
open Go.RowKit Go.Shelf
set_option linter.unusedVariables false
set_option maxRecDepth 8000

/-! ### A log's variable, whole -/
@[irreducible] def logVar (a : Addr) : Sem Value := loadVar 27 a
@[irreducible] def logSet (a : Addr) (v : Value) : Sem Unit := storeVar 27 a v
@[go_sem ↓] theorem logVar_def (a : Addr) : loadVar 27 a = logVar a := by unfold logVar; rfl
@[go_sem ↓] theorem logSet_def (a : Addr) (v : Value) : storeVar 27 a v = logSet a v := by unfold logSet; rfl
theorem sizeLog : (Tryd.prog.info? 27).map (·.size) = some 3 := by kernel_rfl
def logC (l : Dk.Log) : List Value := [.int .i64 l.half, .int .i64 l.gen, .int .i64 l.used]
theorem logC_one (l : Dk.Log) : ∀ v ∈ logC l, v.oneCell' = true := by
  intro v hv
  simp only [logC, List.mem_cons, List.not_mem_nil, or_false] at hv
  rcases hv with rfl | rfl | rfl <;> rfl
def putLog (w : World) (b : Nat) (l : Dk.Log) : World := w.setCells b 0 (logC l)
theorem load_log {w : World} {b : Nat} {l : Dk.Log} (h : w.rangeAt b 0 (logC l)) : (logVar ⟨b, 0, none⟩).run Tryd.prog w = .ok (logV l) w := by
  unfold logVar
  exact run_loadVar_mid w b 0 27 (logC l) _ h Tryd.underlying27 rfl (by rw [sizeLog]; rfl)
theorem store_log {w : World} {b : Nat} (ht : w.there b 0 3) (l : Dk.Log) : (logSet ⟨b, 0, none⟩ (logV l)).run Tryd.prog w = .ok () (putLog w b l) := by
  unfold logSet
  exact run_storeVar_mid (P := Tryd.prog) w b 0 27 (logC l).toArray ht (by rw [sizeLog]; rfl) (all_oneCell_toArray (logC_one l))
theorem logVar_run {w : World} {a : Addr} {v : Value} (h : (logVar a).run Tryd.prog w = .ok v w) : (loadVar 27 a).run Tryd.prog w = .ok v w := by
  unfold logVar at h; exact h
theorem range_putLog {w : World} {b : Nat} (ht : w.there b 0 3) (l : Dk.Log) : (putLog w b l).rangeAt b 0 (logC l) := World.rangeAt_setCells_same w b 0 (logC l) ht
theorem heap_putLog (w : World) (b : Nat) (l : Dk.Log) (k : Nat) (hk : k ≠ b) : (putLog w b l).heap[k]? = w.heap[k]? := heap_setCells b k hk _ _ _
theorem size_putLog (w : World) (b : Nat) (l : Dk.Log) : (putLog w b l).heap.size = w.heap.size := size_setCells _ _ _ _
theorem below_putLog {B : Nat} {a w : World} (h : Below B a w) {b : Nat} (hb : B ≤ b) (l : Dk.Log) : Below B a (putLog w b l) := below_setCells b hb _ _ _ h
theorem ret_cell_cell_tmp {fn : Func} {c1 c2 e : Tmp} {t1 t2 : TypeId} (h : fn.results = #[.cell c1 t1, .cell c2 t2, .tmp e]) {tmps : Array Value} {a1 a2 : Addr} {u1 u2 : Value} {P : Program} {w : World}
    (hc1 : tmps.getD c1 undef = .pointer (some a1)) (hl1 : (loadVar t1 a1).run P w = .ok u1 w) (hc2 : tmps.getD c2 undef = .pointer (some a2)) (hl2 : (loadVar t2 a2).run P w = .ok u2 w) :
    (results fn tmps).run P w = .ok (.tuple #[u1, u2, tmps.getD e undef]) w := by
  have hc1' : tmps[c1]?.getD undef = .pointer (some a1) := by simpa using hc1
  have hc2' : tmps[c2]?.getD undef = .pointer (some a2) := by simpa using hc2
  simp [results, h, hc1', hc2', asAddr, Sem.run_bind, hl1, hl2]
/-- A disk, a log, and an error come back. -/
def DiskOut3 (v : Value) (d : Dk) (l : Dk.Log) (r : Int) (w : World) (e : Ending) (w' : World) : Prop := (∃ u, e = .returned (.tuple #[u, logV l, .int .i64 r]) ∧ DiskGot v d w u w') ∧ Below w.heap.size w w'
theorem out3 {w W : World} {v0 : Value} {bD bL : Nat} {C : Array Value} {x : Dk} (l : Dk.Log) (r : Int) (hb : w.heap.size ≤ bD) (hne : bD < bL) (hlt : bL < W.heap.size) (hD : W.there bD 0 4) (hL : W.there bL 0 3) (h4 : D4 C) (hd : DiskAt W (.agg C) x)
    (hcD : Clear bD (.agg C)) (hcL : Clear bL (.agg C)) (hgot : ∀ b, b < w.heap.size → Clear b v0 → Clear b (.agg C)) (hB : Below w.heap.size w W) :
    (diskSet ⟨bD, 0, none⟩ (.agg C)).run Tryd.prog W = .ok () (putDisk W bD C) ∧ (logSet ⟨bL, 0, none⟩ (logV l)).run Tryd.prog (putDisk W bD C) = .ok () (putLog (putDisk W bD C) bL l) ∧
    (loadVar 25 ⟨bD, 0, none⟩).run Tryd.prog (putLog (putDisk W bD C) bL l) = .ok (.agg C) (putLog (putDisk W bD C) bL l) ∧ (loadVar 27 ⟨bL, 0, none⟩).run Tryd.prog (putLog (putDisk W bD C) bL l) = .ok (logV l) (putLog (putDisk W bD C) bL l) ∧
    DiskOut3 v0 x l r w (.returned (.tuple #[.agg C, logV l, .int .i64 r])) (putLog (putDisk W bD C) bL l) := by
  have hL2 : (putDisk W bD C).there bL 0 3 := World.there_setCells hL _ _ _
  have hv : DVar (putDisk W bD C) bD C := dvar_put (by omega) hD h4
  have hv2 : DVar (putLog (putDisk W bD C) bL l) bD C := hv.keepb (by rw [size_putLog]; exact Nat.le_refl _) (heap_putLog _ _ _ _ (by omega))
  have hd2 : DiskAt (putDisk W bD C) (.agg C) x := hd.keep hcD (by rw [size_putDisk]; exact Nat.le_refl _) (fun q _ hq => heap_putDisk _ _ _ _ hq)
  have hd3 : DiskAt (putLog (putDisk W bD C) bL l) (.agg C) x := hd2.keep hcL (by rw [size_putLog]; exact Nat.le_refl _) (fun q _ hq => heap_putLog _ _ _ _ hq)
  exact ⟨store_disk hD h4, store_log hL2 l, diskVar_run hv2.load, logVar_run (load_log (range_putLog hL2 l)), ⟨_, rfl, hd3, hgot⟩, below_putLog (below_putDisk hB hb C) (by omega) l⟩
theorem size_log3 (w : World) : (w.alloc (.cells #[.int .i64 0, .int .i64 0, .int .i64 0] 27)).there w.heap.size 0 3 := there_new w [.int .i64 0, .int .i64 0, .int .i64 0] 27
/-- Records in a half, of a generation. -/
def layR (d : Dk) (h : Nat) (gen : Int) (rs : List (List UInt8)) : Dk × Dk.Log × Int :=
  match d.puts h (Dk.layP gen rs []) with
  | (x, e) => if e = 0 then (match x.puts h [Dk.head gen (Dk.layP gen rs []).length] with
      | (y, e) => if e = 0 then (y, ⟨h, gen, ((1 + (Dk.layP gen rs []).length : Nat) : Int)⟩, 0) else (y, .zero, e)) else (x, .zero, e)
theorem lay_is (d : Dk) (h : Nat) (rs : List (List UInt8)) : d.lay h rs = if 1099511627776 ≤ d.top then (d, .zero, 5) else layR d h (d.top + 1) rs := by
  rw [Dk.lay, layR]
def LayPost (v : Value) (o : Dk × Dk.Log × Int) (w : World) (e : Ending) (w' : World) : Prop := DiskOut3 v o.1 o.2.1 o.2.2 w e w'
theorem lay_data (gen : Int) : ∀ (rs : List (List UInt8)) (l : List Part), (∀ p ∈ l, p.data.length ≤ 100) → ∀ p ∈ Dk.layP gen rs l, p.data.length ≤ 100
  | [], l, hl, p, hp => hl p hp
  | r :: rs, l, hl, p, hp => by
    rw [Dk.layP] at hp
    refine lay_data gen rs _ (fun q hq => ?_) p hp
    rcases List.mem_append.1 hq with hq | hq
    · exact hl q hq
    · obtain ⟨j, hj⟩ := List.getElem?_of_mem hq
      rw [(Jp.parts_at hj).2]
      show ((r.drop (100 * j)).take 100).length ≤ 100
      rw [List.length_take]; omega
theorem lay_fine {gen : Int} {rs : List (List UInt8)} (hn : (Dk.layP gen rs []).length ≤ 100000) : ∀ p ∈ Dk.layP gen rs [], p.data.length ≤ 100 ∧ 0 ≤ p.index ∧ p.index ≤ 1000000 := fun p hp => by
  refine ⟨lay_data gen rs [] (fun q hq => by cases hq) p hp, ?_⟩
  obtain ⟨j, hj⟩ := List.getElem?_of_mem hp
  have hlt := (List.getElem?_eq_some_iff.1 hj).1
  have := Jp.laidP_seq gen rs j p hj
  omega
theorem lay_count {r : List UInt8} (h : r.length ≤ 4096) : sizeN r.length ≤ 41 := (Jp.sizeN_pos h).2.2.2.1
theorem PartSet.up {w : World} {top top' : Nat} {cs : List (List Value)} {ps : List Part} (h : PartSet w top cs ps) (ht : top ≤ top') : PartSet w top' cs ps :=
  ⟨h.len, fun i p hp => by
    obtain ⟨B, m, k, e1, e2, e3, e4⟩ := h.row i p hp
    exact ⟨B, m, k, e1, e2, e3, fun x hx h0 => Nat.lt_of_lt_of_le (e4 x hx h0) ht⟩⟩
theorem sync_len (d : Dk) : d.sync.1.secs.length = d.secs.length := by
  have h1 := step_secs' d
  unfold Dk.sync
  split
  · split
    · rename_i x hx; rw [hx] at h1; exact congrArg List.length h1
    · rename_i x hx; rw [hx] at h1
      show (x.loose.foldl Dk.put x.secs).length = _
      rw [Jp.fold_length]; exact congrArg List.length h1
  · rfl
theorem puts_len (h : Nat) : ∀ (l : List Part) (d : Dk), (d.puts h l).1.secs.length = d.secs.length
  | [], d => sync_len d
  | p :: l, d => by
    rw [Dk.puts]
    have h1 := write_secs d (((h * d.half : Nat) : Int) + p.index) p.sec
    generalize d.write (((h * d.half : Nat) : Int) + p.index) p.sec = y at *
    obtain ⟨x, e⟩ := y
    dsimp only at h1 ⊢
    by_cases q : e = 0
    · rw [if_pos q, puts_len h l x, h1]
    · rw [if_neg q, h1]
/-- Between two rounds. -/
def LyRel (T : TypeId) (gen : Int) (rs : List (List UInt8)) (top : Nat) (w1 : World) (v ix : Value) (wr : World) : Prop :=
  ∃ (k : Nat) (cs : List (List Value)) (ps : List Part), ix = .int .i64 (k : Int) ∧ k ≤ rs.length ∧ Hid (ps.length ≤ 41 * k) ∧ Hid (Below w1.heap.size w1 wr) ∧ Hid (wr.ownsRow w1.heap.size T 4 v ps.length cs.flatten) ∧ Hid (PartSet wr top cs ps) ∧ Hid (Dk.layP gen rs [] = Dk.layP gen (rs.drop k) ps)
end Go.Proofs.YtbhjigejpdbeiaaDoor
