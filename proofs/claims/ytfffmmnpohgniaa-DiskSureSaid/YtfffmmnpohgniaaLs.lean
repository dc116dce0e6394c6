/-
  DiskSure, walked.
-/
import Derived.Test.YtfffmmnpohgniaaOa
import Derived.Deep.RegionHeld3
import Derived.Deep.DeepCutAuto
import Derived.Deep.CutBlock
import Derived.Deep.QuietTactic
import Derived.BigQuiet
namespace Go.Proofs.Ytfffmmnpohgniaa
open Go.RowKit
set_option linter.unusedVariables false

theorem inv_start (f : Int) : Play.Inv ⟨Dk.arm ⟨List.replicate 8 zeroSec, [], -1, false⟩ f, Play.zero8, Play.zero8, Play.none8, false⟩ 0 := by
  have hz : ∀ a, Play.zero8.getD a 0 = 0 := by
    intro a
    simp only [Play.zero8, List.getD_eq_getElem?_getD, List.getElem?_replicate]
    split <;> rfl
  have hn : ∀ a, Play.none8.getD a 0 = 0 := by
    intro a
    simp only [Play.none8, List.getD_eq_getElem?_getD, List.getElem?_replicate]
    split <;> rfl
  refine ⟨rfl, Nat.le_refl _, rfl, rfl, rfl, rfl, ?_, ?_, ?_, ?_, ?_⟩
  · intro a ha
    dsimp only
    rw [hz]
    simp only [Dk.arm, List.getElem?_replicate, ha, if_true]
    rfl
  · intro a _; dsimp only; rw [hn]; rfl
  · intro a _; dsimp only; rw [hn]; rfl
  · intro a _ _; rfl
  · intro a _; dsimp only; rw [hn]; exact Nat.le_refl _
theorem DVar.setCells {w : World} {b : Nat} {C : Array Value} (h : DVar w b C) (b' o : Nat) (vs : List Value) (hb : b ≠ b') : DVar (w.setCells b' o vs) b C :=
  h.keepb (by rw [size_setCells]; exact Nat.le_refl _) (heap_setCells b' b hb vs o w)
theorem DiskAt.setCells {w : World} {b : Nat} {v : Value} {d : Dk} (h : DiskAt w v d) (hc : Clear b v) (o : Nat) (vs : List Value) : DiskAt (w.setCells b o vs) v d :=
  h.keep hc (by rw [size_setCells]; exact Nat.le_refl _) (fun q _ hq => heap_setCells b q hq vs o w)
theorem DVar.setCell {w : World} {b : Nat} {C : Array Value} (h : DVar w b C) (b' o : Nat) (v : Value) (hb : b ≠ b') : DVar (w.setCell ⟨b', o, none⟩ v) b C :=
  h.keepb (by rw [size_set]; exact Nat.le_refl _) (Below.heap_setCell _ _ _ _ hb)
theorem DiskAt.setCell {w : World} {b : Nat} {v : Value} {d : Dk} (h : DiskAt w v d) (hc : Clear b v) (o : Nat) (x : Value) : DiskAt (w.setCell ⟨b, o, none⟩ x) v d :=
  h.keep hc (by rw [size_set]; exact Nat.le_refl _) (fun q _ hq => Below.heap_setCell _ _ _ _ hq)
/-- What the loop keeps: the disk's variable, the three arrays. -/
structure Sure (w0 : World) (b7 b9 b10 b11 : Nat) (p : Play) (C : Array Value) (wr : World) : Prop where
  d4 : D4 C
  dv : DVar wr b7 C
  th : wr.there b7 0 4
  dk : DiskAt wr (.agg C) p.d
  c7 : Clear b7 (.agg C)
  c9 : Clear b9 (.agg C)
  c10 : Clear b10 (.agg C)
  c11 : Clear b11 (.agg C)
  a9 : Arr wr b9 (Lib.byteCells p.sure)
  a10 : Arr wr b10 (Lib.byteCells p.last)
  a11 : Arr wr b11 (natC p.loose)
  be : Below w0.heap.size w0 wr
theorem Sure.step {w0 : World} {b7 b9 b10 b11 : Nat} {p : Play} {C : Array Value} {wr w' : World} (h : Sure w0 b7 b9 b10 b11 p C wr) (hb : Below wr.heap.size wr w') : Sure w0 b7 b9 b10 b11 p C w' :=
  ⟨h.d4, h.dv.step hb, there_below h.th hb h.dv.lt, h.dk.step hb, h.c7, h.c9, h.c10, h.c11, h.a9.step hb, h.a10.step hb, h.a11.step hb, below_chain h.be hb⟩
/-- Another disk goes into the variable. -/
theorem Sure.disk {w0 : World} {b7 b9 b10 b11 : Nat} {p : Play} {C C' : Array Value} {wr : World} {d : Dk} (h : Sure w0 b7 b9 b10 b11 p C wr) (h4 : D4 C') (hd : DiskAt wr (.agg C') d)
    (k7 : Clear b7 (.agg C')) (k9 : Clear b9 (.agg C')) (k10 : Clear b10 (.agg C')) (k11 : Clear b11 (.agg C')) (n9 : b9 ≠ b7) (n10 : b10 ≠ b7) (n11 : b11 ≠ b7) (hb : w0.heap.size ≤ b7) :
    Sure w0 b7 b9 b10 b11 { p with d := d } C' (putDisk wr b7 C') :=
  ⟨h4, dvar_put h.dv.lt h.th h4, World.there_setCells h.th _ _ _, hd.keep k7 (by rw [size_putDisk]; exact Nat.le_refl _) (fun q _ hq => heap_putDisk _ _ _ _ hq), k7, k9, k10, k11,
   h.a9.keepb (by rw [size_putDisk]; exact Nat.le_refl _) (heap_putDisk _ _ _ _ n9), h.a10.keepb (by rw [size_putDisk]; exact Nat.le_refl _) (heap_putDisk _ _ _ _ n10), h.a11.keepb (by rw [size_putDisk]; exact Nat.le_refl _) (heap_putDisk _ _ _ _ n11), below_putDisk h.be hb _⟩
theorem Sure.down {w0 : World} {b7 b9 b10 b11 : Nat} {p : Play} {C : Array Value} {wr : World} (h : Sure w0 b7 b9 b10 b11 p C wr) (b : Bool) : Sure w0 b7 b9 b10 b11 { p with down := b } C wr :=
  ⟨h.d4, h.dv, h.th, h.dk, h.c7, h.c9, h.c10, h.c11, h.a9, h.a10, h.a11, h.be⟩
section
variable {w0 : World} {b7 b9 b10 b11 : Nat} {p : Play} {C : Array Value} {wr : World}
theorem Sure.arr9 (h : Sure w0 b7 b9 b10 b11 p C wr) (ds : List UInt8) (hl : ds.length = p.sure.length) (n7 : b7 ≠ b9) (n10 : b10 ≠ b9) (n11 : b11 ≠ b9) (hb : w0.heap.size ≤ b9) : Sure w0 b7 b9 b10 b11 { p with sure := ds } C (wr.setCells b9 0 (Lib.byteCells ds)) :=
  have hs : wr.heap.size ≤ (wr.setCells b9 0 (Lib.byteCells ds)).heap.size := by rw [size_setCells]; exact Nat.le_refl _
  have hk : ∀ q, q ≠ b9 → (wr.setCells b9 0 (Lib.byteCells ds)).heap[q]? = wr.heap[q]? := fun q hq => heap_setCells _ _ hq _ _ _
  ⟨h.d4, h.dv.keepb hs (hk _ n7), World.there_setCells h.th _ _ _, h.dk.keep h.c9 hs (fun q _ hq => hk q hq), h.c7, h.c9, h.c10, h.c11, h.a9.all (by rw [Lib.byteCells_length, Lib.byteCells_length, hl]), h.a10.keepb hs (hk _ n10), h.a11.keepb hs (hk _ n11), below_setCells _ hb _ _ _ h.be⟩
theorem Sure.arr11 (h : Sure w0 b7 b9 b10 b11 p C wr) (ds : List Nat) (hl : ds.length = p.loose.length) (n7 : b7 ≠ b11) (n9 : b9 ≠ b11) (n10 : b10 ≠ b11) (hb : w0.heap.size ≤ b11) : Sure w0 b7 b9 b10 b11 { p with loose := ds } C (wr.setCells b11 0 (natC ds)) :=
  have hs : wr.heap.size ≤ (wr.setCells b11 0 (natC ds)).heap.size := by rw [size_setCells]; exact Nat.le_refl _
  have hk : ∀ q, q ≠ b11 → (wr.setCells b11 0 (natC ds)).heap[q]? = wr.heap[q]? := fun q hq => heap_setCells _ _ hq _ _ _
  ⟨h.d4, h.dv.keepb hs (hk _ n7), World.there_setCells h.th _ _ _, h.dk.keep h.c11 hs (fun q _ hq => hk q hq), h.c7, h.c9, h.c10, h.c11, h.a9.keepb hs (hk _ n9), h.a10.keepb hs (hk _ n10), h.a11.all (by simp [natC, hl]), below_setCells _ hb _ _ _ h.be⟩
theorem Sure.cell10 (h : Sure w0 b7 b9 b10 b11 p C wr) (a : Nat) (b : UInt8) (ha : a < p.last.length) (n7 : b7 ≠ b10) (n9 : b9 ≠ b10) (n11 : b11 ≠ b10) (hb : w0.heap.size ≤ b10) : Sure w0 b7 b9 b10 b11 { p with last := p.last.set a b } C (wr.setCell ⟨b10, a, none⟩ (.int .u8 b.toNat)) :=
  have hs : wr.heap.size ≤ (wr.setCell ⟨b10, a, none⟩ (.int .u8 b.toNat)).heap.size := by rw [size_set]; exact Nat.le_refl _
  have hk : ∀ q, q ≠ b10 → (wr.setCell ⟨b10, a, none⟩ (.int .u8 b.toNat)).heap[q]? = wr.heap[q]? := fun q hq => Below.heap_setCell _ _ _ _ hq
  ⟨h.d4, h.dv.keepb hs (hk _ n7), there_setCell h.th _ _, h.dk.keep h.c10 hs (fun q _ hq => hk q hq), h.c7, h.c9, h.c10, h.c11, h.a9.keepb hs (hk _ n9), by
    have := h.a10.set a (.int .u8 b.toNat) (by rw [Lib.byteCells_length]; exact ha)
    have e : (Lib.byteCells p.last).set a (.int .u8 b.toNat) = Lib.byteCells (p.last.set a b) := by simp [Lib.byteCells, List.map_set]
    rw [e] at this; exact this, h.a11.keepb hs (hk _ n11), h.be.setCell (p := ⟨b10, a, none⟩) hb _⟩
theorem Sure.cell11 (h : Sure w0 b7 b9 b10 b11 p C wr) (a n : Nat) (ha : a < p.loose.length) (n7 : b7 ≠ b11) (n9 : b9 ≠ b11) (n10 : b10 ≠ b11) (hb : w0.heap.size ≤ b11) : Sure w0 b7 b9 b10 b11 { p with loose := p.loose.set a n } C (wr.setCell ⟨b11, a, none⟩ (.int .i64 (n : Int))) :=
  have hs : wr.heap.size ≤ (wr.setCell ⟨b11, a, none⟩ (.int .i64 (n : Int))).heap.size := by rw [size_set]; exact Nat.le_refl _
  have hk : ∀ q, q ≠ b11 → (wr.setCell ⟨b11, a, none⟩ (.int .i64 (n : Int))).heap[q]? = wr.heap[q]? := fun q hq => Below.heap_setCell _ _ _ _ hq
  ⟨h.d4, h.dv.keepb hs (hk _ n7), there_setCell h.th _ _, h.dk.keep h.c11 hs (fun q _ hq => hk q hq), h.c7, h.c9, h.c10, h.c11, h.a9.keepb hs (hk _ n9), h.a10.keepb hs (hk _ n10), by
    have := h.a11.set a (.int .i64 (n : Int)) (by simp [natC]; exact ha)
    have e : (natC p.loose).set a (.int .i64 (n : Int)) = natC (p.loose.set a n) := by simp [natC, List.map_set]
    rw [e] at this; exact this, h.be.setCell (p := ⟨b11, a, none⟩) hb _⟩
end
theorem nat_at {l : List Nat} {a : Nat} (h : a < l.length) : (natC l)[a]? = some (.int .i64 ((l.getD a 0 : Nat) : Int)) := by
  rw [natC, List.getElem?_map, List.getD_eq_getElem?_getD, List.getElem?_eq_getElem h]; rfl
theorem byte_at {l : List UInt8} {a : Nat} (h : a < l.length) : (Lib.byteCells l)[a]? = some (.int .u8 (l.getD a 0).toNat) := by
  rw [Lib.byteCells, List.getElem?_map, List.getD_eq_getElem?_getD, List.getElem?_eq_getElem h]; rfl
theorem torn_get (b c : UInt8) (k j : Nat) (hj : j < 128) : (Dk.torn (fill b) (fill c) k).1.getD j 0 = if j < k then b else c := by
  show (List.take k (List.replicate 128 b) ++ List.drop k (List.replicate 128 c)).getD j 0 = _
  rw [List.take_replicate, List.drop_replicate, List.getD_eq_getElem?_getD]
  by_cases h : j < k
  · rw [if_pos h, List.getElem?_append_left (by simp; omega), List.getElem?_replicate, if_pos (by omega)]; rfl
  · rw [if_neg h, List.getElem?_append_right (by simp; omega), List.getElem?_replicate, if_pos (by simp; omega)]; rfl
/-- Behind the loop over the beginning. -/
def SureOne (W7 : World) (s : Sec) (lb : UInt8) (s23 : Value) (wx : World) : Prop := ∃ (k1 m : Nat), s23 = .int .i64 k1 ∧ k1 ≤ 128 ∧ (k1 = 128 ∨ s.1.getD k1 0 ≠ lb) ∧ Hid (wx = W7.drewN m)
/-- Behind the loop. -/
def SureEnd (w0 : World) (b7 b9 b10 b11 nl : Nat) (wx : World) : Prop := ∃ (k : Nat) (p : Play) (C : Array Value), k ≤ nl ∧ Hid (Play.Inv p k) ∧ Hid (Sure w0 b7 b9 b10 b11 p C wx)
abbrev z8b : Obj := .cells #[.int .u8 0, .int .u8 0, .int .u8 0, .int .u8 0, .int .u8 0, .int .u8 0, .int .u8 0, .int .u8 0] 48
abbrev z8i : Obj := .cells #[.int .i64 0, .int .i64 0, .int .i64 0, .int .i64 0, .int .i64 0, .int .i64 0, .int .i64 0, .int .i64 0] 49
theorem z8b_cells : (Lib.byteCells Play.zero8).toArray = #[.int .u8 0, .int .u8 0, .int .u8 0, .int .u8 0, .int .u8 0, .int .u8 0, .int .u8 0, .int .u8 0] := by simp [Lib.byteCells, Play.zero8]
theorem z8i_cells : (natC Play.none8).toArray = #[.int .i64 0, .int .i64 0, .int .i64 0, .int .i64 0, .int .i64 0, .int .i64 0, .int .i64 0, .int .i64 0] := by simp [natC, Play.none8]
/-- What the drawn region leaves: the disk that the write made lies in a variable of its own. -/
def SureMid (wr : World) (C : Array Value) (d : Dk) (r : Int) (s17 s18 : Value) (wx : World) : Prop :=
  ∃ (b17 : Nat) (C5 : Array Value), s17 = .pointer (some ⟨b17, 0, none⟩) ∧ s18 = .int .i64 r ∧ D4 C5 ∧ DVar wx b17 C5 ∧ DiskAt wx (.agg C5) d ∧ (∀ b, b < wr.heap.size → Clear b (.agg C) → Clear b (.agg C5)) ∧ Below wr.heap.size wr wx ∧ wr.heap.size ≤ b17
abbrev zD : Obj := .cells #[.slice none 0 0, .slice none 0 0, .int .i64 0, .bool false] 25
theorem zD4 : D4 #[.slice none 0 0, .slice none 0 0, .int .i64 0, .bool false] := ⟨rfl, fun v hv => by
    simp only [List.mem_cons, List.not_mem_nil, or_false] at hv
    rcases hv with rfl | rfl | rfl | rfl <;> rfl⟩
/-- The variable was made ahead of the write. -/
theorem mid_put {wr w2 : World} {b17 : Nat} {C C5 : Array Value} {d d0 : Dk} {r : Int} (hd0 : DiskAt wr (.agg C) d0) (h5 : D4 C5) (hlt : b17 < w2.heap.size) (ht : w2.there b17 0 4) (hd : DiskAt w2 (.agg C5) d)
    (hq : ∀ b, b < w2.heap.size → wr.heap.size ≤ b17 → (b < wr.heap.size ∨ b = b17) → Clear b (.agg C) → Clear b (.agg C5)) (hb : Below wr.heap.size wr w2) (hle : wr.heap.size ≤ b17) :
    SureMid wr C d r (.pointer (some ⟨b17, 0, none⟩)) (.int .i64 r) (putDisk w2 b17 C5) :=
  ⟨b17, C5, rfl, rfl, h5, dvar_put hlt ht h5, hd.keep (hq b17 hlt hle (.inr rfl) (hd0.clear hle)) (by rw [size_putDisk]; exact Nat.le_refl _) (fun q _ hq => heap_putDisk _ _ _ _ hq),
   fun b h1 h2 => hq b (by have := hb.size; omega) hle (.inl h1) h2, below_putDisk hb hle _, hle⟩
theorem set_same_nats (w : World) : (i8Set ⟨w.heap.size, 0, none⟩ (.agg #[.int .i64 0, .int .i64 0, .int .i64 0, .int .i64 0, .int .i64 0, .int .i64 0, .int .i64 0, .int .i64 0])).run Try.prog (w.alloc z8i) = .ok () (w.alloc z8i) := by
  have ha : Arr (w.alloc z8i) w.heap.size (natC Play.none8) := by
    have := arr_new w (natC Play.none8) 49
    rw [z8i_cells] at this; exact this
  have := store_i8 (l := Play.none8) ha.there rfl
  rw [z8i_cells] at this
  rw [this]
  have e := setCells_new 49 w (natC Play.none8) [] (natC Play.none8) (Nat.le_refl _)
  simp only [List.nil_append, List.length_nil, List.drop_length, List.append_nil] at e
  rw [z8i_cells] at e
  rw [e]

set_option maxHeartbeats 4000000 in
set_option maxRecDepth 100000 in
theorem law_sure (w : World) (v : Value) (l : List Ac) (hv : ActsAt w v l) (u : Value) (fates : List (UInt8 × UInt8)) (hu : FatesAt w u fates) (fu : UInt8) :
    Calls Try.prog 7 #[v, u, .int .u8 fu.toNat] w fun e w' => e = .returned (.bool true) ∧ Below w.heap.size w w' := by
  obtain ⟨AL, nl, cl, rfl, hnl, hrl⟩ := hv
  obtain ⟨AF, nf, cf, rfl, hnf, hrf⟩ := hu
  have HL0 := Lib.hid (show ActsAt w (.slice AL nl cl) l from ⟨AL, nl, cl, rfl, hnl, hrl⟩)
  have HF0 := Lib.hid (show FatesAt w (.slice AF nf cf) fates from ⟨AF, nf, cf, rfl, hnf, hrf⟩)
  have HRL := Lib.hid hrl
  have HNL := Lib.hid hnl
  have HNF := Lib.hid hnf
  clear hnl hrl hnf hrf
  have hfu : fu.toNat < 256 := fu.toNat_lt
  have hfw : IntKind.i64.wrap (fu.toNat : Int) = (fu.toNat : Int) := IntWalk.i64_in _ (by omega)
  go_enter Try.func7, Try.ntmps7
  go_wp2_with fail
  refine (alive_f w).mono ?_
  rintro e w1 ⟨rfl, hb1⟩
  have HB1 := Lib.hid hb1
  clear hb1
  by_cases hl1 : 100 < nl
  · go_wp2
    go_ret
    exact ⟨rfl, HB1.out⟩
  by_cases hf1 : 100 < nf
  · go_wp2
    go_ret
    exact ⟨rfl, HB1.out⟩
  have HN8 := Lib.hid (show Dk.new 8 = (⟨List.replicate 8 zeroSec, [], -1, false⟩, 0) from rfl)
  go_wp2_with fail
  refine (new_f 8 w1).mono ?_
  rintro e w2 ⟨⟨u, rfl, hg, _⟩, hb2⟩
  rw [HN8.out] at hg ⊢
  dsimp only at hg ⊢
  obtain ⟨C2, rfl, hc2⟩ := hg.agg
  have hx := below_new w2 (Obj.cells C2 25)
  have HD2 := Lib.hid (hg.step hx)
  have HV2 := Lib.hid (dvar_new w2 hc2)
  have HT2 := Lib.hid (there_disk w2 hc2)
  have HBw2 := Lib.hid (below_chain (below_chain HB1.out hb2) hx)
  have HW2 := Lib.hid (show w.heap.size ≤ w2.heap.size by have h1 := HB1.out.size; have h2 := hb2.size; omega)
  have HCL2 := Lib.hid (hg.clear (b := w2.heap.size) (Nat.le_refl _))
  clear hg hb2 hx
  go_wp2_with fail
  refine (arm_f _ (.agg C2) _ fu.toNat (by omega) (by omega) HD2.out).mono ?_
  rintro e w3 ⟨⟨u, rfl, hg, hq⟩, hb3⟩
  obtain ⟨C3, rfl, hc3⟩ := hg.agg
  have hst := store_disk (there_below HT2.out hb3 (by simp)) hc3
  have HQ := Lib.hid (hq w2.heap.size (by simp) HCL2.out)
  have HG := Lib.hid hg
  have HB3 := Lib.hid hb3
  have HV3 := Lib.hid (dvar_put (by have := hb3.size; simp at this; omega) (there_below HT2.out hb3 (by simp)) hc3)
  have HT3 := Lib.hid (World.there_setCells (there_below HT2.out hb3 (by simp)) w2.heap.size 0 C3.toList)
  clear hg hq hb3
  obtain ⟨w4, hw4⟩ : ∃ w4, w4 = putDisk w3 w2.heap.size C3 := ⟨_, rfl⟩
  rw [← hw4] at hst HV3
  have HT4 := Lib.hid (show w4.there w2.heap.size 0 4 by rw [hw4]; exact HT3.out)
  have HD4 := Lib.hid (show DiskAt w4 (.agg C3) _ by rw [hw4]; exact HG.out.keep HQ.out (by rw [size_putDisk]; exact Nat.le_refl _) (fun q _ hq => heap_putDisk _ _ _ _ hq))
  have HB4 := Lib.hid (show Below w.heap.size w w4 by rw [hw4]; exact below_putDisk (below_chain HBw2.out HB3.out) HW2.out C3)
  clear hw4 HT3
  have h8 := set_same_nats ((w4.alloc z8b).alloc z8b)
  rw [size_alloc, size_alloc] at h8
  have HARM := Lib.hid (show Dk.arm ⟨List.replicate 8 zeroSec, [], -1, false⟩ (fu.toNat : Int) = Dk.arm ⟨List.replicate 8 zeroSec, [], -1, false⟩ (fu.toNat : Int) from rfl)
  obtain ⟨WL, hWL⟩ : ∃ WL, WL = ((w4.alloc z8b).alloc z8b).alloc z8i := ⟨_, rfl⟩
  have HBL := Lib.hid (show Below w4.heap.size w4 WL by rw [hWL]; exact (below_two _ _ _).alloc (by simp; omega) _)
  have HSL := Lib.hid (show WL.heap.size = w4.heap.size + 3 by rw [hWL]; simp)
  have HA9 := Lib.hid (show Arr WL w4.heap.size (Lib.byteCells Play.zero8) by
    have := arr_new w4 (Lib.byteCells Play.zero8) 48
    rw [z8b_cells] at this
    rw [hWL]; exact (this.step (below_new _ _)).step (below_new _ _))
  have HA10 := Lib.hid (show Arr WL (w4.heap.size + 1) (Lib.byteCells Play.zero8) by
    have := arr_new (w4.alloc z8b) (Lib.byteCells Play.zero8) 48
    rw [z8b_cells, size_alloc] at this
    rw [hWL]; exact this.step (below_new _ _))
  have HA11 := Lib.hid (show Arr WL (w4.heap.size + 1 + 1) (natC Play.none8) by
    have := arr_new ((w4.alloc z8b).alloc z8b) (natC Play.none8) 49
    rw [z8i_cells, size_alloc, size_alloc] at this
    rw [hWL]; exact this)
  have h78 : w2.heap.size < w4.heap.size := HV3.out.lt
  have HSU := Lib.hid (show Sure w w2.heap.size w4.heap.size (w4.heap.size + 1) (w4.heap.size + 1 + 1) ⟨Dk.arm ⟨List.replicate 8 zeroSec, [], -1, false⟩ (fu.toNat : Int), Play.zero8, Play.zero8, Play.none8, false⟩ C3 WL from
    ⟨hc3, HV3.out.step HBL.out, there_below HT4.out HBL.out h78, HD4.out.step HBL.out, HQ.out, HD4.out.clear (Nat.le_refl _), HD4.out.clear (by omega), HD4.out.clear (by omega), HA9.out, HA10.out, HA11.out, below_chain HB4.out HBL.out⟩)
  have HINV := Lib.hid (inv_start (fu.toNat : Int))
  have HWL := Lib.hid hWL
  have hwb : w.heap.size ≤ w2.heap.size := HW2.out
  clear hWL
  go_upto_block 0 with fail
  rw [← HWL.out]
  clear HWL
  go_cut [12, 13, 14, 15, 16, 17, 18] from 43 to 109 (fun s12 s13 s14 s15 s16 s17 s18 wx => SureEnd w w2.heap.size w4.heap.size (w4.heap.size + 1) (w4.heap.size + 1 + 1) nl wx)
  case first =>
    go_wp2_with fail
    go_loopw [12, 13] (fun dn i wr => ∃ (k : Nat) (p : Play) (C : Array Value), k ≤ nl ∧ i = .int .i64 k ∧ dn = .bool p.down ∧ Hid (Play.Inv p k) ∧ Hid (Sure w w2.heap.size w4.heap.size (w4.heap.size + 1) (w4.heap.size + 1 + 1) p C wr)) (fun _ i _ => nl - (intOf i).toNat)
    case atStart => exact ⟨0, _, C3, Nat.zero_le _, rfl, rfl, HINV, HSU⟩
    case round =>
      obtain ⟨k, p, C, hk, rfl, rfl, HI, HS⟩ := hrel
      rename World => wr
      clear HSU HINV HA9 HA10 HA11 HD4 HT4 HV3 HG HQ
      by_cases hgo : k < nl ∧ p.down = false
      · obtain ⟨hkn, hdn⟩ := hgo
        have HROW := Lib.hid (HRL.out.kept HS.out.be (Nat.le_refl _))
        obtain ⟨bl, ol, rfl, hbl, hxl⟩ := row_at HROW.out (by omega)
        obtain ⟨x, hx⟩ : ∃ x, l[k]? = some x := ⟨_, List.getElem?_eq_getElem (by rw [← HNL.out]; exact hkn)⟩
        have hra := range_acts hxl hx
        have ha0 : wr.cell? ⟨bl, ol + k * 3, none⟩ = some (.bool x.sync) := hra 0 _ rfl
        have ha1 : wr.cell? ⟨bl, ol + k * 3 + 1, none⟩ = some (.int .u8 x.at_.toNat) := hra 1 _ rfl
        have ha2 : wr.cell? ⟨bl, ol + k * 3 + 2, none⟩ = some (.int .u8 x.byte.toNat) := hra 2 _ rfl
        have HRA := Lib.hid hra
        clear hxl hx hra
        have hl := HS.out.dv.load
        rw [hdn]
        cases hsy : x.sync with
        | true =>
          rw [hsy] at ha0
          clear hsy
          have HK9 := Lib.hid (show w2.heap.size ≠ w4.heap.size ∧ w.heap.size ≤ w4.heap.size from ⟨by omega, by omega⟩)
          go_wp2_with fail
          clear hl
          refine (sync_f wr (.agg C) p.d HS.out.dk).mono ?_
          rintro e wa ⟨⟨u, rfl, hg, hq⟩, hb⟩
          obtain ⟨C5, rfl, hc5⟩ := hg.agg
          have hlt7 := HS.out.dv.lt
          have HQ7 := Lib.hid (hq _ hlt7 HS.out.c7)
          have HQ9 := Lib.hid (hq _ HS.out.a9.lt HS.out.c9)
          have HQ10 := Lib.hid (hq _ HS.out.a10.lt HS.out.c10)
          have HQ11 := Lib.hid (hq _ HS.out.a11.lt HS.out.c11)
          have hx := below_new wa (Obj.cells C5 25)
          have HSx := Lib.hid (HS.out.step (below_chain hb hx))
          have HD5 := Lib.hid (hg.step hx)
          have HV5 := Lib.hid (dvar_new wa hc5)
          have HLT := Lib.hid (show wr.heap.size ≤ wa.heap.size from hb.size)
          have hI := HI.out.sync
          have HI2 := Lib.hid hI.1
          have h09 := hI.2
          clear hg hq hb hx hI
          rcases h09 with h0 | h0
          · rw [Play.sync_ok h0] at HI2
            rw [h0]
            clear h0
            have hl10 := load_b8 HSx.out.a10.range HI.out.l2
            have ht9 := HSx.out.a9.there
            rw [Lib.byteCells_length, HI.out.l1] at ht9
            have hst9 := store_b8 ht9 HI.out.l2
            have HS9 := Lib.hid (HSx.out.arr9 p.last (by rw [HI.out.l1, HI.out.l2]) (by omega) (by omega) (by omega) (by omega))
            have ht11 := HS9.out.a11.there
            rw [show (natC p.loose).length = 8 by simp [natC, HI.out.l3]] at ht11
            have hst11 := store_i8 (l := Play.none8) ht11 rfl
            rw [z8i_cells] at hst11
            have HS11 := Lib.hid (HS9.out.arr11 Play.none8 (by rw [HI.out.l3]; rfl) (by omega) (by omega) (by omega) (by omega))
            have HV52 := Lib.hid ((HV5.out.setCells w4.heap.size 0 (Lib.byteCells p.last) (by have := HS.out.a9.lt; have := HLT.out; omega)).setCells (w4.heap.size + 1 + 1) 0 (natC Play.none8) (by have := HS.out.a11.lt; have := HLT.out; omega))
            have hl5 := HV52.out.load
            have hst7 := store_disk HS11.out.th hc5
            have HS12 := Lib.hid (HS11.out.disk hc5 ((HD5.out.setCells HQ9.out 0 (Lib.byteCells p.last)).setCells HQ11.out 0 (natC Play.none8)) HQ7.out HQ9.out HQ10.out HQ11.out (by omega) (by omega) (by omega) (by omega))
            clear ht9 ht11
            go_wp2
            go_roundw
            case rel => exact ⟨k + 1, _, C5, by omega, by go_num, rfl, HI2, Lib.hid (HS12.out.down false)⟩
            case measure => simp [intOf]; omega
          · rw [Play.sync_no h0] at HI2
            rw [h0]
            clear h0
            have hl5 := HV5.out.load
            have hst7 := store_disk HSx.out.th hc5
            have HS12 := Lib.hid (HSx.out.disk hc5 HD5.out HQ7.out HQ9.out HQ10.out HQ11.out (by omega) (by omega) (by omega) (by omega))
            go_wp2
            go_roundw
            case rel => exact ⟨k + 1, _, C5, by omega, by go_num, rfl, HI2, Lib.hid (HS12.out.down true)⟩
            case measure => simp [intOf]; omega
        | false =>
          rw [hsy] at ha0
          clear hsy
          obtain ⟨a0, hm0⟩ : ∃ a0 : Nat, (x.at_.toNat : Int) % 8 = (a0 : Int) := ⟨x.at_.toNat % 8, by omega⟩
          have ha8 : a0 < 8 := by omega
          have hx0 : (0 : Int) ≤ (x.at_.toNat : Int) := by omega
          have hx8 : x.at_.toNat < 256 := x.at_.toNat_lt
          have HM0 := Lib.hid (show x.at_.toNat % 8 = a0 by omega)
          have hkn2 : (k : Int) < nl := by omega
          have hk02 : (0 : Int) ≤ k := by omega
          have hI := HI.out.write a0 x.byte ha8 (by omega)
          have HI2 := Lib.hid hI.1
          have H09 := Lib.hid hI.2
          clear hI
          generalize hcode : (p.d.write (a0 : Int) (fill x.byte)).2 = code at *
          have HCODE := Lib.hid hcode
          clear hcode
          go_wp2_with fail
          clear hl ha0 ha1 ha2
          go_cut [17, 18] from 43 to 109 (fun s17 s18 wx => SureMid wr C (p.d.write (a0 : Int) (fill x.byte)).1 code s17 s18 wx)
          case first =>
            have HK := Lib.hid (show ∀ W, Below wr.heap.size wr W → (diskVar ⟨w2.heap.size, 0, none⟩).run Try.prog W = .ok (.agg C) W ∧ W.cell? ⟨bl, ol + k * 3 + 2, none⟩ = some (.int .u8 x.byte.toNat) from fun W hW => ⟨(HS.out.dv.step hW).load, (hW.cell (p := ⟨bl, ol + k * 3 + 2, none⟩) hbl).trans (HRA.out 2 _ rfl)⟩)
            have HDK := Lib.hid HS.out.dk
            have hb0 : Below wr.heap.size wr wr.drew := (Below.refl _ _).drew
            refine wp_region_held_drew (S := fun W => (diskVar ⟨w2.heap.size, 0, none⟩).run Try.prog W = .ok (.agg C) W ∧ W.cell? ⟨bl, ol + k * 3 + 2, none⟩ = some (.int .u8 x.byte.toNat)) (by kernel_rfl) (HK.out _ hb0) (fun hHeld => ?_)
            refine' wpAnyH_take (i := 0) (v := _) rfl (by kernel_rfl) (by kernel_rfl) (by kernel_rfl) (fun _ _ _ h => h) (Or.inl ⟨by rfl, ?hy0⟩) (by assumption) ?rest0
            case hy0 => (intro w hSw; (try dsimp only at hSw); go_simp; try with_reducible rfl)
            try simp only [Act.put, List.getElem_toArray, List.getElem_cons_zero, List.getElem_cons_succ, List.setIfInBounds_toArray, List.set_cons_zero, List.set_cons_succ]
            refine' wpAnyH_take (i := 1) (v := _) rfl (by kernel_rfl) (by kernel_rfl) (by kernel_rfl) (fun _ _ _ h => h) (Or.inl ⟨by rfl, ?hy1⟩) (by assumption) ?rest1
            case hy1 => (intro w hSw; (try dsimp only at hSw); go_simp; try with_reducible rfl)
            try simp only [Act.put, List.getElem_toArray, List.getElem_cons_zero, List.getElem_cons_succ, List.setIfInBounds_toArray, List.set_cons_zero, List.set_cons_succ]
            refine' wpAnyH_take (i := 2) (v := _) rfl (by kernel_rfl) (by kernel_rfl) (by kernel_rfl) (fun _ _ _ h => h) (Or.inl ⟨by rfl, ?hy2⟩) (by assumption) ?rest2
            case hy2 => (intro w hSw; (try dsimp only at hSw); go_simp; try with_reducible rfl)
            try simp only [Act.put, List.getElem_toArray, List.getElem_cons_zero, List.getElem_cons_succ, List.setIfInBounds_toArray, List.set_cons_zero, List.set_cons_succ]
            refine' wpAnyH_take (i := 3) (v := _) rfl (by kernel_rfl) (by kernel_rfl) (by kernel_rfl) (fun _ _ _ h => h) (Or.inl ⟨by rfl, ?hy3⟩) (by assumption) ?rest3
            case hy3 => (intro w hSw; (try dsimp only at hSw); go_simp; try with_reducible rfl)
            try simp only [Act.put, List.getElem_toArray, List.getElem_cons_zero, List.getElem_cons_succ, List.setIfInBounds_toArray, List.set_cons_zero, List.set_cons_succ]
            refine' wpAnyH_take (i := 4) (v := _) rfl (by kernel_rfl) (by kernel_rfl) (by kernel_rfl) (fun _ _ _ h => h) (Or.inl ⟨by rfl, ?hy4⟩) (by assumption) ?rest4
            case hy4 => (intro w hSw; (try dsimp only at hSw); go_simp; try with_reducible rfl)
            try simp only [Act.put, List.getElem_toArray, List.getElem_cons_zero, List.getElem_cons_succ, List.setIfInBounds_toArray, List.set_cons_zero, List.set_cons_succ]
            refine' wpAnyH_take (i := 5) (v := _) rfl (by kernel_rfl) (by kernel_rfl) (by kernel_rfl) (fun _ _ _ h => h) (Or.inl ⟨by rfl, ?hy5⟩) (by assumption) ?rest5
            case hy5 => (intro w hSw; (try dsimp only at hSw); go_simp; try with_reducible rfl)
            try simp only [Act.put, List.getElem_toArray, List.getElem_cons_zero, List.getElem_cons_succ, List.setIfInBounds_toArray, List.set_cons_zero, List.set_cons_succ]
            refine' wpAnyH_take (i := 6) (v := _) rfl (by kernel_rfl) (by kernel_rfl) (by kernel_rfl) (fun _ _ _ h => h) (Or.inl ⟨by rfl, ?hy6⟩) (by assumption) ?rest6
            case hy6 => (intro w hSw; (try dsimp only at hSw); go_simp; try with_reducible rfl)
            try simp only [Act.put, List.getElem_toArray, List.getElem_cons_zero, List.getElem_cons_succ, List.setIfInBounds_toArray, List.set_cons_zero, List.set_cons_succ]
            refine wpAnyH_ready (rs := [7, 12]) (by kernel_rfl) (by simp) (AllReadyH.cons rfl (fun K hK => ?_) (AllReadyH.cons rfl (fun K hK => ?_) AllReadyH.nil))
            · go_simp
              refine (filled_f _ x.byte).mono ?_
              rintro e w1 ⟨rfl, hb1⟩
              have hbA := hb0.trans (hb1.mono hb0.size)
              clear hb1
              refine hK.out _ _ (HK.out _ hbA) (fun hHeld => ?_)
              clear hK K
              try simp only [Act.put, List.getElem_toArray, List.getElem_cons_zero, List.getElem_cons_succ, List.setIfInBounds_toArray, List.set_cons_zero, List.set_cons_succ]
              refine wpAnyH_ready (rs := [8, 12]) (by kernel_rfl) (by simp) (AllReadyH.cons rfl (fun K hK => ?_) (AllReadyH.cons rfl (fun K hK => ?_) AllReadyH.nil))
              · go_simp
                refine (write_f _ (.agg C) p.d a0 (fill x.byte) (HDK.out.kept hbA (Nat.le_refl _))).mono ?_
                rintro e w2' ⟨⟨u, rfl, hg, hq⟩, hb2⟩
                rw [HCODE.out]
                obtain ⟨C5, rfl, hc5⟩ := hg.agg
                have hbB := hbA.trans (hb2.mono hbA.size)
                have HG := Lib.hid hg
                have HQ := Lib.hid (show ∀ b, b < wr.heap.size → Clear b (.agg C) → Clear b (.agg C5) from fun b h1 h2 => hq b (by have := hbA.size; omega) h2)
                clear hg hq hb2
                refine hK.out _ _ (HK.out _ hbB) (fun hHeld => ?_)
                clear hK K
                try simp only [Act.put, List.getElem_toArray, List.getElem_cons_zero, List.getElem_cons_succ, List.setIfInBounds_toArray, List.set_cons_zero, List.set_cons_succ]
                refine' wpAnyH_take (i := 9) (v := _) rfl (by kernel_rfl) (by kernel_rfl) (by kernel_rfl) (fun _ _ _ h => h) (Or.inl ⟨by rfl, ?hyA9⟩) (by assumption) ?restA9
                case hyA9 => (intro w hSw; (try dsimp only at hSw); go_simp; try with_reducible rfl)
                try simp only [Act.put, List.getElem_toArray, List.getElem_cons_zero, List.getElem_cons_succ, List.setIfInBounds_toArray, List.set_cons_zero, List.set_cons_succ]
                refine' wpAnyH_take (i := 10) (v := _) rfl (by kernel_rfl) (by kernel_rfl) (by kernel_rfl) (fun _ _ _ h => h) (Or.inl ⟨by rfl, ?hyA10⟩) (by assumption) ?restA10
                case hyA10 => (intro w hSw; (try dsimp only at hSw); go_simp; try with_reducible rfl)
                try simp only [Act.put, List.getElem_toArray, List.getElem_cons_zero, List.getElem_cons_succ, List.setIfInBounds_toArray, List.set_cons_zero, List.set_cons_succ]
                refine' wpAnyH_take (i := 11) (v := _) rfl (by kernel_rfl) (by kernel_rfl) (by kernel_rfl) (fun _ _ _ h => h) (Or.inl ⟨by rfl, ?hyA11⟩) (by assumption) ?restA11
                case hyA11 => (intro w hSw; (try dsimp only at hSw); go_simp; try with_reducible rfl)
                try simp only [Act.put, List.getElem_toArray, List.getElem_cons_zero, List.getElem_cons_succ, List.setIfInBounds_toArray, List.set_cons_zero, List.set_cons_succ]
                refine wpAnyH_ready (rs := [12]) (by kernel_rfl) (by simp) (AllReadyH.cons rfl (fun K hK => ?_) AllReadyH.nil)
                go_simp
                have hbC := hbB.alloc hbB.size zD
                refine hK.out _ _ (HK.out _ hbC) (fun hHeld => ?_)
                clear hK K
                try simp only [Act.put, List.getElem_toArray, List.getElem_cons_zero, List.getElem_cons_succ, List.setIfInBounds_toArray, List.set_cons_zero, List.set_cons_succ]
                refine wpAnyH_ready (rs := [13]) (by kernel_rfl) (by simp) (AllReadyH.cons rfl (fun K hK => ?_) AllReadyH.nil)
                go_simp
                have hbD := hbB.alloc hbB.size (Obj.cells C5 25)
                refine hK.out _ _ (HK.out _ hbD) (fun hHeld => ?_)
                clear hK K
                try simp only [Act.put, List.getElem_toArray, List.getElem_cons_zero, List.getElem_cons_succ, List.setIfInBounds_toArray, List.set_cons_zero, List.set_cons_succ]
                refine' wpAnyH_take (i := 14) (v := _) rfl (by kernel_rfl) (by kernel_rfl) (by kernel_rfl) (fun _ _ _ h => h) (Or.inl ⟨by rfl, ?hyA14⟩) (by assumption) ?restA14
                case hyA14 => (intro w hSw; (try dsimp only at hSw); go_simp; try with_reducible rfl)
                try simp only [Act.put, List.getElem_toArray, List.getElem_cons_zero, List.getElem_cons_succ, List.setIfInBounds_toArray, List.set_cons_zero, List.set_cons_succ]
                refine wpAnyH_done (by kernel_rfl) ?_ _
                clear hHeld
                go_wp2_with fail
                go_meet
                exact ⟨w2'.heap.size, C5, rfl, rfl, hc5, dvar_new w2' hc5, HG.out.step (below_new _ _), HQ.out, hbD, hbB.size⟩
              · go_simp
                have hbB := hbA.alloc hbA.size zD
                refine hK.out _ _ (HK.out _ hbB) (fun hHeld => ?_)
                clear hK K
                try simp only [Act.put, List.getElem_toArray, List.getElem_cons_zero, List.getElem_cons_succ, List.setIfInBounds_toArray, List.set_cons_zero, List.set_cons_succ]
                refine wpAnyH_ready (rs := [8]) (by kernel_rfl) (by simp) (AllReadyH.cons rfl (fun K hK => ?_) AllReadyH.nil)
                go_simp
                refine (write_f _ (.agg C) p.d a0 (fill x.byte) (HDK.out.kept hbB (Nat.le_refl _))).mono ?_
                rintro e w2' ⟨⟨u, rfl, hg, hq⟩, hb2⟩
                rw [HCODE.out]
                obtain ⟨C5, rfl, hc5⟩ := hg.agg
                have HT := Lib.hid (there_below (there_disk w1 zD4) hb2 (by simp))
                have hbC := hbB.trans (hb2.mono hbB.size)
                have HG := Lib.hid hg
                have HQ := Lib.hid hq
                have HZ := Lib.hid (show w1.heap.size < w2'.heap.size by have := hb2.size; simp at this; omega)
                clear hg hq hb2
                refine hK.out _ _ (HK.out _ hbC) (fun hHeld => ?_)
                clear hK K
                try simp only [Act.put, List.getElem_toArray, List.getElem_cons_zero, List.getElem_cons_succ, List.setIfInBounds_toArray, List.set_cons_zero, List.set_cons_succ]
                refine' wpAnyH_take (i := 9) (v := _) rfl (by kernel_rfl) (by kernel_rfl) (by kernel_rfl) (fun _ _ _ h => h) (Or.inl ⟨by rfl, ?hyB9⟩) (by assumption) ?restB9
                case hyB9 => (intro w hSw; (try dsimp only at hSw); go_simp; try with_reducible rfl)
                try simp only [Act.put, List.getElem_toArray, List.getElem_cons_zero, List.getElem_cons_succ, List.setIfInBounds_toArray, List.set_cons_zero, List.set_cons_succ]
                refine' wpAnyH_take (i := 10) (v := _) rfl (by kernel_rfl) (by kernel_rfl) (by kernel_rfl) (fun _ _ _ h => h) (Or.inl ⟨by rfl, ?hyB10⟩) (by assumption) ?restB10
                case hyB10 => (intro w hSw; (try dsimp only at hSw); go_simp; try with_reducible rfl)
                try simp only [Act.put, List.getElem_toArray, List.getElem_cons_zero, List.getElem_cons_succ, List.setIfInBounds_toArray, List.set_cons_zero, List.set_cons_succ]
                refine' wpAnyH_take (i := 11) (v := _) rfl (by kernel_rfl) (by kernel_rfl) (by kernel_rfl) (fun _ _ _ h => h) (Or.inl ⟨by rfl, ?hyB11⟩) (by assumption) ?restB11
                case hyB11 => (intro w hSw; (try dsimp only at hSw); go_simp; try with_reducible rfl)
                try simp only [Act.put, List.getElem_toArray, List.getElem_cons_zero, List.getElem_cons_succ, List.setIfInBounds_toArray, List.set_cons_zero, List.set_cons_succ]
                have hst := store_disk HT.out hc5
                refine wpAnyH_ready (rs := [13]) (by kernel_rfl) (by simp) (AllReadyH.cons rfl (fun K hK => ?_) AllReadyH.nil)
                go_simp
                have hbD := below_putDisk hbC hbA.size C5
                refine hK.out _ _ (HK.out _ hbD) (fun hHeld => ?_)
                clear hK K
                try simp only [Act.put, List.getElem_toArray, List.getElem_cons_zero, List.getElem_cons_succ, List.setIfInBounds_toArray, List.set_cons_zero, List.set_cons_succ]
                refine' wpAnyH_take (i := 14) (v := _) rfl (by kernel_rfl) (by kernel_rfl) (by kernel_rfl) (fun _ _ _ h => h) (Or.inl ⟨by rfl, ?hyB14⟩) (by assumption) ?restB14
                case hyB14 => (intro w hSw; (try dsimp only at hSw); go_simp; try with_reducible rfl)
                try simp only [Act.put, List.getElem_toArray, List.getElem_cons_zero, List.getElem_cons_succ, List.setIfInBounds_toArray, List.set_cons_zero, List.set_cons_succ]
                refine wpAnyH_done (by kernel_rfl) ?_ _
                clear hHeld
                go_wp2_with fail
                go_meet
                exact mid_put HDK.out hc5 HZ.out HT.out HG.out (fun b _ _ h h2 => HQ.out b (by have := hbA.size; simp; omega) h2) hbC hbA.size
            · go_simp
              have hbA := hb0.alloc hb0.size zD
              refine hK.out _ _ (HK.out _ hbA) (fun hHeld => ?_)
              clear hK K
              try simp only [Act.put, List.getElem_toArray, List.getElem_cons_zero, List.getElem_cons_succ, List.setIfInBounds_toArray, List.set_cons_zero, List.set_cons_succ]
              refine wpAnyH_ready (rs := [7]) (by kernel_rfl) (by simp) (AllReadyH.cons rfl (fun K hK => ?_) AllReadyH.nil)
              go_simp
              refine (filled_f _ x.byte).mono ?_
              rintro e w1 ⟨rfl, hb1⟩
              have HT1 := Lib.hid (show w1.there wr.heap.size 0 4 from there_below (there_disk wr.drew zD4) hb1 (by simp))
              have HZ1 := Lib.hid (show wr.heap.size < w1.heap.size by have := hb1.size; simp at this; omega)
              have hbB := hbA.trans (hb1.mono hbA.size)
              clear hb1
              refine hK.out _ _ (HK.out _ hbB) (fun hHeld => ?_)
              clear hK K
              try simp only [Act.put, List.getElem_toArray, List.getElem_cons_zero, List.getElem_cons_succ, List.setIfInBounds_toArray, List.set_cons_zero, List.set_cons_succ]
              refine wpAnyH_ready (rs := [8]) (by kernel_rfl) (by simp) (AllReadyH.cons rfl (fun K hK => ?_) AllReadyH.nil)
              go_simp
              refine (write_f _ (.agg C) p.d a0 (fill x.byte) (HDK.out.kept hbB (Nat.le_refl _))).mono ?_
              rintro e w2' ⟨⟨u, rfl, hg, hq⟩, hb2⟩
              rw [HCODE.out]
              obtain ⟨C5, rfl, hc5⟩ := hg.agg
              have HT := Lib.hid (there_below HT1.out hb2 HZ1.out)
              have hbC := hbB.trans (hb2.mono hbB.size)
              have HG := Lib.hid hg
              have HQ := Lib.hid hq
              have HZ := Lib.hid (show wr.heap.size < w2'.heap.size by have := hb2.size; have := HZ1.out; omega)
              clear hg hq hb2
              refine hK.out _ _ (HK.out _ hbC) (fun hHeld => ?_)
              clear hK K
              try simp only [Act.put, List.getElem_toArray, List.getElem_cons_zero, List.getElem_cons_succ, List.setIfInBounds_toArray, List.set_cons_zero, List.set_cons_succ]
              refine' wpAnyH_take (i := 9) (v := _) rfl (by kernel_rfl) (by kernel_rfl) (by kernel_rfl) (fun _ _ _ h => h) (Or.inl ⟨by rfl, ?hyC9⟩) (by assumption) ?restC9
              case hyC9 => (intro w hSw; (try dsimp only at hSw); go_simp; try with_reducible rfl)
              try simp only [Act.put, List.getElem_toArray, List.getElem_cons_zero, List.getElem_cons_succ, List.setIfInBounds_toArray, List.set_cons_zero, List.set_cons_succ]
              refine' wpAnyH_take (i := 10) (v := _) rfl (by kernel_rfl) (by kernel_rfl) (by kernel_rfl) (fun _ _ _ h => h) (Or.inl ⟨by rfl, ?hyC10⟩) (by assumption) ?restC10
              case hyC10 => (intro w hSw; (try dsimp only at hSw); go_simp; try with_reducible rfl)
              try simp only [Act.put, List.getElem_toArray, List.getElem_cons_zero, List.getElem_cons_succ, List.setIfInBounds_toArray, List.set_cons_zero, List.set_cons_succ]
              refine' wpAnyH_take (i := 11) (v := _) rfl (by kernel_rfl) (by kernel_rfl) (by kernel_rfl) (fun _ _ _ h => h) (Or.inl ⟨by rfl, ?hyC11⟩) (by assumption) ?restC11
              case hyC11 => (intro w hSw; (try dsimp only at hSw); go_simp; try with_reducible rfl)
              try simp only [Act.put, List.getElem_toArray, List.getElem_cons_zero, List.getElem_cons_succ, List.setIfInBounds_toArray, List.set_cons_zero, List.set_cons_succ]
              have hst := store_disk HT.out hc5
              refine wpAnyH_ready (rs := [13]) (by kernel_rfl) (by simp) (AllReadyH.cons rfl (fun K hK => ?_) AllReadyH.nil)
              go_simp
              have hbD := below_putDisk hbC (Nat.le_refl _) C5
              refine hK.out _ _ (HK.out _ hbD) (fun hHeld => ?_)
              clear hK K
              try simp only [Act.put, List.getElem_toArray, List.getElem_cons_zero, List.getElem_cons_succ, List.setIfInBounds_toArray, List.set_cons_zero, List.set_cons_succ]
              refine' wpAnyH_take (i := 14) (v := _) rfl (by kernel_rfl) (by kernel_rfl) (by kernel_rfl) (fun _ _ _ h => h) (Or.inl ⟨by rfl, ?hyC14⟩) (by assumption) ?restC14
              case hyC14 => (intro w hSw; (try dsimp only at hSw); go_simp; try with_reducible rfl)
              try simp only [Act.put, List.getElem_toArray, List.getElem_cons_zero, List.getElem_cons_succ, List.setIfInBounds_toArray, List.set_cons_zero, List.set_cons_succ]
              refine wpAnyH_done (by kernel_rfl) ?_ _
              clear hHeld
              go_wp2_with fail
              go_meet
              exact mid_put HDK.out hc5 HZ.out HT.out HG.out (fun b _ _ h h2 => HQ.out b (by have := HZ1.out; omega) h2) hbC (Nat.le_refl _)
          case rest =>
            obtain ⟨b17, C5, rfl, rfl, hc5, hv5, hd5, hq5, hb5, hle5⟩ := hcut
            have HSx := Lib.hid (HS.out.step hb5)
            have HD5 := Lib.hid hd5
            have HV5 := Lib.hid hv5
            have HQ7 := Lib.hid (hq5 _ HS.out.dv.lt HS.out.c7)
            have HQ9 := Lib.hid (hq5 _ HS.out.a9.lt HS.out.c9)
            have HQ10 := Lib.hid (hq5 _ HS.out.a10.lt HS.out.c10)
            have HQ11 := Lib.hid (hq5 _ HS.out.a11.lt HS.out.c11)
            have ha2 := (hb5.cell (p := ⟨bl, ol + k * 3 + 2, none⟩) hbl).trans (HRA.out 2 (.int .u8 x.byte.toNat) rfl)
            have hl10' := HS.out.a10.lt
            have hl11' := HS.out.a11.lt
            have h09 := H09.out
            clear hd5 hv5 hq5 hb5
            rcases h09 with h0 | h0
            · subst h0
              have hI2 := HI2.out
              rw [Play.write_ok HCODE.out] at hI2
              have hI2 := hI2
              have HI3 := Lib.hid hI2
              clear hI2
              obtain ⟨n0, hn0⟩ : ∃ n0, p.loose.getD a0 0 = n0 := ⟨_, rfl⟩
              have hnk : n0 ≤ k := by rw [← hn0]; exact HI.out.le a0 ha8
              have HN0 := Lib.hid hn0
              clear hn0
              have HL2 := Lib.hid (show a0 < p.last.length by rw [HI.out.l2]; exact ha8)
              have HL3 := Lib.hid (show a0 < p.loose.length by rw [HI.out.l3]; exact ha8)
              obtain ⟨v10, hv10⟩ : ∃ v10, (Lib.byteCells p.last)[a0]? = some v10 := ⟨_, List.getElem?_eq_getElem (by rw [Lib.byteCells_length]; exact HL2.out)⟩
              have hc10 := HSx.out.a10.cell hv10
              have hf10 := HSx.out.a10.free (j := a0) (by rw [Lib.byteCells_length]; exact HL2.out)
              have HS10 := Lib.hid (HSx.out.cell10 a0 x.byte HL2.out (by omega) (by omega) (by omega) (by omega))
              have hc11 : wc.cell? ⟨w4.heap.size + 1 + 1, a0, none⟩ = some (.int .i64 (n0 : Int)) := HSx.out.a11.cell (by
                rw [natC, List.getElem?_map, List.getElem?_eq_getElem HL3.out]
                have := HN0.out
                rw [List.getD_eq_getElem?_getD, List.getElem?_eq_getElem HL3.out] at this
                have e1 : p.loose[a0]'HL3.out = n0 := this
                show some (Value.int .i64 ((p.loose[a0]'HL3.out : Nat) : Int)) = _
                rw [e1])
              have hf11 := HSx.out.a11.free (j := a0) (by simp [natC]; exact HL3.out)
              have HS11 := Lib.hid (HS10.out.cell11 a0 (n0 + 1) HL3.out (by omega) (by omega) (by omega) (by omega))
              have HD11 := Lib.hid ((HD5.out.setCell HQ10.out a0 (.int .u8 x.byte.toNat)).setCell HQ11.out a0 (.int .i64 ((n0 + 1 : Nat) : Int)))
              have HV11 := Lib.hid ((HV5.out.setCell (w4.heap.size + 1) a0 (.int .u8 x.byte.toNat) (by omega)).setCell (w4.heap.size + 1 + 1) a0 (.int .i64 ((n0 + 1 : Nat) : Int)) (by omega))
              have HS12 := Lib.hid (HS11.out.disk hc5 HD11.out HQ7.out HQ9.out HQ10.out HQ11.out (by omega) (by omega) (by omega) (by omega))
              have hl5 := HV11.out.load
              have hst7 := store_disk HS11.out.th hc5
              have hcast : ((n0 + 1 : Nat) : Int) = (n0 : Int) + 1 := by omega
              have hS12 := HS12.out
              rw [hcast] at hl5 hst7 hS12
              have HS13 := Lib.hid hS12
              have hI3 := HI3.out
              rw [HN0.out] at hI3
              have HI4 := Lib.hid hI3
              clear hS12 hI3
              have ha8i : (a0 : Int) < 8 := by omega
              have ha0i : (0 : Int) ≤ a0 := by omega
              clear hv10 hcast
              go_wp2
              go_roundw
              case rel => exact ⟨k + 1, _, C5, by omega, by go_num, rfl, HI4, Lib.hid (HS13.out.down false)⟩
              case measure => simp [intOf]; omega
            · subst h0
              have hI2 := HI2.out
              rw [Play.write_no HCODE.out] at hI2
              have HI3 := Lib.hid hI2
              clear hI2
              have hl5 := HV5.out.load
              have hst7 := store_disk HSx.out.th hc5
              have HS12 := Lib.hid (HSx.out.disk hc5 HD5.out HQ7.out HQ9.out HQ10.out HQ11.out (by omega) (by omega) (by omega) (by omega))
              go_wp2
              go_roundw
              case rel => exact ⟨k + 1, _, C5, by omega, by go_num, rfl, HI3, Lib.hid (HS12.out.down true)⟩
              case measure => simp [intOf]; omega
      · have HGO := Lib.hid (show k < nl → p.down = true from fun h => by cases hd : p.down with | true => rfl | false => exact absurd ⟨h, hd⟩ hgo)
        clear hgo
        by_cases hkn : k < nl
        · rw [HGO.out hkn]
          go_wp2_with fail
          go_meet
          exact ⟨k, p, C, hk, HI, HS⟩
        · go_wp2_with fail
          go_meet
          exact ⟨k, p, C, hk, HI, HS⟩
  case rest =>
    obtain ⟨k, p, C, hk, HI, HS⟩ := hcut
    clear HSU HINV HA9 HA10 HA11 HD4 HT4 HV3 HG HQ
    have hl := HS.out.dv.load
    have HF := Lib.hid (HF0.out.kept HS.out.be (Nat.le_refl _))
    go_wp2_with fail
    clear hl
    refine (fall_f wc (.agg C) (.slice AF nf cf) p.d fates (-1) (by omega) (by omega) (by have := HNF.out; omega) HS.out.dk HF.out).mono ?_
    rintro e w5 ⟨⟨u, rfl, hg, hq⟩, hb⟩
    have hfl := fallen HI.out fates
    rw [hfl.1]
    have HFL := Lib.hid hfl.2
    clear hfl
    obtain ⟨C5, rfl, hc5⟩ := hg.agg
    have HS5 := Lib.hid (HS.out.step hb)
    have HQ7 := Lib.hid (hq _ HS.out.dv.lt HS.out.c7)
    have HQ9 := Lib.hid (hq _ HS.out.a9.lt HS.out.c9)
    have HQ10 := Lib.hid (hq _ HS.out.a10.lt HS.out.c10)
    have HQ11 := Lib.hid (hq _ HS.out.a11.lt HS.out.c11)
    have hst7 := store_disk HS5.out.th hc5
    have HS6 := Lib.hid (HS5.out.disk hc5 hg HQ7.out HQ9.out HQ10.out HQ11.out (by omega) (by omega) (by omega) hwb)
    clear hg hq hb
    generalize (p.d.fall fates (-1)).1 = x at *
    have HL1 := Lib.hid (⟨HI.out.l1, HI.out.l2, HI.out.l3⟩ : p.sure.length = 8 ∧ p.last.length = 8 ∧ p.loose.length = 8)
    go_wp2_with fail
    go_loopw [20] (fun i wr => ∃ a : Nat, a ≤ 8 ∧ i = .int .i64 a ∧ Hid (Sure w w2.heap.size w4.heap.size (w4.heap.size + 1) (w4.heap.size + 1 + 1) { p with d := x } C5 wr)) (fun i _ => 8 - (intOf i).toNat)
    case atStart => exact ⟨0, by omega, rfl, HS6⟩
    case round =>
      obtain ⟨a, ha, rfl, HSr⟩ := hrel
      rename World => wr
      have hl := HSr.out.dv.load
      by_cases ha8 : a < 8
      · obtain ⟨s, hs1, hs2, hs3⟩ := HFL.out a ha8
        have HS1 := Lib.hid hs1
        have HS2 := Lib.hid hs2
        have HS3 := Lib.hid hs3
        clear hs1 hs2 hs3
        have ha8i : (a : Int) < 8 := by omega
        have ha0i : (0 : Int) ≤ a := by omega
        go_wp2_with fail
        clear hl
        refine (read_f wr (.agg C5) x a HSr.out.dk).mono ?_
        rintro e w7 ⟨rfl, hb7⟩
        rw [HS1.out]
        dsimp only
        obtain ⟨W7, hW7⟩ : ∃ W7, W7 = w7.alloc (secO s) := ⟨_, rfl⟩
        have hx7 : Below wr.heap.size wr W7 := by rw [hW7]; exact below_chain hb7 (below_new w7 _)
        have HSV := Lib.hid (show SVar W7 w7.heap.size s by rw [hW7]; exact svar_new w7 s)
        have HSW := Lib.hid (HSr.out.step hx7)
        have HW7 := Lib.hid hW7
        clear hW7 hb7 hx7
        obtain ⟨n0, hn0⟩ : ∃ n0, p.loose.getD a 0 = n0 := ⟨_, rfl⟩
        have HN0 := Lib.hid hn0
        obtain ⟨lb, hlb⟩ : ∃ lb, p.last.getD a 0 = lb := ⟨_, rfl⟩
        obtain ⟨sb, hsb⟩ : ∃ sb, p.sure.getD a 0 = sb := ⟨_, rfl⟩
        have HNB := Lib.hid (show n0 ≤ k by rw [← hn0]; exact HI.out.le a ha8)
        have HS2b := Lib.hid (show n0 = 0 → s = fill sb by rw [← hn0, ← hsb]; exact HS2.out)
        have HS3b := Lib.hid (show n0 = 1 → ∃ k, s = Dk.torn (fill lb) (fill sb) k by rw [← hn0, ← hsb, ← hlb]; exact HS3.out)
        have HK := Lib.hid (show ∀ W, Below W7.heap.size W7 W → (secVar ⟨w7.heap.size, 0, none⟩).run Try.prog W = .ok (secV s) W ∧ W.cell? ⟨w4.heap.size + 1 + 1, a, none⟩ = some (.int .i64 (n0 : Int)) ∧ W.cell? ⟨w4.heap.size, a, none⟩ = some (.int .u8 sb.toNat) ∧ W.cell? ⟨w4.heap.size + 1, a, none⟩ = some (.int .u8 lb.toNat) ∧ W.rangeAt w7.heap.size 0 (secC s) from fun W hW => by
          refine ⟨(HSV.out.step hW).load, (HSW.out.step hW).a11.cell ?_, (HSW.out.step hW).a9.cell ?_, (HSW.out.step hW).a10.cell ?_, (HSV.out.step hW).range⟩
          · rw [← hn0]; exact nat_at (by rw [HL1.out.2.2]; exact ha8)
          · rw [← hsb]; exact byte_at (by rw [HL1.out.1]; exact ha8)
          · rw [← hlb]; exact byte_at (by rw [HL1.out.2.1]; exact ha8))
        clear hn0 hlb hsb
        have hb0 : Below W7.heap.size W7 W7.drew := (Below.refl _ _).drew
        go_wp2_with fail
        rw [← HW7.out]
        clear HW7
        by_cases hz : n0 = 0
        · have HZ := Lib.hid hz
          have hs := HS2b.out hz
          subst hs
          have hzz : ((n0 : Int) == 0) = true := by simp [hz]
          have hz1 : ((n0 : Int) != 1) = true := by simp [hz]
          clear hz
          refine wp_region_held_drew (S := fun W => (secVar ⟨w7.heap.size, 0, none⟩).run Try.prog W = .ok (secV (fill sb)) W ∧ W.cell? ⟨w4.heap.size + 1 + 1, a, none⟩ = some (.int .i64 (n0 : Int)) ∧ W.cell? ⟨w4.heap.size, a, none⟩ = some (.int .u8 sb.toNat)) (by kernel_rfl) (let h := HK.out _ hb0; ⟨h.1, h.2.1, h.2.2.1⟩) (fun hHeld => ?_)
          refine' wpAnyH_take (i := 0) (v := _) rfl (by kernel_rfl) (by kernel_rfl) (by kernel_rfl) (fun _ _ _ h => h) (Or.inl ⟨by rfl, ?hyZ0⟩) (by assumption) ?restZ0
          case hyZ0 => (intro w hSw; (try dsimp only at hSw); go_simp; try with_reducible rfl)
          try simp only [Act.put, List.getElem_toArray, List.getElem_cons_zero, List.getElem_cons_succ, List.setIfInBounds_toArray, List.set_cons_zero, List.set_cons_succ]
          refine' wpAnyH_take (i := 1) (v := _) rfl (by kernel_rfl) (by kernel_rfl) (by kernel_rfl) (fun _ _ _ h => h) (Or.inl ⟨by rfl, ?hyZ1⟩) (by assumption) ?restZ1
          case hyZ1 => (intro w hSw; (try dsimp only at hSw); go_simp; try with_reducible rfl)
          try simp only [Act.put, List.getElem_toArray, List.getElem_cons_zero, List.getElem_cons_succ, List.setIfInBounds_toArray, List.set_cons_zero, List.set_cons_succ]
          refine' wpAnyH_take (i := 2) (v := _) rfl (by kernel_rfl) (by kernel_rfl) (by kernel_rfl) (fun _ _ _ h => h) (Or.inl ⟨by rfl, ?hyZ2⟩) (by assumption) ?restZ2
          case hyZ2 => (intro w hSw; (try dsimp only at hSw); go_simp; try with_reducible rfl)
          try simp only [Act.put, List.getElem_toArray, List.getElem_cons_zero, List.getElem_cons_succ, List.setIfInBounds_toArray, List.set_cons_zero, List.set_cons_succ]
          refine' wpAnyH_take (i := 3) (v := _) rfl (by kernel_rfl) (by kernel_rfl) (by kernel_rfl) (fun _ _ _ h => h) (Or.inl ⟨by rfl, ?hyZ3⟩) (by assumption) ?restZ3
          case hyZ3 => (intro w hSw; (try dsimp only at hSw); go_simp; try with_reducible rfl)
          try simp only [Act.put, List.getElem_toArray, List.getElem_cons_zero, List.getElem_cons_succ, List.setIfInBounds_toArray, List.set_cons_zero, List.set_cons_succ]
          refine' wpAnyH_take (i := 4) (v := _) rfl (by kernel_rfl) (by kernel_rfl) (by kernel_rfl) (fun _ _ _ h => h) (Or.inl ⟨by rfl, ?hyZ4⟩) (by assumption) ?restZ4
          case hyZ4 => (intro w hSw; (try dsimp only at hSw); go_simp; try with_reducible rfl)
          try simp only [Act.put, List.getElem_toArray, List.getElem_cons_zero, List.getElem_cons_succ, List.setIfInBounds_toArray, List.set_cons_zero, List.set_cons_succ]
          refine' wpAnyH_take (i := 5) (v := _) rfl (by kernel_rfl) (by kernel_rfl) (by kernel_rfl) (fun _ _ _ h => h) (Or.inl ⟨by rfl, ?hyZ5⟩) (by assumption) ?restZ5
          case hyZ5 => (intro w hSw; (try dsimp only at hSw); go_simp; try with_reducible rfl)
          try simp only [Act.put, List.getElem_toArray, List.getElem_cons_zero, List.getElem_cons_succ, List.setIfInBounds_toArray, List.set_cons_zero, List.set_cons_succ]
          refine' wpAnyH_take (i := 6) (v := _) rfl (by kernel_rfl) (by kernel_rfl) (by kernel_rfl) (fun _ _ _ h => h) (Or.inl ⟨by rfl, ?hyZ6⟩) (by assumption) ?restZ6
          case hyZ6 => (intro w hSw; (try dsimp only at hSw); go_simp; try with_reducible rfl)
          try simp only [Act.put, List.getElem_toArray, List.getElem_cons_zero, List.getElem_cons_succ, List.setIfInBounds_toArray, List.set_cons_zero, List.set_cons_succ]
          refine' wpAnyH_take (i := 7) (v := _) rfl (by kernel_rfl) (by kernel_rfl) (by kernel_rfl) (fun _ _ _ h => h) (Or.inl ⟨by rfl, ?hyZ7⟩) (by assumption) ?restZ7
          case hyZ7 => (intro w hSw; (try dsimp only at hSw); go_simp; try with_reducible rfl)
          try simp only [Act.put, List.getElem_toArray, List.getElem_cons_zero, List.getElem_cons_succ, List.setIfInBounds_toArray, List.set_cons_zero, List.set_cons_succ]
          refine' wpAnyH_take (i := 8) (v := _) rfl (by kernel_rfl) (by kernel_rfl) (by kernel_rfl) (fun _ _ _ h => h) (Or.inl ⟨by rfl, ?hyZ8⟩) (by assumption) ?restZ8
          case hyZ8 => (intro w hSw; (try dsimp only at hSw); go_simp; try with_reducible rfl)
          try simp only [Act.put, List.getElem_toArray, List.getElem_cons_zero, List.getElem_cons_succ, List.setIfInBounds_toArray, List.set_cons_zero, List.set_cons_succ]
          refine' wpAnyH_take (i := 9) (v := _) rfl (by kernel_rfl) (by kernel_rfl) (by kernel_rfl) (fun _ _ _ h => h) (Or.inl ⟨by rfl, ?hyZ9⟩) (by assumption) ?restZ9
          case hyZ9 => (intro w hSw; (try dsimp only at hSw); go_simp; try with_reducible rfl)
          try simp only [Act.put, List.getElem_toArray, List.getElem_cons_zero, List.getElem_cons_succ, List.setIfInBounds_toArray, List.set_cons_zero, List.set_cons_succ]
          refine' wpAnyH_take (i := 10) (v := _) rfl (by kernel_rfl) (by kernel_rfl) (by kernel_rfl) (fun _ _ _ h => h) (Or.inl ⟨by rfl, ?hyZ10⟩) (by assumption) ?restZ10
          case hyZ10 => (intro w hSw; (try dsimp only at hSw); go_simp; try with_reducible rfl)
          try simp only [Act.put, List.getElem_toArray, List.getElem_cons_zero, List.getElem_cons_succ, List.setIfInBounds_toArray, List.set_cons_zero, List.set_cons_succ]
          refine' wpAnyH_take (i := 11) (v := _) rfl (by kernel_rfl) (by kernel_rfl) (by kernel_rfl) (fun _ _ _ h => h) (Or.inl ⟨by rfl, ?hyZ11⟩) (by assumption) ?restZ11
          case hyZ11 => (intro w hSw; (try dsimp only at hSw); go_simp; try with_reducible rfl)
          try simp only [Act.put, List.getElem_toArray, List.getElem_cons_zero, List.getElem_cons_succ, List.setIfInBounds_toArray, List.set_cons_zero, List.set_cons_succ]
          refine wpAnyH_ready (rs := [12]) (by kernel_rfl) (by simp) (AllReadyH.cons rfl (fun K hK => ?_) AllReadyH.nil)
          go_simp
          refine (filled_f _ sb).mono ?_
          rintro e w8 ⟨rfl, hb8⟩
          have hbA := hb0.trans (hb8.mono hb0.size)
          clear hb8
          refine hK.out _ _ ((let h := HK.out _ (by assumption); ⟨h.1, h.2.1, h.2.2.1⟩)) (fun hHeld => ?_)
          clear hK K
          try simp only [Act.put, List.getElem_toArray, List.getElem_cons_zero, List.getElem_cons_succ, List.setIfInBounds_toArray, List.set_cons_zero, List.set_cons_succ]
          refine' wpAnyH_take (i := 13) (v := _) rfl (by kernel_rfl) (by kernel_rfl) (by kernel_rfl) (fun _ _ _ h => h) (Or.inl ⟨by rfl, ?hyZ13⟩) (by assumption) ?restZ13
          case hyZ13 => (intro w hSw; (try dsimp only at hSw); go_simp; try with_reducible rfl)
          try simp only [Act.put, List.getElem_toArray, List.getElem_cons_zero, List.getElem_cons_succ, List.setIfInBounds_toArray, List.set_cons_zero, List.set_cons_succ]
          refine' wpAnyH_take (i := 14) (v := _) rfl (by kernel_rfl) (by kernel_rfl) (by kernel_rfl) (fun _ _ _ h => h) (Or.inl ⟨by rfl, ?hyZ14⟩) (by assumption) ?restZ14
          case hyZ14 => (intro w hSw; (try dsimp only at hSw); go_simp; try with_reducible rfl)
          try simp only [Act.put, List.getElem_toArray, List.getElem_cons_zero, List.getElem_cons_succ, List.setIfInBounds_toArray, List.set_cons_zero, List.set_cons_succ]
          refine' wpAnyH_take (i := 15) (v := _) rfl (by kernel_rfl) (by kernel_rfl) (by kernel_rfl) (fun _ _ _ h => h) (Or.inl ⟨by rfl, ?hyZ15⟩) (by assumption) ?restZ15
          case hyZ15 => (intro w hSw; (try dsimp only at hSw); go_simp; try with_reducible rfl)
          try simp only [Act.put, List.getElem_toArray, List.getElem_cons_zero, List.getElem_cons_succ, List.setIfInBounds_toArray, List.set_cons_zero, List.set_cons_succ]
          refine wpAnyH_done (by kernel_rfl) ?_ _
          clear hHeld
          have hc11 := (HK.out _ hbA).2.1
          go_wp2
          go_roundw
          case rel => exact ⟨a + 1, by omega, by go_num, Lib.hid (HSW.out.step hbA)⟩
          case measure => simp [intOf]; omega
        · have HZ := Lib.hid hz
          have hzz : ((n0 : Int) == 0) = false := by simp [hz]
          refine wp_region_held_drew (S := fun W => (secVar ⟨w7.heap.size, 0, none⟩).run Try.prog W = .ok (secV s) W ∧ W.cell? ⟨w4.heap.size + 1 + 1, a, none⟩ = some (.int .i64 (n0 : Int)) ∧ W.cell? ⟨w4.heap.size, a, none⟩ = some (.int .u8 sb.toNat)) (by kernel_rfl) (let h := HK.out _ hb0; ⟨h.1, h.2.1, h.2.2.1⟩) (fun hHeld => ?_)
          refine' wpAnyH_take (i := 0) (v := _) rfl (by kernel_rfl) (by kernel_rfl) (by kernel_rfl) (fun _ _ _ h => h) (Or.inl ⟨by rfl, ?hyN0⟩) (by assumption) ?restN0
          case hyN0 => (intro w hSw; (try dsimp only at hSw); go_simp; try with_reducible rfl)
          try simp only [Act.put, List.getElem_toArray, List.getElem_cons_zero, List.getElem_cons_succ, List.setIfInBounds_toArray, List.set_cons_zero, List.set_cons_succ]
          refine' wpAnyH_take (i := 1) (v := _) rfl (by kernel_rfl) (by kernel_rfl) (by kernel_rfl) (fun _ _ _ h => h) (Or.inl ⟨by rfl, ?hyN1⟩) (by assumption) ?restN1
          case hyN1 => (intro w hSw; (try dsimp only at hSw); go_simp; try with_reducible rfl)
          try simp only [Act.put, List.getElem_toArray, List.getElem_cons_zero, List.getElem_cons_succ, List.setIfInBounds_toArray, List.set_cons_zero, List.set_cons_succ]
          refine' wpAnyH_take (i := 2) (v := _) rfl (by kernel_rfl) (by kernel_rfl) (by kernel_rfl) (fun _ _ _ h => h) (Or.inl ⟨by rfl, ?hyN2⟩) (by assumption) ?restN2
          case hyN2 => (intro w hSw; (try dsimp only at hSw); go_simp; try with_reducible rfl)
          try simp only [Act.put, List.getElem_toArray, List.getElem_cons_zero, List.getElem_cons_succ, List.setIfInBounds_toArray, List.set_cons_zero, List.set_cons_succ]
          refine' wpAnyH_take (i := 3) (v := _) rfl (by kernel_rfl) (by kernel_rfl) (by kernel_rfl) (fun _ _ _ h => h) (Or.inl ⟨by rfl, ?hyN3⟩) (by assumption) ?restN3
          case hyN3 => (intro w hSw; (try dsimp only at hSw); go_simp; try with_reducible rfl)
          try simp only [Act.put, List.getElem_toArray, List.getElem_cons_zero, List.getElem_cons_succ, List.setIfInBounds_toArray, List.set_cons_zero, List.set_cons_succ]
          refine' wpAnyH_take (i := 4) (v := _) rfl (by kernel_rfl) (by kernel_rfl) (by kernel_rfl) (fun _ _ _ h => h) (Or.inl ⟨by rfl, ?hyN4⟩) (by assumption) ?restN4
          case hyN4 => (intro w hSw; (try dsimp only at hSw); go_simp; try with_reducible rfl)
          try simp only [Act.put, List.getElem_toArray, List.getElem_cons_zero, List.getElem_cons_succ, List.setIfInBounds_toArray, List.set_cons_zero, List.set_cons_succ]
          refine' wpAnyH_take (i := 5) (v := _) rfl (by kernel_rfl) (by kernel_rfl) (by kernel_rfl) (fun _ _ _ h => h) (Or.inl ⟨by rfl, ?hyN5⟩) (by assumption) ?restN5
          case hyN5 => (intro w hSw; (try dsimp only at hSw); go_simp; try with_reducible rfl)
          try simp only [Act.put, List.getElem_toArray, List.getElem_cons_zero, List.getElem_cons_succ, List.setIfInBounds_toArray, List.set_cons_zero, List.set_cons_succ]
          refine' wpAnyH_take (i := 6) (v := _) rfl (by kernel_rfl) (by kernel_rfl) (by kernel_rfl) (fun _ _ _ h => h) (Or.inl ⟨by rfl, ?hyN6⟩) (by assumption) ?restN6
          case hyN6 => (intro w hSw; (try dsimp only at hSw); go_simp; try with_reducible rfl)
          try simp only [Act.put, List.getElem_toArray, List.getElem_cons_zero, List.getElem_cons_succ, List.setIfInBounds_toArray, List.set_cons_zero, List.set_cons_succ]
          refine' wpAnyH_take (i := 7) (v := _) rfl (by kernel_rfl) (by kernel_rfl) (by kernel_rfl) (fun _ _ _ h => h) (Or.inl ⟨by rfl, ?hyN7⟩) (by assumption) ?restN7
          case hyN7 => (intro w hSw; (try dsimp only at hSw); go_simp; try with_reducible rfl)
          try simp only [Act.put, List.getElem_toArray, List.getElem_cons_zero, List.getElem_cons_succ, List.setIfInBounds_toArray, List.set_cons_zero, List.set_cons_succ]
          refine' wpAnyH_take (i := 8) (v := _) rfl (by kernel_rfl) (by kernel_rfl) (by kernel_rfl) (fun _ _ _ h => h) (Or.inr ⟨by rfl, rfl⟩) (by assumption) ?restN8
          try simp only [Act.put, List.getElem_toArray, List.getElem_cons_zero, List.getElem_cons_succ, List.setIfInBounds_toArray, List.set_cons_zero, List.set_cons_succ]
          refine' wpAnyH_take (i := 9) (v := _) rfl (by kernel_rfl) (by kernel_rfl) (by kernel_rfl) (fun _ _ _ h => h) (Or.inr ⟨by rfl, rfl⟩) (by assumption) ?restN9
          try simp only [Act.put, List.getElem_toArray, List.getElem_cons_zero, List.getElem_cons_succ, List.setIfInBounds_toArray, List.set_cons_zero, List.set_cons_succ]
          refine' wpAnyH_take (i := 10) (v := _) rfl (by kernel_rfl) (by kernel_rfl) (by kernel_rfl) (fun _ _ _ h => h) (Or.inr ⟨by rfl, rfl⟩) (by assumption) ?restN10
          try simp only [Act.put, List.getElem_toArray, List.getElem_cons_zero, List.getElem_cons_succ, List.setIfInBounds_toArray, List.set_cons_zero, List.set_cons_succ]
          refine' wpAnyH_take (i := 11) (v := _) rfl (by kernel_rfl) (by kernel_rfl) (by kernel_rfl) (fun _ _ _ h => h) (Or.inr ⟨by rfl, rfl⟩) (by assumption) ?restN11
          try simp only [Act.put, List.getElem_toArray, List.getElem_cons_zero, List.getElem_cons_succ, List.setIfInBounds_toArray, List.set_cons_zero, List.set_cons_succ]
          refine' wpAnyH_take (i := 12) (v := _) rfl (by kernel_rfl) (by kernel_rfl) (by kernel_rfl) (fun _ _ _ h => h) (Or.inr ⟨by rfl, rfl⟩) (by assumption) ?restN12
          try simp only [Act.put, List.getElem_toArray, List.getElem_cons_zero, List.getElem_cons_succ, List.setIfInBounds_toArray, List.set_cons_zero, List.set_cons_succ]
          refine' wpAnyH_take (i := 13) (v := _) rfl (by kernel_rfl) (by kernel_rfl) (by kernel_rfl) (fun _ _ _ h => h) (Or.inr ⟨by rfl, rfl⟩) (by assumption) ?restN13
          try simp only [Act.put, List.getElem_toArray, List.getElem_cons_zero, List.getElem_cons_succ, List.setIfInBounds_toArray, List.set_cons_zero, List.set_cons_succ]
          refine' wpAnyH_take (i := 14) (v := _) rfl (by kernel_rfl) (by kernel_rfl) (by kernel_rfl) (fun _ _ _ h => h) (Or.inl ⟨by rfl, ?hyN14⟩) (by assumption) ?restN14
          case hyN14 => (intro w hSw; (try dsimp only at hSw); go_simp; try with_reducible rfl)
          try simp only [Act.put, List.getElem_toArray, List.getElem_cons_zero, List.getElem_cons_succ, List.setIfInBounds_toArray, List.set_cons_zero, List.set_cons_succ]
          refine' wpAnyH_take (i := 15) (v := _) rfl (by kernel_rfl) (by kernel_rfl) (by kernel_rfl) (fun _ _ _ h => h) (Or.inl ⟨by rfl, ?hyN15⟩) (by assumption) ?restN15
          case hyN15 => (intro w hSw; (try dsimp only at hSw); go_simp; try with_reducible rfl)
          try simp only [Act.put, List.getElem_toArray, List.getElem_cons_zero, List.getElem_cons_succ, List.setIfInBounds_toArray, List.set_cons_zero, List.set_cons_succ]
          refine wpAnyH_done (by kernel_rfl) ?_ _
          clear hHeld
          have hc11 := (HK.out _ hb0).2.1
          by_cases h1 : n0 = 1
          · have hz1 : ((n0 : Int) != 1) = false := by simp [h1]
            have H1 := Lib.hid h1
            clear h1 hz
            have HQK := Lib.hid (show W7.cell? ⟨w4.heap.size, a, none⟩ = some (.int .u8 sb.toNat) ∧ W7.cell? ⟨w4.heap.size + 1, a, none⟩ = some (.int .u8 lb.toNat) ∧ ∀ j, j < 128 → W7.cell? ⟨w7.heap.size, j, none⟩ = some (.int .u8 (s.1.getD j 0).toNat) from by
              have h := HK.out _ (Below.refl _ W7)
              refine ⟨h.2.2.1, h.2.2.2.1, fun j hj => ?_⟩
              have := h.2.2.2.2 j _ (byte_at (l := s.1) (by rw [s.2]; exact hj))
              rwa [Nat.zero_add] at this)
            obtain ⟨W8, hW8⟩ : ∃ W8, W8 = W7.drew := ⟨_, rfl⟩
            have HW8 := Lib.hid hW8
            go_upto_block 4 with fail
            rw [← hW8]
            clear hc11 hW8
            go_cut [23] from 152 to 164 (fun s23 wx => SureOne W7 s lb s23 wx)
            case first =>
              go_wp2_with fail
              go_loopw [23] (fun kk wq => ∃ (k1 m : Nat), k1 ≤ 128 ∧ kk = .int .i64 k1 ∧ Hid (wq = W7.drewN m)) (fun kk _ => 128 - (intOf kk).toNat)
              case atStart => exact ⟨0, 1, by omega, rfl, Lib.hid HW8.out⟩
              case round =>
                obtain ⟨k1, m, hk1, rfl, hwq⟩ := hrel
                obtain rfl := hwq.out
                clear hwq
                have hcl := HQK.out.2.1
                by_cases hk : k1 < 128
                · have hcs := HQK.out.2.2 k1 hk
                  have hki : (k1 : Int) < 128 := by omega
                  have hk0 : (0 : Int) ≤ k1 := by omega
                  obtain ⟨cb, hcb⟩ : ∃ cb, s.1.getD k1 0 = cb := ⟨_, rfl⟩
                  rw [hcb] at hcs
                  have HCB := Lib.hid hcb
                  clear hcb
                  by_cases q : cb = lb
                  · have hq : ((cb.toNat : Int) == (lb.toNat : Int)) = true := by simp [q]
                    clear q
                    go_wp2_with fail
                    go_quiet (fail)
                    go_wp2
                    go_roundw
                    case rel => first | exact ⟨k1 + 1, _, by omega, by go_num, Lib.hid (World.drewN_drewN _ _ _)⟩ | exact ⟨k1 + 1, _, by omega, by go_num, Lib.hid rfl⟩
                    case measure => simp [intOf]; omega
                  · have hq : ((cb.toNat : Int) == (lb.toNat : Int)) = false := by
                      simp only [beq_eq_false_iff_ne, ne_eq]
                      intro e
                      exact q (UInt8.toNat_inj.1 (by omega))
                    have HQQ := Lib.hid (show s.1.getD k1 0 ≠ lb by rw [HCB.out]; exact q)
                    clear q
                    go_wp2_with fail
                    go_quiet (fail)
                    go_wp2_with fail
                    go_meet
                    first | exact ⟨k1, _, rfl, hk1, .inr HQQ.out, Lib.hid (World.drewN_drewN _ _ _)⟩ | exact ⟨k1, _, rfl, hk1, .inr HQQ.out, Lib.hid rfl⟩
                · have hkd : decide ((k1 : Int) < 128) = false := by simp; omega
                  obtain rfl : k1 = 128 := by omega
                  go_wp2_with fail
                  go_quiet (fail)
                  go_wp2_with fail
                  go_meet
                  first | exact ⟨128, _, rfl, Nat.le_refl _, .inl rfl, Lib.hid (World.drewN_drewN _ _ _)⟩ | exact ⟨128, _, rfl, Nat.le_refl _, .inl rfl, Lib.hid rfl⟩
            case rest =>
              obtain ⟨k1, m, rfl, hk1, hk2, hwq⟩ := hcut
              obtain rfl := hwq.out
              clear hwq
              have HSB := Lib.hid (show ∀ j, k1 ≤ j → j < 128 → s.1.getD j 0 = sb from fun j hj1 hj2 => by
                obtain ⟨kk, hkk⟩ := HS3b.out H1.out
                have hg : ∀ t, t < 128 → s.1.getD t 0 = if t < kk then lb else sb := fun t ht => by rw [hkk]; exact torn_get lb sb kk t ht
                rcases hk2 with h | h
                · omega
                · have := hg k1 (by omega)
                  rw [hg j hj2]
                  by_cases c : k1 < kk
                  · rw [if_pos c] at this; exact absurd this h
                  · rw [if_neg (by omega)])
              clear hk2
              go_wp2_with fail
              go_loopw [23] (fun kk wq => ∃ (k2 m : Nat), k1 ≤ k2 ∧ k2 ≤ 128 ∧ kk = .int .i64 k2 ∧ Hid (wq = W7.drewN m)) (fun kk _ => 128 - (intOf kk).toNat)
              case atStart => exact ⟨k1, m, Nat.le_refl _, hk1, rfl, Lib.hid rfl⟩
              case round =>
                obtain ⟨k2, m2, hk12, hk2, rfl, hwq⟩ := hrel
                obtain rfl := hwq.out
                clear hwq
                have hcl := HQK.out.1
                by_cases hk : k2 < 128
                · have hcs := HQK.out.2.2 k2 hk
                  rw [HSB.out k2 hk12 hk] at hcs
                  have hki : (k2 : Int) < 128 := by omega
                  have hk0 : (0 : Int) ≤ k2 := by omega
                  have hq : ((sb.toNat : Int) == (sb.toNat : Int)) = true := by simp
                  go_wp2_with fail
                  go_quiet (fail)
                  go_wp2
                  go_roundw
                  case rel => first | exact ⟨k2 + 1, _, by omega, by omega, by go_num, Lib.hid (World.drewN_drewN _ _ _)⟩ | exact ⟨k2 + 1, _, by omega, by omega, by go_num, Lib.hid rfl⟩
                  case measure => simp [intOf]; omega
                · have hkd : decide ((k2 : Int) < 128) = false := by simp; omega
                  obtain rfl : k2 = 128 := by omega
                  go_wp2_with fail
                  go_quiet (fail)
                  go_wp2
                  go_roundw
                  case rel => exact ⟨a + 1, by omega, by go_num, Lib.hid (HSW.out.step (below_drewN (Below.refl _ _) _))⟩
                  case measure => simp [intOf]; omega
          · have hz1 : ((n0 : Int) != 1) = true := by simp; omega
            clear h1 hz
            go_wp2
            go_roundw
            case rel => exact ⟨a + 1, by omega, by go_num, Lib.hid (HSW.out.step hb0)⟩
            case measure => simp [intOf]; omega
      · go_wp2
        go_ret
        exact ⟨rfl, HSr.out.be⟩
end Go.Proofs.Ytfffmmnpohgniaa
