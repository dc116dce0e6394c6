import Derived.Test.YtbhjigejpdbeiaaDoorKBs
import Derived.Test.YtbhjigejpdbeiaaDoorKDsk
import Derived.Lib.SmallJoins
import Derived.Test.YtbhjigejpdbeiaaDoorLh
import Derived.Test.YtbhjigejpdbeiaaDoorCk
set_option linter.unusedSimpArgs false
set_option linter.unusedVariables false

section
/-
  read: what a half has.
-/
namespace Go.Proofs.YtbhjigejpdbeiaaDoor
open Go.RowKit Go.Shelf
set_option linter.unusedVariables false
set_option maxRecDepth 8000

/-- What a half has, as the function answers it. -/
def HeldPost (d : Dk) (h : Nat) (w : World) (e : Ending) (w' : World) : Prop :=
  Below w.heap.size w w' ∧ match d.used h with
  | none => e = .returned (.tuple #[.agg #[.slice none 0 0, .int .i64 0], .bool false])
  | some (rs, gen, _) => ∃ v, e = .returned (.tuple #[.agg #[v, .int .i64 gen], .bool true]) ∧ RecsAt w' v rs ∧ RecsFrom w' w.heap.size v rs
theorem held_none {d : Dk} {h : Nat} {w w' : World} (hu : d.used h = none) (hb : Below w.heap.size w w') : HeldPost d h w (.returned (.tuple #[.agg #[.slice none 0 0, .int .i64 0], .bool false])) w' := by
  refine ⟨hb, ?_⟩
  rw [hu]
/-- A held's variable. -/
structure HeldAt (w : World) (b : Nat) (v : Value) (gen : Int) : Prop where
  range : w.rangeAt b 0 [v, .int .i64 gen]
  there : w.there b 0 2
theorem HeldAt.lt {w : World} {b : Nat} {v : Value} {gen : Int} (s : HeldAt w b v gen) : b < w.heap.size := range_lt s.range (by simp)
theorem HeldAt.keepb {w w' : World} {b : Nat} {v : Value} {gen : Int} (s : HeldAt w b v gen) (hk : w'.heap[b]? = w.heap[b]?) : HeldAt w' b v gen := ⟨range_keepb s.range hk, there_keepb s.there hk⟩
theorem HeldAt.cells {w : World} {b : Nat} {v : Value} {gen : Int} (s : HeldAt w b v gen) : w.cell? ⟨b, 0, none⟩ = some v ∧ w.cell? ⟨b, 1, none⟩ = some (.int .i64 gen) ∧ w.frozen? ⟨b, 0, none⟩ = false ∧ w.frozen? ⟨b, 1, none⟩ = false := by
  have hk : ∀ j u, ([v, .int .i64 gen] : List Value)[j]? = some u → w.cell? ⟨b, j, none⟩ = some u := fun j u hu => by have := s.range j u hu; rwa [Nat.zero_add] at this
  exact ⟨hk 0 _ rfl, hk 1 _ rfl, by have := (s.there 0 (by omega)).2; rwa [Nat.zero_add] at this, by have := (s.there 1 (by omega)).2; rwa [Nat.zero_add] at this⟩
theorem HeldAt.set {w : World} {b : Nat} {v : Value} {gen : Int} (s : HeldAt w b v gen) (u : Value) : HeldAt (w.setCell ⟨b, 0, none⟩ u) b u gen := by
  have k := range_setCells s.range 0 [u] (by simp)
  exact ⟨k, World.there_setCells s.there b 0 [u]⟩
/-- Between two rounds. -/
def SdRel (d : Dk) (h : Nat) (gen : Int) (N : Nat) (w w5 : World) (bh sb : Nat) (R : Option (List (List UInt8) × Nat)) (wr : World) : Prop :=
  ∃ (i f : Nat) (v : Value) (vs : List Value) (acc : List (List UInt8)), 1 ≤ i ∧ i ≤ d.half ∧ d.half + 2 ≤ f + i ∧ Hid (w5.heap.size ≤ wr.heap.size ∧ Below w.heap.size w wr) ∧ Hid (ReaderAt wr (bh + 1) sb gen i) ∧ Hid (HeldAt wr bh v gen) ∧ acc.length < i ∧ Hid (HeldAt wr w.heap.size (.slice none 0 0) 0) ∧
    Hid (wr.ownsRow w5.heap.size 28 1 v vs.length vs) ∧ Hid (RowSet wr w5.heap.size v.ownBlock vs acc) ∧ Hid (R = d.readF h gen N f i acc)
theorem sizeHeld : (Tryd.prog.info? 85).map (·.size) = some 2 := by kernel_rfl
theorem load_held {w : World} {b : Nat} {v : Value} {gen : Int} (h : w.rangeAt b 0 [v, .int .i64 gen]) : (loadVar 85 ⟨b, 0, none⟩).run Tryd.prog w = .ok (.agg #[v, .int .i64 gen]) w :=
  run_loadVar_mid w b 0 85 [v, .int .i64 gen] _ h Tryd.underlying85 rfl (by rw [sizeHeld]; rfl)
set_option maxHeartbeats 1000000 in
theorem sread_f (w : World) (sb : Nat) (C : Array Value) (d : Dk) (h : Nat) (hs : SideAt w sb C d h) (hh : h ≤ 1) (hrt : d.right = true) (hdn : d.down = false) (hL : Laid w) :
    Calls Tryd.prog 44 #[.pointer (some ⟨sb, 0, none⟩)] w fun e w' => HeldPost d h w e w' := by
  have hbd := Jp.bounds_of_right hrt
  have HHF := Lib.hid (show d.half ≤ 1024 ∧ d.secs.length ≤ 1000000 from ⟨by have : d.half = d.secs.length / 2 := rfl; omega, by omega⟩)
  have HS := Lib.hid hs
  have HL := Lib.hid hL
  have HRT := Lib.hid hrt
  have HDN := Lib.hid hdn
  obtain ⟨w1, hw1⟩ : ∃ w1, w1 = w.alloc (.cells #[.slice none 0 0, .int .i64 0] 85) := ⟨_, rfl⟩
  have HB1 := Lib.hid (show Below w.heap.size w w1 by rw [hw1]; exact (Below.refl _ _).alloc (Nat.le_refl _) _)
  have HS1 := Lib.hid (HS.out.below HB1.out)
  have HT1 := Lib.hid (show HeldAt w1 w.heap.size (.slice none 0 0) 0 by rw [hw1]; exact ⟨range_new w [.slice none 0 0, .int .i64 0] 85, there_new w [.slice none 0 0, .int .i64 0] 85⟩)
  have HW1 := Lib.hid (show w1.heap.size = w.heap.size + 1 by rw [hw1]; simp)
  have HL1 := Lib.hid (HL.out.below HB1.out HL.out.size)
  have HW := Lib.hid hw1
  clear hw1 hs hL hrt hdn hbd
  go_enter Tryd.func44, Tryd.ntmps44
  go_wp2_with fail
  rw [← HW.out]
  clear HW
  refine (part_f w1 sb C d h 0 HS1.out hh HRT.out HDN.out (by omega) HL1.out).mono ?_
  rintro e w2 ⟨v, p, ok, rfl, hp, hp100, hat, hb2⟩
  have HAT := Lib.hid hat
  have HB2 := Lib.hid hb2
  have HP100 := Lib.hid hp100
  obtain ⟨A, n, c, rfl, hn, hrow⟩ := hp
  have HN := Lib.hid hn
  have HROW := Lib.hid hrow
  have hn100 : n ≤ 100 := by omega
  clear hat hb2 hp100 hn hrow
  have hcv := Joins.run_convert_bytes_const_at (P := Tryd.prog) (w2.alloc (.cells #[.int .i64 p.gen, .int .i64 p.index, .int .u8 p.marks.toNat, .slice A n c] 100)) 28 5 #[.int .u8 108, .int .u8 111, .int .u8 103] 3 3 (w2.heap.size + 1) (by simp) Tryd.underlying28 Tryd.underlying5
  go_wp2_with fail
  clear hcv
  obtain ⟨b4, hb4⟩ : ∃ b4, b4 = w2.heap.size := ⟨_, rfl⟩
  obtain ⟨w3, hw3⟩ : ∃ w3, w3 = (w2.alloc (.cells #[.int .i64 p.gen, .int .i64 p.index, .int .u8 p.marks.toNat, .slice A n c] 100)).alloc (.cells #[.int .u8 108, .int .u8 111, .int .u8 103] 5 (3, 4)) := ⟨_, rfl⟩
  have HB3 := Lib.hid (show Below w2.heap.size w2 w3 by rw [hw3]; exact below_two _ _ _)
  have HS3 := Lib.hid (show w3.heap.size = b4 + 2 by rw [hw3, hb4]; simp)
  have HR3 := Lib.hid (show w3.rangeAt b4 0 (partC p.gen p.index p.marks.toNat A n c) by
    rw [hw3, hb4]; exact range_below (range_new w2 (partC p.gen p.index p.marks.toNat A n c) 100) ((Below.refl (w2.heap.size + 1) _).alloc (by simp) _) (by omega))
  have HLG := Lib.hid (show RowOf w3 1 (some ⟨b4 + 1, 0, none⟩) 3 3 (Lib.byteCells [108, 111, 103]) from
    ⟨rfl, by omega, by omega, (fun h => by cases h), fun x hx _ => by
      injection hx with hx; subst hx
      refine ⟨rfl, by have := HS3.out; show b4 + 1 < _; omega, fun j v hv => ?_⟩
      rw [hw3, hb4, Nat.zero_add]
      have := Joins.cell_alloc_mark_at (w2.alloc (.cells #[.int .i64 p.gen, .int .i64 p.index, .int .u8 p.marks.toNat, .slice A n c] 100)) #[.int .u8 108, .int .u8 111, .int .u8 103] 5 (3, 4) (w2.heap.size + 1) j (by simp)
      rw [this]
      simpa [Lib.byteCells] using hv⟩)
  rw [← hw3, ← hb4]
  have HB4 := Lib.hid hb4
  clear hw3 hb4
  have HROW3 := Lib.hid (HROW.out.kept HB3.out (Nat.le_refl _))
  refine (cutPrefix_f w3 A (some ⟨b4 + 1, 0, none⟩) n c 3 p.data [108, 111, 103] HROW3.out HLG.out hn100).mono ?_
  rintro e w3 ⟨⟨B, m, k, rfl, hcut⟩, rfl⟩
  have HCUT := Lib.hid hcut
  clear hcut
  have HB13 := Lib.hid (below_chain HB1.out (below_chain HB2.out HB3.out))
  have HT3 := Lib.hid (HT1.out.keepb ((HB3.out.block w.heap.size (by have := HB2.out.size; have := HW1.out; omega)).trans (HB2.out.block w.heap.size (by have := HW1.out; omega))))
  have HNONE := Lib.hid (show d.used h = none → ∀ W, Below w.heap.size w W → HeldPost d h w (.returned (.tuple #[.agg #[.slice none 0 0, .int .i64 0], .bool false])) ((W.setCell ⟨w.heap.size, 0, none⟩ (.slice none 0 0)).setCell ⟨w.heap.size, 1, none⟩ (.int .i64 0)) from fun hu W hW =>
    held_none hu (below_setCells w.heap.size (Nat.le_refl _) [.slice none 0 0, .int .i64 0] 0 W hW))
  have HUSED := Lib.hid (show d.used h = if ok then (match Dk.header p with | none => none | some n => if n < d.half then (match d.readF h p.gen n (d.half + 1) 1 [] with | none => none | some (l, i) => some (l, p.gen, i)) else none) else none by
    rw [Dk.used, HAT.out]; cases ok <;> rfl)
  obtain ⟨pf, hpf⟩ : ∃ pf, pf = (decide (3 ≤ n) && (p.data.take 3 == [108, 111, 103])) := ⟨_, rfl⟩
  rw [← hpf] at HCUT ⊢
  have HHD := Lib.hid (show Dk.header p = if pf && decide (n = 7) && decide (p.marks.toNat = 3) then some (toldB (p.data.drop 3)) else none by
    rw [Dk.header, hpf, HN.out]
    by_cases q : p.marks = 3 ∧ p.data.length = 7 ∧ p.data.take 3 = [108, 111, 103]
    · rw [if_pos q, if_pos]; simp [q]
    · rw [if_neg q, if_neg]
      intro e
      apply q
      simp only [Bool.and_eq_true, decide_eq_true_eq, beq_iff_eq] at e
      exact ⟨by rw [← UInt8.toNat_inj]; exact e.2, e.1.2, e.1.1.2⟩)
  clear hpf
  obtain ⟨q0, q1, q2, q3⟩ := part_cells HR3.out
  obtain ⟨r0, r1, r2, r3⟩ := HT3.out.cells
  cases ok
  case false =>
    have HU := Lib.hid (show d.used h = none from HUSED.out)
    go_wp2_with fail
    refine bodyPost_ret (ret_cell_tmp rfl rfl (load_held (World.rangeAt_setCells_same w3 w.heap.size 0 [.slice none 0 0, .int .i64 0] HT3.out.there))) rfl ?_
    exact HNONE.out HU.out _ HB13.out
  cases pf
  case false =>
    have HU := Lib.hid (show d.used h = none by rw [HUSED.out, HHD.out]; rfl)
    go_wp2_with fail
    refine bodyPost_ret (ret_cell_tmp rfl rfl (load_held (World.rangeAt_setCells_same w3 w.heap.size 0 [.slice none 0 0, .int .i64 0] HT3.out.there))) rfl ?_
    exact HNONE.out HU.out _ HB13.out
  obtain ⟨hm, hrowB⟩ := HCUT.out rfl
  by_cases h7 : n = 7
  case neg =>
    have hd : ((m : Int) != 4) = true := by rw [bne_iff_ne]; omega
    have HU := Lib.hid (show d.used h = none by rw [HUSED.out, HHD.out]; simp [h7])
    have HM := Lib.hid hm
    clear hm h7 hrowB
    go_wp2_with fail
    refine bodyPost_ret (ret_cell_tmp rfl rfl (load_held (World.rangeAt_setCells_same w3 w.heap.size 0 [.slice none 0 0, .int .i64 0] HT3.out.there))) rfl ?_
    exact HNONE.out HU.out _ HB13.out
  obtain rfl : m = 4 := by omega
  by_cases h3 : p.marks.toNat = 3
  case neg =>
    have hd : ((p.marks.toNat : Int) != 3) = true := by rw [bne_iff_ne]; omega
    have HU := Lib.hid (show d.used h = none by rw [HUSED.out, HHD.out]; simp [h3])
    clear hm h7 hrowB h3
    go_wp2_with fail
    refine bodyPost_ret (ret_cell_tmp rfl rfl (load_held (World.rangeAt_setCells_same w3 w.heap.size 0 [.slice none 0 0, .int .i64 0] HT3.out.there))) rfl ?_
    exact HNONE.out HU.out _ HB13.out
  have hd : ((p.marks.toNat : Int) != 3) = false := by rw [h3]; rfl
  obtain ⟨N, hN⟩ : ∃ N, N = toldB (p.data.drop 3) := ⟨_, rfl⟩
  have HHD2 := Lib.hid (show Dk.header p = some N by rw [HHD.out, hN]; simp [h7, h3])
  have HTOLD := Lib.hid (told_f w3 (p.data.drop 3) B 4 k (by rw [List.length_drop, ← HN.out]; omega) (by omega) hrowB)
  rw [← hN] at HTOLD
  have hlt : N < 4294967296 := by
    have := toldB_lt (p.data.drop 3)
    have hl : (p.data.drop 3).length = 4 := by rw [List.length_drop, ← HN.out]; omega
    rw [hl] at this
    omega
  have HUSED2 := Lib.hid (show d.used h = if N < d.half then (match d.readF h p.gen N (d.half + 1) 1 [] with | none => none | some (l, i) => some (l, p.gen, i)) else none by
    rw [HUSED.out, HHD2.out]; rfl)
  clear hN h3 h7 hm hrowB
  go_wp2_with fail
  refine HTOLD.out.mono ?_
  rintro e w4 ⟨rfl, hb4⟩
  have HB4 := Lib.hid hb4
  have HS4 := Lib.hid ((HS1.out.below (below_chain HB2.out HB3.out)).below hb4)
  have HT4 := Lib.hid (HT3.out.keepb (hb4.block w.heap.size (by have := HS3.out; have := HB4.out; have := HB2.out.size; have := HB3.out.size; have := HW1.out; omega)))
  have HR4 := Lib.hid (range_below HR3.out hb4 (by have := HS3.out; omega))
  clear hb4 q0 q1 q2 q3 r0 r1 r2 r3
  go_wp2_with fail
  refine (sideSize_f w4 sb C d h HS4.out HHF.out.2).mono ?_
  rintro e w4 ⟨rfl, rfl⟩
  obtain ⟨q0, q1, q2, q3⟩ := part_cells HR4.out
  obtain ⟨r0, r1, r2, r3⟩ := HT4.out.cells
  by_cases hNh : N < d.half
  case neg =>
    have hdn : decide (d.half ≤ N) = true := by simp; omega
    have HU := Lib.hid (show d.used h = none by rw [HUSED2.out, if_neg hNh])
    clear hNh
    go_wp2_with fail
    refine bodyPost_ret (ret_cell_tmp rfl rfl (load_held (World.rangeAt_setCells_same w4 w.heap.size 0 [.slice none 0 0, .int .i64 0] HT4.out.there))) rfl ?_
    exact HNONE.out HU.out _ (below_chain HB13.out HB4.out)
  have hdn : decide (d.half ≤ N) = false := by simp; omega
  have HUSED3 := Lib.hid (HUSED2.out.trans (if_pos hNh))
  have hb4lt : b4 < w4.heap.size := range_lt HR4.out (by simp [partC])
  go_wp2_with fail
  obtain ⟨bh, hbh⟩ : ∃ bh, bh = w4.heap.size := ⟨_, rfl⟩
  obtain ⟨w5, hw5⟩ : ∃ w5, w5 = (w4.alloc (.cells #[.slice none 0 0, .int .i64 p.gen] 85)).alloc (.cells #[.pointer (some ⟨sb, 0, none⟩), .int .i64 p.gen, .int .i64 1] 121) := ⟨_, rfl⟩
  rw [← hw5, ← hbh]
  have HB5 := Lib.hid (show Below w4.heap.size w4 w5 by rw [hw5]; exact below_two _ _ _)
  have HS5 := Lib.hid (show w5.heap.size = bh + 2 by rw [hw5, hbh]; simp)
  have HH5 := Lib.hid (show HeldAt w5 bh (.slice none 0 0) p.gen by
    rw [hw5, hbh]
    exact ⟨range_below (range_new w4 [.slice none 0 0, .int .i64 p.gen] 85) ((Below.refl (w4.heap.size + 1) _).alloc (by simp) _) (by omega), there_below (there_new w4 [.slice none 0 0, .int .i64 p.gen] 85) ((Below.refl (w4.heap.size + 1) _).alloc (by simp) _) (by omega)⟩)
  have HRD5 := Lib.hid (show ReaderAt w5 (bh + 1) sb p.gen 1 by
    have h1 := range_new (w4.alloc (.cells #[.slice none 0 0, .int .i64 p.gen] 85)) [.pointer (some ⟨sb, 0, none⟩), .int .i64 p.gen, .int .i64 1] 121
    have h2 := there_new (w4.alloc (.cells #[.slice none 0 0, .int .i64 p.gen] 85)) [.pointer (some ⟨sb, 0, none⟩), .int .i64 p.gen, .int .i64 1] 121
    rw [size_alloc] at h1 h2
    rw [hw5, hbh]
    exact ⟨h1, h2⟩)
  have HBH := Lib.hid hbh
  have HSD5 := Lib.hid (HS4.out.below HB5.out)
  have HT5 := Lib.hid (HT4.out.keepb (HB5.out.block w.heap.size HT4.out.lt))
  have HB15 := Lib.hid (below_chain HB13.out (below_chain HB4.out HB5.out))
  have HHL := Lib.hid (show 4 ≤ d.half ∨ 1 ≤ d.half by omega)
  clear hw5 hbh q0 q1 q2 q3 r0 r1 r2 r3 HT4 HS4 HT3 HR4 HR3 HLG HCUT HROW3 HROW
  obtain ⟨R, hR⟩ : ∃ R, R = d.readF h p.gen N (d.half + 1) 1 [] := ⟨_, rfl⟩
  rw [← hR] at HUSED3
  go_loopw [12] (fun _ wr => SdRel d h p.gen N w w5 bh sb R wr) (fun _ wr => d.half + 1 - ((wr.cell? ⟨bh + 1, 2, none⟩).elim 0 fun v => (intOf v).toNat))
  case atStart =>
    exact ⟨1, d.half + 1, .slice none 0 0, [], [], by omega, by omega, by omega, Lib.hid ⟨Nat.le_refl _, HB15.out⟩, HRD5, HH5, by simp, HT5, Lib.hid (World.ownsRow_nil w5 w5.heap.size 28 1), Lib.hid (rowSet_nil _ _ _), Lib.hid hR⟩
  case round =>
    have HR5 := Lib.hid hR
    clear hR
    obtain ⟨i, f, v, vs, acc, hi1, hi2, hf, HBR, HRD, HHD, hac, HTR, HO, HRS, HF⟩ := hrel
    obtain ⟨Av, cv, rfl, hrowv, hlov⟩ := row_of_own HO.out
    have HROWV := Lib.hid hrowv
    have HLOV := Lib.hid hlov
    have HVL := Lib.hid (show vs.length = acc.length from HRS.out.len)
    have HOL := Lib.hid (own_lt HO.out)
    have HFF := Lib.hid (show ∃ f', f = f' + 1 from ⟨f - 1, by omega⟩)
    have HSW := Lib.hid (HS.out.below HBR.out.2)
    have HLW := Lib.hid (HL.out.below HBR.out.2 HL.out.size)
    have HBRS := Lib.hid (show bh + 2 ≤ wr.heap.size ∧ w.heap.size < bh by have := HBR.out.1; have := HS5.out; have := HBH.out; have := HB4.out.size; have := HB3.out.size; have := HB2.out.size; have := HW1.out; omega)
    clear hrowv hlov
    generalize hvl : vs.length = L at *
    have HVLL := Lib.hid hvl
    clear hvl
    obtain ⟨p0, p1, p2, p3⟩ := HRD.out.cells
    obtain ⟨wi, hwi⟩ : ∃ wi, decide (i ≤ N) = wi := ⟨_, rfl⟩
    go_wp2_with fail
    refine (next_f wr (bh + 1) sb C d h p.gen i HSW.out HRD.out hh HRT.out HDN.out (by have := HHF.out; omega) HLW.out).mono ?_
    rintro e W2 ⟨hg, hpost⟩
    have HG := Lib.hid hg
    have HWI := Lib.hid hwi
    have HBW2 := Lib.hid (HBR.out.2.grown hg (by have := HBR.out.2.size; omega) (fun q e => by injection e with e; have := HBRS.out; omega))
    have HT2 := Lib.hid (HTR.out.keepb (hg.block w.heap.size HTR.out.lt (by have := HBRS.out; simp; omega)))
    have HH2 := Lib.hid (HHD.out.keepb (hg.block bh HHD.out.lt (by simp)))
    have HO2 := Lib.hid (own_keep HO.out (fun g hgg => hg.block g (HOL.out g hgg).2 (fun e => by have := (HOL.out g hgg).1; have := HS5.out; injection e with e; omega)))
    have HRS2 := Lib.hid (HRS.out.keep hg.size (fun b hb1 hb2 _ => hg.block b hb1 (fun e => by have := HS5.out; injection e with e; omega)))
    clear hg hwi p0 p1 p2 p3
    obtain ⟨r0, r1, r2, r3⟩ := HT2.out.cells
    obtain ⟨s0, s1, s2, s3⟩ := HH2.out.cells
    cases hone : d.one h p.gen i with
    | none =>
      rw [hone] at hpost
      obtain ⟨rfl, hrd⟩ := hpost
      have HRS' := Lib.hid (show R = if i ≤ N then none else some (acc, i) by
        obtain ⟨f', rfl⟩ := HFF.out
        rw [HF.out, Dk.readF, hone])
      clear hone hrd
      cases wi
      case true =>
        have HU := Lib.hid (show d.used h = none by rw [HUSED3.out, HRS'.out, if_pos (by have := HWI.out; simpa using this)])
        go_wp2_with fail
        refine bodyPost_ret (ret_cell_tmp rfl rfl (load_held (World.rangeAt_setCells_same W2 w.heap.size 0 [.slice none 0 0, .int .i64 0] HT2.out.there))) rfl ?_
        exact HNONE.out HU.out _ HBW2.out
      case false =>
        have HRR := Lib.hid (show R = some (acc, i) by rw [HRS'.out, if_neg (by have := HWI.out; simpa using this)])
        go_wp2_with fail
        refine bodyPost_ret (ret_cell_tmp rfl rfl (load_held (World.rangeAt_setCells_same W2 w.heap.size 0 [.slice Av L cv, .int .i64 p.gen] HT2.out.there))) rfl ?_
        have hk : ∀ b, b < W2.heap.size → w5.heap.size ≤ b → (W2.setCells w.heap.size 0 [.slice Av L cv, .int .i64 p.gen]).heap[b]? = W2.heap[b]? := fun b _ hb => heap_setCells w.heap.size b (by have := HS5.out; have := HBRS.out; omega) _ 0 W2
        refine (show HeldPost d h w (.returned (.tuple #[.agg #[.slice Av L cv, .int .i64 p.gen], .bool true])) (W2.setCells w.heap.size 0 [.slice Av L cv, .int .i64 p.gen]) from ⟨below_setCells w.heap.size (Nat.le_refl _) _ 0 W2 HBW2.out, ?_⟩)
        rw [HUSED3.out, HRR.out]
        obtain ⟨Av', cv', e, hrowv, hlov⟩ := row_of_own HO2.out
        injection e with e1 e2 e3
        subst e1; subst e3
        have hF : RecsFrom (W2.setCells w.heap.size 0 [.slice Av L cv, .int .i64 p.gen]) w.heap.size (.slice Av L cv) acc := by
          refine ⟨Av, L, cv, vs, rfl, HVL.out, ?_, ?_, ?_⟩
          · exact hrowv.keep (by rw [size_setCells]; exact Nat.le_refl _) (fun x hx h0 hl => hk _ hl (hlov x hx))
          · intro x hx
            have := hlov x hx
            have := HS5.out
            have := HBRS.out
            omega
          · exact (HRS2.out.keep (by rw [size_setCells]; exact Nat.le_refl _) (fun b hb1 hb2 _ => hk b hb1 hb2)).weak (by have := HS5.out; have := HBRS.out; omega) (fun b hb => by cases hb)
        exact ⟨_, rfl, hF.at, hF⟩
    | some x =>
      obtain ⟨r, j⟩ := x
      rw [hone] at hpost
      obtain ⟨A', n', c', rfl, hn', hrow', hfr, hrd⟩ := hpost
      have HRD2 := Lib.hid hrd
      have HN' := Lib.hid hn'
      have HROW' := Lib.hid hrow'
      have HFR := Lib.hid hfr
      have HJ := Lib.hid (Jp.one_bounds hone)
      have HRS' := Lib.hid (show ∃ f', f = f' + 1 ∧ R = if i ≤ N ∧ N + 1 < j then none else d.readF h p.gen N f' j (acc ++ [r]) by
        obtain ⟨f', rfl⟩ := HFF.out
        refine ⟨f', rfl, ?_⟩
        rw [HF.out, Dk.readF, hone])
      clear hone hrd hn' hrow' hfr
      obtain ⟨t0, t1, t2, t3⟩ := HRD2.out.cells
      obtain ⟨wj, hwj⟩ : ∃ wj, decide ((N : Int) + 1 < (j : Int)) = wj := ⟨_, rfl⟩
      have HSZ2 := Lib.hid (show w5.heap.size ≤ W2.heap.size from Nat.le_trans HBR.out.1 HG.out.size)
      have HBASE := Lib.hid (show w5.heap.size ≤ (W2.alloc (.cells #[.slice A' n' c'] 28)).heap.size by have := HSZ2.out; simp; omega)
      have HO3 := Lib.hid (own_keep HO2.out (w' := W2.alloc (.cells #[.slice A' n' c'] 28)) (fun g hgg => ((Below.refl W2.heap.size W2).alloc (Nat.le_refl _) _).block g (own_lt HO2.out g hgg).2))
      have HOL3 := Lib.hid (own_lt HO2.out)
      have HNEW := Lib.hid (row_val W2 (.slice A' n' c') 28)
      have HONE1 := Lib.hid (show ∀ u ∈ [Value.slice A' n' c'], u.oneCell' = true from fun u hu => by simp at hu; subst hu; rfl)
      have hL2 : L ≤ 2000 := by have := HVL.out; have := HHF.out; omega
      have HEND := Lib.hid (show ¬ (i ≤ N ∧ N + 1 < j) → ∀ (A9 : Option Addr) (c9 : Nat) (w9 : World), Below w5.heap.size W2 w9 → w9.ownsRow w5.heap.size 28 1 (.slice A9 (L + 1) c9) (L + 1) (vs ++ [.slice A' n' c']) → (W2.alloc (.cells #[.slice A' n' c'] 28)).grownBy w9 (Value.slice Av L cv).ownBlock →
          ((Value.slice A9 (L + 1) c9).ownBlock = (Value.slice Av L cv).ownBlock ∨ ∀ g, (Value.slice A9 (L + 1) c9).ownBlock = some g → W2.heap.size + 1 ≤ g) → HeldAt w9 bh (.slice Av L cv) p.gen →
          SdRel d h p.gen N w w5 bh sb R (w9.setCell ⟨bh, 0, none⟩ (.slice A9 (L + 1) c9)) ∧ (w9.setCell ⟨bh, 0, none⟩ (.slice A9 (L + 1) c9)).cell? ⟨bh + 1, 2, none⟩ = some (.int .i64 (j : Int)) from by
        intro hcond A9 c9 w9 hB9 hO9 hG9 hF9 hH9
        obtain ⟨f', hf', hR'⟩ := HRS'.out
        rw [if_neg hcond] at hR'
        have h5 := HS5.out
        have hlow := HBRS.out
        have hgb : w5.heap.size ≤ W2.heap.size := HSZ2.out
        have hset : ∀ b, b ≠ bh → (w9.setCell ⟨bh, 0, none⟩ (.slice A9 (L + 1) c9)).heap[b]? = w9.heap[b]? := fun b hb => heap_setCells bh b hb [.slice A9 (L + 1) c9] 0 w9
        have hsz : (w9.setCell ⟨bh, 0, none⟩ (.slice A9 (L + 1) c9)).heap.size = w9.heap.size := size_setCells bh [.slice A9 (L + 1) c9] 0 w9
        have hH10 := hH9.set (.slice A9 (L + 1) c9)
        have hRD9 : ReaderAt (w9.setCell ⟨bh, 0, none⟩ (.slice A9 (L + 1) c9)) (bh + 1) sb p.gen j := by
          have := HRD2.out.below hB9 (by omega)
          exact ⟨range_keepb this.range (hset _ (by omega)), there_keepb this.there (hset _ (by omega))⟩
        have hT9 := (HT2.out.keepb (hB9.block w.heap.size (by omega))).keepb (hset w.heap.size (by omega))
        have hR3 : RowSet (W2.alloc (.cells #[.slice A' n' c'] 28)) w5.heap.size (Value.slice Av L cv).ownBlock vs acc := HRS2.out.below ((Below.refl W2.heap.size W2).alloc (Nat.le_refl _) _) (Nat.le_refl _)
        have hR9 : RowSet w9 w5.heap.size (Value.slice A9 (L + 1) c9).ownBlock vs acc := hR3.turn hG9.size (fun b hb1 _ hb3 => hG9.block b hb1 (fun e => hb3 e.symm)) (fun b hb => by
          rcases hF9 with q | q
          · right; rw [← q]; exact hb
          · left; simp; exact q b hb)
        have hrow : RowOf w9 1 A' n' c' (Lib.byteCells r) := by
          have h3 := HROW'.out.kept ((Below.refl W2.heap.size W2).alloc (Nat.le_refl _) (.cells #[.slice A' n' c'] 28)) (Nat.le_refl _)
          exact h3.keep hG9.size (fun x hx h0 hl => hG9.block _ hl (fun e => by have := HOL.out _ e.symm; have := HFR.out x hx; omega))
        have hR10 := hR9.snoc HN'.out hrow (fun x hx h0 => by
          have q1 := HFR.out x hx
          have q2 := (HROW'.out.2.2.2.2 x hx h0).2.1
          refine ⟨by have := HBR.out.1; omega, fun e => ?_⟩
          rcases hF9 with q | q
          · rw [q] at e
            have := HOL.out _ e
            omega
          · have := q _ e
            omega)
        have hR11 : RowSet (w9.setCell ⟨bh, 0, none⟩ (.slice A9 (L + 1) c9)) w5.heap.size (Value.slice A9 (L + 1) c9).ownBlock (vs ++ [.slice A' n' c']) (acc ++ [r]) := hR10.keep (by rw [hsz]; exact Nat.le_refl _) (fun b _ hb _ => hset b (by omega))
        have hO10 : (w9.setCell ⟨bh, 0, none⟩ (.slice A9 (L + 1) c9)).ownsRow w5.heap.size 28 1 (.slice A9 (L + 1) c9) (vs ++ [Value.slice A' n' c']).length (vs ++ [.slice A' n' c']) := by
          rw [List.length_append, HVLL.out, List.length_singleton]
          exact own_keep hO9 (fun g hgg => hset g (by have := (own_lt hO9 g hgg).1; omega))
        have hBW : Below w.heap.size w (w9.setCell ⟨bh, 0, none⟩ (.slice A9 (L + 1) c9)) := (HBW2.out.trans (hB9.mono (by omega))).setCell (p := ⟨bh, 0, none⟩) (by show w.heap.size ≤ bh; omega) _
        refine ⟨⟨j, f', _, _, _, by have := HJ.out; omega, HJ.out.2.1, by have := HJ.out; omega, Lib.hid ⟨by rw [hsz]; exact Nat.le_trans hgb hB9.size, hBW⟩, Lib.hid hRD9, Lib.hid hH10, by rw [List.length_append, List.length_singleton]; have := HJ.out; omega, Lib.hid hT9, Lib.hid hO10, Lib.hid hR11, Lib.hid hR'⟩, hRD9.cells.2.2.1⟩)
      cases wi
      case false =>
        go_wp2_with (at_builtin; refine list_of_step rfl (step_append_two rfl (.tmp 91) (.tmp 93) 38 28 rfl Tryd.underlying38 w5.heap.size (.slice none 0 0) 1 24 infoBytes rfl (by decide) (.slice Av L cv) L vs rfl HO3.out (some ⟨W2.heap.size, 0, none⟩) 1 1 [.slice A' n' c'] rfl HNEW.out HONE1.out (by omega) (by decide) HBASE.out ?_))
        intro v' w9 k1 k2 k3
        have HO9 := Lib.hid k1
        have HG9 := Lib.hid k2
        have HF9 := Lib.hid k3
        obtain ⟨A9, c9, rfl, hrow9, hlo9⟩ := row_of_own k1
        clear k1 k2 k3 hrow9 hlo9
        have HB9 := Lib.hid (show Below w5.heap.size W2 w9 from ((Below.refl w5.heap.size W2).alloc HSZ2.out _).grown HG9.out (by have := HSZ2.out; simp; omega) (fun q e => (HOL3.out q e).1))
        have HH9 := Lib.hid (HH2.out.keepb (HB9.out.block bh (by have := HS5.out; omega)))
        have HNX := Lib.hid (HEND.out (by have := HWI.out; simp at this; omega) A9 c9 w9 HB9.out HO9.out HG9.out HF9.out HH9.out)
        clear r0 r1 r2 r3 s0 s1 s2 s3 t0 t1 t2 t3
        obtain ⟨s0, s1, s2, s3⟩ := HH9.out.cells
        go_wp2_with fail
        go_roundw
        case rel => exact HNX.out.1
        case measure =>
          have e1 := HNX.out.2
          have e2 := HRD.out.cells.2.2.1
          rw [e1, e2]
          show d.half + 1 - ((j : Int)).toNat < d.half + 1 - ((i : Int)).toNat
          have := HJ.out
          omega
      case true =>
        have HWJ := Lib.hid hwj
        cases wj
        case true =>
          have HU := Lib.hid (show d.used h = none by
            obtain ⟨f', _, e⟩ := HRS'.out
            have e1 := HWI.out
            have e2 := HWJ.out
            simp at e1 e2
            rw [HUSED3.out, e, if_pos ⟨e1, by omega⟩])
          go_wp2_with fail
          refine bodyPost_ret (ret_cell_tmp rfl rfl (load_held (World.rangeAt_setCells_same W2 w.heap.size 0 [.slice none 0 0, .int .i64 0] HT2.out.there))) rfl ?_
          exact HNONE.out HU.out _ HBW2.out
        case false =>
          go_wp2_with (at_builtin; refine list_of_step rfl (step_append_two rfl (.tmp 91) (.tmp 93) 38 28 rfl Tryd.underlying38 w5.heap.size (.slice none 0 0) 1 24 infoBytes rfl (by decide) (.slice Av L cv) L vs rfl HO3.out (some ⟨W2.heap.size, 0, none⟩) 1 1 [.slice A' n' c'] rfl HNEW.out HONE1.out (by omega) (by decide) HBASE.out ?_))
          intro v' w9 k1 k2 k3
          have HO9 := Lib.hid k1
          have HG9 := Lib.hid k2
          have HF9 := Lib.hid k3
          obtain ⟨A9, c9, rfl, hrow9, hlo9⟩ := row_of_own k1
          clear k1 k2 k3 hrow9 hlo9
          have HB9 := Lib.hid (show Below w5.heap.size W2 w9 from ((Below.refl w5.heap.size W2).alloc HSZ2.out _).grown HG9.out (by have := HSZ2.out; simp; omega) (fun q e => (HOL3.out q e).1))
          have HH9 := Lib.hid (HH2.out.keepb (HB9.out.block bh (by have := HS5.out; omega)))
          have HNX := Lib.hid (HEND.out (by have := HWJ.out; simp at this; omega) A9 c9 w9 HB9.out HO9.out HG9.out HF9.out HH9.out)
          clear r0 r1 r2 r3 s0 s1 s2 s3 t0 t1 t2 t3
          obtain ⟨s0, s1, s2, s3⟩ := HH9.out.cells
          go_wp2_with fail
          go_roundw
          case rel => exact HNX.out.1
          case measure =>
            have e1 := HNX.out.2
            have e2 := HRD.out.cells.2.2.1
            rw [e1, e2]
            show d.half + 1 - ((j : Int)).toNat < d.half + 1 - ((i : Int)).toNat
            have := HJ.out
            omega
end Go.Proofs.YtbhjigejpdbeiaaDoor
end

section
/-
  able, logged, ready, Records, of both sides.
-/
namespace Go.Proofs.YtbhjigejpdbeiaaDoor
open Go.RowKit Go.Shelf
set_option linter.unusedVariables false
set_option maxRecDepth 8000

/-- A disk's box. -/
structure BoxAt (w : World) (b : Nat) (C : Array Value) (d : Dk) : Prop where
  var : DVar w b C
  disk : DiskAt w (.agg C) d
theorem BoxAt.below {w w' : World} {b : Nat} {C : Array Value} {d : Dk} (h : BoxAt w b C d) (hb : Below w.heap.size w w') : BoxAt w' b C d := ⟨h.var.below hb h.var.lt, h.disk.kept hb (Nat.le_refl _)⟩
theorem BoxAt.load {w : World} {b : Nat} {C : Array Value} {d : Dk} (h : BoxAt w b C d) : (diskVar ⟨b, 0, none⟩).run Tryd.prog w = .ok (.agg C) w := h.var.load
theorem BoxAt.cells {w : World} {b : Nat} {C : Array Value} {d : Dk} (h : BoxAt w b C d) : ∃ A c, w.cell? ⟨b, 0, none⟩ = some (.slice A d.secs.length c) ∧ w.cell? ⟨b, 3, none⟩ = some (.bool d.down) := by
  obtain ⟨A, n, c, A', n', c', e, rfl, _⟩ := h.disk
  refine ⟨A, c, ?_, ?_⟩
  · have := h.var.range 0 (.slice A d.secs.length c) (by injection e with e; subst e; rfl)
    rwa [Nat.zero_add] at this
  · have := h.var.range 3 (.bool d.down) (by injection e with e; subst e; rfl)
    rwa [Nat.zero_add] at this
theorem box_new {w : World} {C : Array Value} {d : Dk} (hd : DiskAt w (.agg C) d) (h4 : D4 C) : BoxAt (w.alloc (.cells C 25)) w.heap.size C d :=
  ⟨dvar_new w h4, hd.kept ((Below.refl _ _).alloc (Nat.le_refl _) _) (Nat.le_refl _)⟩

theorem able_f (w : World) (C : Array Value) (d : Dk) (hd : DiskAt w (.agg C) d) (h4 : D4 C) : Calls Tryd.prog 40 #[.agg C] w fun e w' => e = .returned (.int .i64 d.able) ∧ Below w.heap.size w w' := by
  have HBX := Lib.hid (box_new hd h4)
  have hl0 := HBX.out.load
  obtain ⟨A, c, c0, c3⟩ := HBX.out.cells
  have HB1 := Lib.hid (show Below w.heap.size w (w.alloc (.cells C 25)) from (Below.refl _ _).alloc (Nat.le_refl _) _)
  have HRT := Lib.hid (right_f (w.alloc (.cells C 25)) (.agg C) d HBX.out.disk)
  clear hd h4
  go_enter Tryd.func40, Tryd.ntmps40
  by_cases h8 : d.secs.length < 8
  · have HA := Lib.hid (show d.able = 1 by rw [Dk.able, if_pos (.inl h8)])
    have hd8 : decide ((d.secs.length : Int) < 8) = true := by simp; omega
    clear h8
    go_wp2
    go_ret
    exact ⟨by rw [HA.out]; rfl, HB1.out⟩
  · have hd8 : decide ((d.secs.length : Int) < 8) = false := by simp; omega
    have H8 := Lib.hid h8
    clear h8
    go_wp2_with fail
    refine HRT.out.mono ?_
    rintro e w2 ⟨rfl, hb2⟩
    have HB2 := Lib.hid (below_chain HB1.out hb2)
    have HBX2 := Lib.hid (HBX.out.below hb2)
    clear hb2 hl0 c0 c3
    obtain ⟨A2, c2, c0, c3⟩ := HBX2.out.cells
    cases hr : d.right with
    | false =>
      have HA := Lib.hid (show d.able = 1 by rw [Dk.able, if_pos (.inr hr)])
      clear hr
      go_wp2
      go_ret
      exact ⟨by rw [HA.out]; rfl, HB2.out⟩
    | true =>
      have HA := Lib.hid (show d.able = if d.down then 9 else 0 by rw [Dk.able, if_neg (by rintro (q | q); exact H8.out q; rw [hr] at q; cases q)])
      clear hr
      cases hdn : d.down with
      | true =>
        rw [hdn] at HA c3
        clear hdn
        go_wp2
        go_ret
        exact ⟨by rw [HA.out]; rfl, HB2.out⟩
      | false =>
        rw [hdn] at HA c3
        clear hdn
        go_wp2
        go_ret
        exact ⟨by rw [HA.out]; rfl, HB2.out⟩
/-- May a disk have a journal? -/
def ableB (d : Dk) : Bool := d.right && decide (8 ≤ d.secs.length)
theorem rable_f (w : World) (C : Array Value) (d : Dk) (hd : DiskAt w (.agg C) d) (h4 : D4 C) : Calls Tryd.prog 36 #[.agg C] w fun e w' => e = .returned (.bool (ableB d)) ∧ Below w.heap.size w w' := by
  have HBX := Lib.hid (box_new hd h4)
  have hl0 := HBX.out.load
  have HB1 := Lib.hid (show Below w.heap.size w (w.alloc (.cells C 25)) from (Below.refl _ _).alloc (Nat.le_refl _) _)
  have HRT := Lib.hid (rright_f (w.alloc (.cells C 25)) (.agg C) d HBX.out.disk)
  clear hd h4
  go_enter Tryd.func36, Tryd.ntmps36
  go_wp2_with fail
  refine HRT.out.mono ?_
  rintro e w2 ⟨rfl, hb2⟩
  have HB2 := Lib.hid (below_chain HB1.out hb2)
  have HBX2 := Lib.hid (HBX.out.below hb2)
  clear hb2 hl0
  obtain ⟨A2, c2, c0, c3⟩ := HBX2.out.cells
  cases hr : d.right with
  | false =>
    have HA := Lib.hid (show ableB d = false by rw [ableB, hr]; rfl)
    clear hr
    go_wp2
    go_ret
    exact ⟨by rw [HA.out]; rfl, HB2.out⟩
  | true =>
    have hd8 : decide ((8 : Int) ≤ (d.secs.length : Int)) = ableB d := by rw [ableB, hr, Bool.true_and, Bool.eq_iff_iff, decide_eq_true_eq, decide_eq_true_eq]; omega
    clear hr
    go_wp2
    go_ret
    exact ⟨rfl, HB2.out⟩
theorem logged_is (d : Dk) (l : Dk.Log) : d.logged l = ((decide (l.half = 0) || decide (l.half = 1)) && decide (1 ≤ l.gen) && decide (l.gen ≤ 1099511627776) && decide (1 ≤ l.used) && decide (l.used ≤ d.half)) := by
  rw [Dk.logged, Bool.eq_iff_iff]
  simp only [Bool.and_eq_true, Bool.or_eq_true, decide_eq_true_eq]
  omega
abbrev logV (l : Dk.Log) : Value := .agg #[.int .i64 l.half, .int .i64 l.gen, .int .i64 l.used]
theorem logged_f (w : World) (C : Array Value) (d : Dk) (l : Dk.Log) (hd : DiskAt w (.agg C) d) (h4 : D4 C) (hn : d.secs.length ≤ 1000000) :
    Calls Tryd.prog 51 #[.agg C, logV l] w fun e w' => e = .returned (.bool (d.logged l)) ∧ Below w.heap.size w w' := by
  have HBX := Lib.hid (box_new hd h4)
  have HB1 := Lib.hid (show Below w.heap.size w ((w.alloc (.cells C 25)).alloc (.cells #[.int .i64 l.half, .int .i64 l.gen, .int .i64 l.used] 27)) from below_two _ _ _)
  have HBX1 := Lib.hid (HBX.out.below ((Below.refl _ _).alloc (Nat.le_refl _) (.cells #[.int .i64 l.half, .int .i64 l.gen, .int .i64 l.used] 27)))
  obtain ⟨A, c, c0, c3⟩ := HBX1.out.cells
  have hd2 : (d.secs.length : Int) / 2 = (d.half : Int) := rfl
  have HLG := Lib.hid (show d.logged l = (decide (0 ≤ l.half) && decide (l.half ≤ 1) && decide (1 ≤ l.gen) && decide (l.gen ≤ 1099511627776) && decide (1 ≤ l.used) && decide (l.used ≤ d.half)) from rfl)
  generalize d.logged l = q at *
  generalize d.half = hf at *
  generalize d.secs.length = n at *
  clear hd h4 c3
  go_enter Tryd.func51, Tryd.ntmps51
  go_wp2_with fail
  all_goals (
    go_ret
    refine ⟨?_, HB1.out⟩
    rw [HLG.out]
    show Ending.returned (Value.bool _) = _
    congr 2
    rw [Bool.eq_iff_iff]
    simp
    try omega)
theorem rlogged_f (w : World) (C : Array Value) (d : Dk) (l : Dk.Log) (hd : DiskAt w (.agg C) d) (h4 : D4 C) (hn : d.secs.length ≤ 1000000) :
    Calls Tryd.prog 37 #[.agg C, logV l] w fun e w' => e = .returned (.bool (d.logged l)) ∧ Below w.heap.size w w' := by
  have HBX := Lib.hid (box_new hd h4)
  have HB1 := Lib.hid (show Below w.heap.size w ((w.alloc (.cells C 25)).alloc (.cells #[.int .i64 l.half, .int .i64 l.gen, .int .i64 l.used] 27)) from below_two _ _ _)
  have HBX1 := Lib.hid (HBX.out.below ((Below.refl _ _).alloc (Nat.le_refl _) (.cells #[.int .i64 l.half, .int .i64 l.gen, .int .i64 l.used] 27)))
  obtain ⟨A, c, c0, c3⟩ := HBX1.out.cells
  have hd2 : (d.secs.length : Int) / 2 = (d.half : Int) := rfl
  have HLG := Lib.hid (logged_is d l)
  generalize d.logged l = q at *
  obtain ⟨z0, hz0⟩ : ∃ z, (l.half == 0) = z := ⟨_, rfl⟩
  obtain ⟨z1, hz1⟩ : ∃ z, (l.half == 1) = z := ⟨_, rfl⟩
  have HZ := Lib.hid (show decide (l.half = 0) = z0 ∧ decide (l.half = 1) = z1 by rw [← hz0, ← hz1]; constructor <;> (rw [Bool.eq_iff_iff]; simp))
  generalize d.half = hf at *
  generalize d.secs.length = n at *
  clear hd h4 c3
  go_enter Tryd.func37, Tryd.ntmps37
  cases z0 <;> cases z1
  all_goals go_wp2_with fail
  all_goals (
    go_ret
    refine ⟨?_, HB1.out⟩
    rw [HLG.out, HZ.out.1, HZ.out.2]
    show Ending.returned (Value.bool _) = _
    congr 2
    first
      | done
      | (rw [Bool.eq_iff_iff]; simp; try omega))
theorem ready_f (w : World) (C : Array Value) (d : Dk) (l : Dk.Log) (hd : DiskAt w (.agg C) d) (h4 : D4 C) (hn : d.secs.length ≤ 1000000) :
    Calls Tryd.prog 32 #[.agg C, logV l] w fun e w' => e = .returned (.int .i64 (d.ready l)) ∧ Below w.heap.size w w' := by
  obtain ⟨w1, hw1⟩ : ∃ w1, w1 = (w.alloc (.cells C 25)).alloc (.cells #[.int .i64 l.half, .int .i64 l.gen, .int .i64 l.used] 27) := ⟨_, rfl⟩
  have HBX := Lib.hid (show BoxAt w1 w.heap.size C d by rw [hw1]; exact (box_new hd h4).below ((Below.refl _ _).alloc (Nat.le_refl _) _))
  have HB1 := Lib.hid (show Below w.heap.size w w1 by rw [hw1]; exact below_two _ _ _)
  have HAB := Lib.hid (able_f w1 C d HBX.out.disk h4)
  have H4 := Lib.hid h4
  have hl0 := HBX.out.load
  have HRL := Lib.hid (show w1.rangeAt (w.heap.size + 1) 0 [.int .i64 l.half, .int .i64 l.gen, .int .i64 l.used] ∧ w.heap.size + 1 < w1.heap.size by
    have := range_new (w.alloc (.cells C 25)) [.int .i64 l.half, .int .i64 l.gen, .int .i64 l.used] 27
    rw [size_alloc] at this
    rw [hw1]; exact ⟨this, by simp⟩)
  have HW := Lib.hid hw1
  rw [hw1] at hl0
  clear hd h4 hw1
  go_enter Tryd.func32, Tryd.ntmps32
  go_wp2_with fail
  rw [← HW.out]
  refine HAB.out.mono ?_
  rintro e w2 ⟨rfl, hb2⟩
  have HB2 := Lib.hid hb2
  have HBX2 := Lib.hid (HBX.out.below hb2)
  have HRL2 := Lib.hid (range_below HRL.out.1 hb2 HRL.out.2)
  clear hl0 hb2
  obtain ⟨x, hx⟩ : ∃ x, x = d.able := ⟨_, rfl⟩
  rw [← hx]
  by_cases h0 : x = 0
  case neg =>
    have hne : (x != 0) = true := by rw [bne_iff_ne]; exact h0
    have HR := Lib.hid (show d.ready l = x by rw [Dk.ready, ← hx, if_neg h0])
    clear h0 hx
    go_wp2
    go_ret
    exact ⟨by rw [HR.out]; rfl, below_chain HB1.out HB2.out⟩
  have HX := Lib.hid hx
  clear hx
  subst h0
  have hl0 := HBX2.out.load
  have hk : ∀ j u, ([.int .i64 l.half, .int .i64 l.gen, .int .i64 l.used] : List Value)[j]? = some u → w2.cell? ⟨w.heap.size + 1, j, none⟩ = some u := fun j u hu => by have := HRL2.out j u hu; rwa [Nat.zero_add] at this
  have k0 := hk 0 _ rfl
  have k1 := hk 1 _ rfl
  have k2 := hk 2 _ rfl
  clear hk
  go_wp2_with fail
  refine (logged_f w2 C d l HBX2.out.disk H4.out hn).mono ?_
  rintro e w3 ⟨rfl, hb3⟩
  have HB3 := Lib.hid hb3
  clear hb3 hl0 k0 k1 k2
  have HR := Lib.hid (show d.ready l = if d.logged l then 0 else 1 by rw [Dk.ready, ← HX.out]; rfl)
  generalize d.logged l = q at *
  cases q
  case false =>
    go_wp2
    go_ret
    exact ⟨by rw [HR.out]; rfl, below_chain HB1.out (below_chain HB2.out HB3.out)⟩
  case true =>
    go_wp2
    go_ret
    exact ⟨by rw [HR.out]; rfl, below_chain HB1.out (below_chain HB2.out HB3.out)⟩
end Go.Proofs.YtbhjigejpdbeiaaDoor
end

section
/-
  Records, of both sides.
-/
namespace Go.Proofs.YtbhjigejpdbeiaaDoor
open Go.RowKit Go.Shelf
set_option linter.unusedVariables false
set_option maxRecDepth 8000

/-- What Records answers. -/
def RecPost (d : Dk) (half : Int) (w : World) (e : Ending) (w' : World) : Prop :=
  Below w.heap.size w w' ∧ match d.records half with
  | none => e = .returned (.tuple #[.slice none 0 0, .int .i64 0, .bool false])
  | some (rs, gen) => ∃ v, e = .returned (.tuple #[v, .int .i64 gen, .bool true]) ∧ RecsAt w' v rs
theorem rec_none {d : Dk} {half : Int} {w w' : World} (hu : d.records half = none) (hb : Below w.heap.size w w') : RecPost d half w (.returned (.tuple #[.slice none 0 0, .int .i64 0, .bool false])) w' := by
  refine ⟨hb, ?_⟩
  rw [hu]
theorem side_new {w : World} {C : Array Value} {d : Dk} (hd : DiskAt w (.agg C) d) (h4 : D4 C) (h : Nat) : SideAt (w.alloc (.cells (C.toList ++ [Value.int .i64 (h : Int)]).toArray 66)) w.heap.size C d h :=
  ⟨h4, by have := range_new w (C.toList ++ [Value.int .i64 (h : Int)]) 66; simpa using this, by
    have := there_new w (C.toList ++ [Value.int .i64 (h : Int)]) 66
    rw [List.length_append, Array.length_toList, h4.size] at this
    exact this, hd.kept ((Below.refl _ _).alloc (Nat.le_refl _) _) (Nat.le_refl _), hd.clear (Nat.le_refl _)⟩
theorem able_up {d : Dk} (h : d.able = 0) : d.right = true ∧ d.down = false ∧ 8 ≤ d.secs.length ∧ d.secs.length ≤ 2048 := by
  unfold Dk.able at h
  by_cases q : d.secs.length < 8 ∨ d.right = false
  · rw [if_pos q] at h; cases h
  · rw [if_neg q] at h
    have hr : d.right = true := by
      cases hr : d.right
      · exact absurd (.inr hr) q
      · rfl
    refine ⟨hr, ?_, by have : ¬ d.secs.length < 8 := fun a => q (.inl a); omega, (Jp.bounds_of_right hr).2.1⟩
    cases hd : d.down
    · rfl
    · rw [hd] at h; cases h
set_option maxHeartbeats 1000000 in
theorem records_f (w : World) (v : Value) (d : Dk) (half : Int) (hd : DiskAt w v d) (hL : Laid w) :
    Calls Tryd.prog 23 #[v, .int .i64 half] w fun e w' => RecPost d half w e w' := by
  obtain ⟨C, rfl, h4⟩ := hd.agg
  have HBX := Lib.hid (box_new hd h4)
  have H4 := Lib.hid h4
  have HB1 := Lib.hid (show Below w.heap.size w (w.alloc (.cells C 25)) from (Below.refl _ _).alloc (Nat.le_refl _) _)
  have HAB := Lib.hid (able_f (w.alloc (.cells C 25)) C d HBX.out.disk h4)
  have HL1 := Lib.hid (hL.below HB1.out hL.size)
  have hl0 := HBX.out.load
  have HSHP := Lib.hid (show ∃ A n c A' n' c' f dn, C = #[.slice A n c, .slice A' n' c', .int .i64 f, .bool dn] by
    obtain ⟨A, n, c, A', n', c', e, _⟩ := hd
    injection e with e
    exact ⟨A, n, c, A', n', c', _, _, e⟩)
  clear hd h4 hL
  have hrec : d.records half = if 0 ≤ half ∧ half ≤ 1 ∧ d.able = 0 then (d.used half.toNat).map fun x => (x.1, x.2.1) else none := rfl
  have HREC := Lib.hid hrec
  clear hrec
  go_enter Tryd.func23, Tryd.ntmps23
  by_cases h0 : 0 ≤ half
  case neg =>
    have hd0 : decide (half < 0) = true := by simp; omega
    have HU := Lib.hid (show d.records half = none by rw [HREC.out, if_neg (by omega)])
    clear h0
    go_wp2_with fail
    refine bodyPost_ret (ret_three rfl _) rfl ?_
    exact rec_none HU.out HB1.out
  have hd0 : decide (half < 0) = false := by simp; omega
  by_cases h1 : half ≤ 1
  case neg =>
    have hd1 : decide (1 < half) = true := by simp; omega
    have HU := Lib.hid (show d.records half = none by rw [HREC.out, if_neg (by omega)])
    clear h0 h1
    go_wp2_with fail
    refine bodyPost_ret (ret_three rfl _) rfl ?_
    exact rec_none HU.out HB1.out
  have hd1 : decide (1 < half) = false := by simp; omega
  go_wp2_with fail
  refine HAB.out.mono ?_
  rintro e w2 ⟨rfl, hb2⟩
  have HB2 := Lib.hid hb2
  have HBX2 := Lib.hid (HBX.out.below hb2)
  clear hl0 hb2
  obtain ⟨x, hx⟩ : ∃ x, x = d.able := ⟨_, rfl⟩
  rw [← hx]
  by_cases hx0 : x = 0
  case neg =>
    have hne : (x != 0) = true := by rw [bne_iff_ne]; exact hx0
    have HU := Lib.hid (show d.records half = none by rw [HREC.out, if_neg (by rw [← hx]; intro q; exact hx0 q.2.2)])
    clear hx0 hx h0 h1
    go_wp2_with fail
    refine bodyPost_ret (ret_three rfl _) rfl ?_
    exact rec_none HU.out (below_chain HB1.out HB2.out)
  subst hx0
  have HUP := Lib.hid (able_up hx.symm)
  obtain ⟨h, rfl⟩ : ∃ h : Nat, half = (h : Int) := ⟨half.toNat, by omega⟩
  have HREC2 := Lib.hid (show d.records (h : Int) = (d.used h).map fun x => (x.1, x.2.1) by rw [HREC.out, if_pos ⟨by omega, h1, hx.symm⟩]; rfl)
  have hh : h ≤ 1 := by omega
  clear hx
  have hl0 := HBX2.out.load
  obtain ⟨A, n, c, A', n', c', f, dn, rfl⟩ := HSHP.out
  go_wp2_with fail
  have HSD := Lib.hid (show SideAt (w2.alloc (.cells #[.slice A n c, .slice A' n' c', .int .i64 f, .bool dn, .int .i64 (h : Int)] 66)) w2.heap.size #[.slice A n c, .slice A' n' c', .int .i64 f, .bool dn] d h from side_new HBX2.out.disk H4.out h)
  have HB3 := Lib.hid (show Below w2.heap.size w2 (w2.alloc (.cells #[.slice A n c, .slice A' n' c', .int .i64 f, .bool dn, .int .i64 (h : Int)] 66)) from (Below.refl _ _).alloc (Nat.le_refl _) _)
  refine (sread_f _ w2.heap.size _ d h HSD.out hh HUP.out.1 HUP.out.2.1 (HL1.out.below (below_chain HB2.out HB3.out) HL1.out.size)).mono ?_
  rintro e w4 ⟨hb4, hpost⟩
  have HB4 := Lib.hid (below_chain HB1.out (below_chain HB2.out (below_chain HB3.out hb4)))
  clear hb4 hl0
  cases hu : d.used h with
  | none =>
    rw [hu] at hpost
    subst hpost
    have HU := Lib.hid (show d.records (h : Int) = none by rw [HREC2.out, hu]; rfl)
    clear hu
    go_wp2_with fail
    go_quiet (fail)
    rename Nat => nq
    go_wp2_with fail
    refine bodyPost_ret (ret_three rfl _) rfl ?_
    exact rec_none HU.out (below_drewN (below_chain HB4.out ((Below.refl _ _).alloc (Nat.le_refl _) _)) nq)
  | some x =>
    obtain ⟨rs, gen, u⟩ := x
    rw [hu] at hpost
    obtain ⟨v, rfl, hv, hfr⟩ := hpost
    have HU := Lib.hid (show d.records (h : Int) = some (rs, gen) by rw [HREC2.out, hu]; rfl)
    have HV := Lib.hid hv
    obtain ⟨Av, nv, cv, vs, rfl, e1, e2, e3⟩ := hv
    clear hu hfr e1 e2 e3
    go_wp2_with fail
    go_quiet (fail)
    rename Nat => nq
    go_wp2_with fail
    refine bodyPost_ret (ret_three rfl _) rfl ?_
    have hb5 := below_drewN ((Below.refl w4.heap.size w4).alloc (Nat.le_refl _) (.cells #[.slice Av nv cv, .int .i64 gen] 85)) nq
    refine (show RecPost d (h : Int) w (.returned (.tuple #[.slice Av nv cv, .int .i64 gen, .bool true])) ((w4.alloc (.cells #[.slice Av nv cv, .int .i64 gen] 85)).drewN nq) from ⟨below_chain HB4.out hb5, ?_⟩)
    rw [HU.out]
    exact ⟨_, rfl, HV.out.kept hb5 (Nat.le_refl _)⟩
theorem rec_ref (d : Dk) (half : Int) : d.records half = if ableB d && !d.down && (decide (half = 0) || decide (half = 1)) then (d.used half.toNat).map fun x => (x.1, x.2.1) else none := by
  have e : (0 ≤ half ∧ half ≤ 1 ∧ d.able = 0) ↔ (ableB d && !d.down && (decide (half = 0) || decide (half = 1))) = true := by
    constructor
    · rintro ⟨a, b, c⟩
      obtain ⟨c1, c2, c3, c4⟩ := able_up c
      simp [ableB, c1, c2, c3]
      omega
    · intro q
      simp [ableB] at q
      obtain ⟨⟨⟨q1, q2⟩, q3⟩, q4⟩ := q
      refine ⟨by omega, by omega, ?_⟩
      unfold Dk.able
      rw [if_neg (by rintro (a | a); omega; rw [q1] at a; cases a), q3]
      rfl
  unfold Dk.records
  by_cases q : 0 ≤ half ∧ half ≤ 1 ∧ d.able = 0
  · rw [if_pos q, if_pos (e.1 q)]
  · rw [if_neg q, if_neg (fun a => q (e.2 a))]
set_option maxHeartbeats 1000000 in
theorem rrecords_f (w : World) (v : Value) (d : Dk) (half : Int) (hd : DiskAt w v d) (hL : LaidR w) :
    Calls Tryd.prog 24 #[v, .int .i64 half] w fun e w' => RecPost d half w e w' := by
  obtain ⟨C, rfl, h4⟩ := hd.agg
  have HBX := Lib.hid (box_new hd h4)
  have H4 := Lib.hid h4
  have HB1 := Lib.hid (show Below w.heap.size w (w.alloc (.cells C 25)) from (Below.refl _ _).alloc (Nat.le_refl _) _)
  have HAB := Lib.hid (rable_f (w.alloc (.cells C 25)) C d HBX.out.disk h4)
  have HL1 := Lib.hid (hL.below HB1.out hL.size)
  have hl0 := HBX.out.load
  have HREC := Lib.hid (rec_ref d half)
  have HABL := Lib.hid (show ableB d = true → d.right = true ∧ 1 ≤ d.half from fun q => by
    rw [ableB, Bool.and_eq_true, decide_eq_true_eq] at q
    exact ⟨q.1, by have : d.half = d.secs.length / 2 := rfl; omega⟩)
  clear hd h4 hL
  go_enter Tryd.func24, Tryd.ntmps24
  go_wp2_with fail
  refine HAB.out.mono ?_
  rintro e w2 ⟨rfl, hb2⟩
  have HB2 := Lib.hid hb2
  have HBX2 := Lib.hid (HBX.out.below hb2)
  clear hl0 hb2
  obtain ⟨A2, c2, c0, c3⟩ := HBX2.out.cells
  clear c0
  generalize ableB d = ab at *
  cases ab
  case false =>
    have HU := Lib.hid (show d.records half = none by rw [HREC.out]; rfl)
    go_wp2_with fail
    refine bodyPost_ret (ret_three rfl _) rfl ?_
    exact rec_none HU.out (below_chain HB1.out HB2.out)
  generalize hdn : d.down = dn at *
  have HDN := Lib.hid hdn
  clear hdn
  cases dn
  case true =>
    have HU := Lib.hid (show d.records half = none by rw [HREC.out]; rfl)
    go_wp2_with fail
    refine bodyPost_ret (ret_three rfl _) rfl ?_
    exact rec_none HU.out (below_chain HB1.out HB2.out)
  have hl0 := HBX2.out.load
  have key : ∀ h : Nat, h ≤ 1 → half = (h : Int) → Calls Tryd.prog 45 #[.agg C, .int .i64 half] w2 fun e w' => UsedPost d h w2 e w' := fun h hh e => by
    rw [e]; exact rused_f w2 C d h HBX2.out.disk H4.out hh (HABL.out rfl).1 HDN.out (HABL.out rfl).2 (HL1.out.below HB2.out HL1.out.size)
  have HKEY := Lib.hid key
  clear key
  obtain ⟨z0, hz0⟩ : ∃ z, (half != 0) = z := ⟨_, rfl⟩
  obtain ⟨z1, hz1⟩ : ∃ z, (half != 1) = z := ⟨_, rfl⟩
  have HZ := Lib.hid (show (half = 0 ↔ z0 = false) ∧ (half = 1 ↔ z1 = false) by rw [← hz0, ← hz1]; simp)
  have HOUT := Lib.hid (show ∀ h : Nat, h ≤ 1 → half = (h : Int) → d.records half = (d.used h).map fun x => (x.1, x.2.1) from fun h hh e => by
    rw [HREC.out, if_pos (by rw [e]; simp; omega), e]; rfl)
  cases z0
  case true =>
    cases z1
    case true =>
      have HU := Lib.hid (show d.records half = none by
        rw [HREC.out, if_neg]
        have := HZ.out
        simp at this
        simp [this])
      go_wp2_with fail
      refine bodyPost_ret (ret_three rfl _) rfl ?_
      exact rec_none HU.out (below_chain HB1.out HB2.out)
    case false =>
      obtain ⟨h, hh, he⟩ : ∃ h : Nat, h ≤ 1 ∧ half = (h : Int) := ⟨1, by omega, by have := HZ.out; simp at this; omega⟩
      have HKE := Lib.hid (HKEY.out h hh he)
      have HOU := Lib.hid (HOUT.out h hh he)
      clear he
      go_wp2_with fail
      refine HKE.out.mono ?_
      rintro e w4 ⟨hb4, hpost⟩
      have HB4 := Lib.hid (below_chain HB1.out (below_chain HB2.out hb4))
      clear hb4 hl0 c3
      cases hu : d.used h with
      | none =>
        rw [hu] at hpost
        subst hpost
        have HU := Lib.hid (show d.records half = none by rw [HOU.out, hu]; rfl)
        clear hu
        go_wp2_with fail
        refine bodyPost_ret (ret_three rfl _) rfl ?_
        exact rec_none HU.out HB4.out
      | some x =>
        obtain ⟨rs, gen, u⟩ := x
        rw [hu] at hpost
        obtain ⟨v, rfl, hv, _⟩ := hpost
        have HU := Lib.hid (show d.records half = some (rs, gen) by rw [HOU.out, hu]; rfl)
        have HV := Lib.hid hv
        obtain ⟨Av, nv, cv, vs, rfl, e1, e2, e3⟩ := hv
        clear hu e1 e2 e3
        go_wp2_with fail
        refine bodyPost_ret (ret_three rfl _) rfl ?_
        refine (show RecPost d half w (.returned (.tuple #[.slice Av nv cv, .int .i64 gen, .bool true])) w4 from ⟨HB4.out, ?_⟩)
        rw [HU.out]
        exact ⟨_, rfl, HV.out⟩
  case false =>
    obtain ⟨h, hh, he⟩ : ∃ h : Nat, h ≤ 1 ∧ half = (h : Int) := ⟨0, by omega, by have := HZ.out; simp at this; omega⟩
    have HKE := Lib.hid (HKEY.out h hh he)
    have HOU := Lib.hid (HOUT.out h hh he)
    clear he
    go_wp2_with fail
    refine HKE.out.mono ?_
    rintro e w4 ⟨hb4, hpost⟩
    have HB4 := Lib.hid (below_chain HB1.out (below_chain HB2.out hb4))
    clear hb4 hl0 c3
    cases hu : d.used h with
    | none =>
      rw [hu] at hpost
      subst hpost
      have HU := Lib.hid (show d.records half = none by rw [HOU.out, hu]; rfl)
      clear hu
      go_wp2_with fail
      refine bodyPost_ret (ret_three rfl _) rfl ?_
      exact rec_none HU.out HB4.out
    | some x =>
      obtain ⟨rs, gen, u⟩ := x
      rw [hu] at hpost
      obtain ⟨v, rfl, hv, _⟩ := hpost
      have HU := Lib.hid (show d.records half = some (rs, gen) by rw [HOU.out, hu]; rfl)
      have HV := Lib.hid hv
      obtain ⟨Av, nv, cv, vs, rfl, e1, e2, e3⟩ := hv
      clear hu e1 e2 e3
      go_wp2_with fail
      refine bodyPost_ret (ret_three rfl _) rfl ?_
      refine (show RecPost d half w (.returned (.tuple #[.slice Av nv cv, .int .i64 gen, .bool true])) w4 from ⟨HB4.out, ?_⟩)
      rw [HU.out]
      exact ⟨_, rfl, HV.out⟩
end Go.Proofs.YtbhjigejpdbeiaaDoor
end

section
/-
  generation, Next: one more than the greatest generation.
-/
namespace Go.Proofs.YtbhjigejpdbeiaaDoor
open Go.RowKit Go.Shelf
set_option linter.unusedVariables false
set_option maxRecDepth 8000

theorem genAt_bounds (d : Dk) (i : Nat) : 0 ≤ d.genAt i ∧ d.genAt i ≤ 1099511627776 := by
  unfold Dk.genAt
  cases h : says (d.look i) with
  | none => simp
  | some p =>
    obtain ⟨g, _⟩ := Jp.good_of_says h
    have := g.gen0
    have := g.gen1
    dsimp only
    omega
theorem topBounds (d : Dk) : ∀ i, 0 ≤ d.topF i ∧ d.topF i ≤ 1099511627776
  | 0 => by simp [Dk.topF]
  | i + 1 => by
    have h1 := topBounds d i
    have h2 := genAt_bounds d i
    simp only [Dk.topF]
    omega
theorem genAt_good {d : Dk} {i : Nat} {sc : Sec} (h : d.look i = sc) : d.genAt i = if goodS sc then (rawP sc).gen else 0 := by
  unfold Dk.genAt says
  rw [h]
  cases goodS sc <;> rfl
theorem read_up {d : Dk} (hr : d.right = true) (hdn : d.down = false) {i : Nat} (hi : i < d.secs.length) : d.read (i : Int) = (d.look i, 0) := by
  have hw : d.within (i : Int) = true := by rw [Dk.within, Dk.inside]; simp; omega
  rw [Dk.read, hr, hw, hdn]; rfl
def GenPost (t : Int) (w : World) (e : Ending) (w' : World) : Prop := e = .returned (.tuple #[.int .i64 (if 1099511627776 ≤ t then 0 else t + 1), .int .i64 (if 1099511627776 ≤ t then 5 else 0)]) ∧ Below w.heap.size w w'
set_option maxHeartbeats 1000000 in
theorem generation_f (w : World) (C : Array Value) (d : Dk) (hd : DiskAt w (.agg C) d) (h4 : D4 C) (hrt : d.right = true) (hdn : d.down = false) (hL : Laid w) :
    Calls Tryd.prog 60 #[.agg C] w fun e w' => GenPost d.top w e w' := by
  obtain ⟨w1, hw1⟩ : ∃ w1, w1 = w.alloc (.cells C 25) := ⟨_, rfl⟩
  have HBX := Lib.hid (show BoxAt w1 w.heap.size C d by rw [hw1]; exact box_new hd h4)
  have HB1 := Lib.hid (show Below w.heap.size w w1 by rw [hw1]; exact (Below.refl _ _).alloc (Nat.le_refl _) _)
  have HL1 := Lib.hid (hL.below HB1.out hL.size)
  have HRT := Lib.hid hrt
  have HDN := Lib.hid hdn
  have hbd := Jp.bounds_of_right hrt
  obtain ⟨A, c, c0, c3⟩ := HBX.out.cells
  obtain ⟨n, hn⟩ : ∃ n, n = d.secs.length := ⟨_, rfl⟩
  rw [← hn] at c0
  have hn2 : n ≤ 2048 := by omega
  have HN := Lib.hid hn
  have HTOP := Lib.hid (show d.top = d.topF n by rw [hn]; rfl)
  have HW := Lib.hid hw1
  rw [hw1] at c0
  clear hw1 hd h4 hL hrt hdn hbd hn c3
  obtain ⟨tp, htp⟩ : ∃ tp, tp = d.top := ⟨_, rfl⟩
  rw [← htp]
  have HTP := Lib.hid htp
  clear htp
  go_enter Tryd.func60, Tryd.ntmps60
  go_wp2_with fail
  rw [← HW.out]
  clear c0
  go_loopw [4, 13] (fun m i wr => ∃ k : Nat, k ≤ n ∧ i = .int .i64 (k : Int) ∧ m = .int .i64 (d.topF k) ∧ Hid (Below w1.heap.size w1 wr)) (fun m i wr => n - (intOf i).toNat)
  case atStart => exact ⟨0, by omega, rfl, rfl, Lib.hid (Below.refl _ _)⟩
  case round =>
    obtain ⟨k, hk, rfl, rfl, HB⟩ := hrel
    obtain ⟨tk, htk⟩ : ∃ tk, tk = d.topF k := ⟨_, rfl⟩
    have htb := topBounds d k
    rw [← htk] at htb ⊢
    have HTK := Lib.hid htk
    clear htk
    by_cases hkn : k < n
    case pos =>
      have hlt : decide (k < n) = true := by simp; omega
      have hl0 := (HBX.out.below HB.out).load
      go_wp2_with fail
      have HRE := Lib.hid (read_f wr (.agg C) d (k : Int) (HBX.out.below HB.out).disk)
      refine HRE.out.mono ?_
      rintro e w2 ⟨rfl, hb2⟩
      rw [read_up HRT.out HDN.out (by rw [← HN.out]; exact hkn)]
      obtain ⟨sc, hsc⟩ : ∃ sc, d.look k = sc := ⟨_, rfl⟩
      rw [hsc]
      have HGA := Lib.hid (genAt_good hsc)
      have HB2 := Lib.hid (below_chain HB.out hb2)
      clear hl0 hb2 hsc
      have hl6 := load_sec_new w2 sc
      go_wp2_with fail
      have HB3 := Lib.hid (below_chain HB2.out ((Below.refl w2.heap.size w2).alloc (Nat.le_refl _) (secO sc)))
      refine (says_f _ sc (HL1.out.below HB3.out HL1.out.size)).mono ?_
      rintro e w4 ⟨v, p, rfl, hp, hpn, hfp, hp100, hb4⟩
      have HFP := Lib.hid hfp
      have HB4 := Lib.hid (below_chain HB3.out hb4)
      obtain ⟨A', n', c', rfl, hn', hrow⟩ := hp
      clear hl6 hpn hfp hp100 hb4 hn' hrow
      have HB5 := Lib.hid (below_chain HB4.out ((Below.refl w4.heap.size w4).alloc (Nat.le_refl _) (.cells #[.int .i64 p.gen, .int .i64 p.index, .int .u8 p.marks.toNat, .slice A' n' c'] 100)))
      have HNX := Lib.hid (show d.topF (k + 1) = max tk (d.genAt k) by rw [HTK.out]; rfl)
      cases hg : goodS sc with
      | false =>
        rw [hg] at HGA
        have HV := Lib.hid (show d.topF (k + 1) = tk by rw [HNX.out, HGA.out]; simp; omega)
        clear hg
        go_wp2_with fail
        go_roundw
        case rel => exact ⟨k + 1, by omega, rfl, by rw [HV.out], HB5⟩
        case measure => simp [intOf]; omega
      | true =>
        rw [hg] at HGA
        have hpe : p = rawP sc := HFP.out (by rw [goodS, Bool.and_eq_true, Bool.and_eq_true] at hg; exact hg.1.1)
        have HV := Lib.hid (show d.topF (k + 1) = max tk p.gen by rw [HNX.out, HGA.out, hpe]; rfl)
        clear hg hpe
        by_cases hm : tk < p.gen
        · have HV2 := Lib.hid (show d.topF (k + 1) = p.gen by rw [HV.out]; omega)
          go_wp2_with fail
          go_roundw
          case rel => exact ⟨k + 1, by omega, rfl, by rw [HV2.out], HB5⟩
          case measure => simp [intOf]; omega
        · have hm2 : p.gen ≤ tk := by omega
          have HV2 := Lib.hid (show d.topF (k + 1) = tk by rw [HV.out]; omega)
          go_wp2_with fail
          go_roundw
          case rel => exact ⟨k + 1, by omega, rfl, by rw [HV2.out], HB5⟩
          case measure => simp [intOf]; omega
    obtain rfl : k = n := by omega
    have hlt : decide (k < k) = false := by simp
    have HTT := Lib.hid (show tp = tk by rw [HTP.out, HTOP.out, HTK.out])
    by_cases hbig : 1099511627776 ≤ tk
    · have hdb : decide ((1099511627776 : Int) ≤ tk) = true := by simp; exact hbig
      have HIF := Lib.hid hbig
      clear hbig
      go_wp2_with fail
      go_ret2
      rw [GenPost, HTT.out, if_pos HIF.out, if_pos HIF.out]
      exact ⟨rfl, below_chain HB1.out HB.out⟩
    · have hdb : decide ((1099511627776 : Int) ≤ tk) = false := by simp; omega
      have HIF := Lib.hid hbig
      clear hbig
      go_wp2_with fail
      go_ret2
      rw [GenPost, HTT.out, if_neg (Int.not_le.2 HIF.out), if_neg (Int.not_le.2 HIF.out)]
      exact ⟨rfl, below_chain HB1.out HB.out⟩
set_option maxHeartbeats 1000000 in
theorem rnext_f (w : World) (C : Array Value) (d : Dk) (hd : DiskAt w (.agg C) d) (h4 : D4 C) (hrt : d.right = true) (hdn : d.down = false) (hL : LaidR w) :
    Calls Tryd.prog 42 #[.agg C] w fun e w' => e = .returned (.int .i64 (d.top + 1)) ∧ Below w.heap.size w w' := by
  obtain ⟨w1, hw1⟩ : ∃ w1, w1 = w.alloc (.cells C 25) := ⟨_, rfl⟩
  have HBX := Lib.hid (show BoxAt w1 w.heap.size C d by rw [hw1]; exact box_new hd h4)
  have HB1 := Lib.hid (show Below w.heap.size w w1 by rw [hw1]; exact (Below.refl _ _).alloc (Nat.le_refl _) _)
  have HL1 := Lib.hid (hL.below HB1.out hL.size)
  have HRT := Lib.hid hrt
  have HDN := Lib.hid hdn
  have hbd := Jp.bounds_of_right hrt
  obtain ⟨n, hn⟩ : ∃ n, n = d.secs.length := ⟨_, rfl⟩
  have hn2 : n ≤ 2048 := by omega
  have HN := Lib.hid hn
  have HTOP := Lib.hid (show d.top = d.topF n by rw [hn]; rfl)
  have HW := Lib.hid hw1
  clear hw1 hd h4 hL hrt hdn hbd hn
  obtain ⟨tp, htp⟩ : ∃ tp, tp = d.top := ⟨_, rfl⟩
  rw [← htp]
  have HTP := Lib.hid htp
  clear htp
  go_enter Tryd.func42, Tryd.ntmps42
  go_wp2_with fail
  rw [← HW.out]
  go_loopw [3, 4] (fun m i wr => ∃ k : Nat, k ≤ n ∧ i = .int .i64 (k : Int) ∧ m = .int .i64 (d.topF k) ∧ Hid (Below w1.heap.size w1 wr)) (fun m i wr => n - (intOf i).toNat)
  case atStart => exact ⟨0, by omega, rfl, rfl, Lib.hid (Below.refl _ _)⟩
  case round =>
    obtain ⟨k, hk, rfl, rfl, HB⟩ := hrel
    obtain ⟨tk, htk⟩ : ∃ tk, tk = d.topF k := ⟨_, rfl⟩
    have htb := topBounds d k
    rw [← htk] at htb ⊢
    have HTK := Lib.hid htk
    clear htk
    obtain ⟨A, c, c0, c3⟩ := (HBX.out.below HB.out).cells
    rw [← HN.out] at c0
    clear c3
    by_cases hkn : k < n
    case pos =>
      have hlt : decide (k < n) = true := by simp; omega
      have hl0 := (HBX.out.below HB.out).load
      go_wp2_with fail
      have HRE := Lib.hid (rread_f wr (.agg C) d (k : Int) (HBX.out.below HB.out).disk)
      refine HRE.out.mono ?_
      rintro e w2 ⟨rfl, hb2⟩
      rw [read_up HRT.out HDN.out (by rw [← HN.out]; exact hkn)]
      obtain ⟨sc, hsc⟩ : ∃ sc, d.look k = sc := ⟨_, rfl⟩
      rw [hsc]
      have HGA := Lib.hid (genAt_good hsc)
      have HB2 := Lib.hid (below_chain HB.out hb2)
      clear hl0 hb2 hsc
      have hl6 := load_sec_new w2 sc
      go_wp2_with fail
      have HB3 := Lib.hid (below_chain HB2.out ((Below.refl w2.heap.size w2).alloc (Nat.le_refl _) (secO sc)))
      refine (rsays_f _ sc (HL1.out.below HB3.out HL1.out.size)).mono ?_
      rintro e w4 ⟨v, p, rfl, hp, hpn, hfp, hp100, hb4⟩
      have HFP := Lib.hid hfp
      have HB4 := Lib.hid (below_chain HB3.out hb4)
      obtain ⟨A', n', c', rfl, hn', hrow⟩ := hp
      clear hl6 hpn hfp hp100 hb4 hn' hrow
      have HB5 := Lib.hid (below_chain HB4.out ((Below.refl w4.heap.size w4).alloc (Nat.le_refl _) (.cells #[.int .i64 p.gen, .int .i64 p.index, .int .u8 p.marks.toNat, .slice A' n' c'] 94)))
      have HNX := Lib.hid (show d.topF (k + 1) = max tk (d.genAt k) by rw [HTK.out]; rfl)
      cases hg : goodS sc with
      | false =>
        rw [hg] at HGA
        have HV := Lib.hid (show d.topF (k + 1) = tk by rw [HNX.out, HGA.out]; simp; omega)
        clear hg
        go_wp2_with fail
        go_roundw
        case rel => exact ⟨k + 1, by omega, rfl, by rw [HV.out], HB5⟩
        case measure => simp [intOf]; omega
      | true =>
        rw [hg] at HGA
        have hpe : p = rawP sc := HFP.out hg
        have HV := Lib.hid (show d.topF (k + 1) = max tk p.gen by rw [HNX.out, HGA.out, hpe]; rfl)
        clear hg hpe
        by_cases hm : tk < p.gen
        · have HV2 := Lib.hid (show d.topF (k + 1) = p.gen by rw [HV.out]; omega)
          go_wp2_with fail
          go_roundw
          case rel => exact ⟨k + 1, by omega, rfl, by rw [HV2.out], HB5⟩
          case measure => simp [intOf]; omega
        · have hm2 : p.gen ≤ tk := by omega
          have HV2 := Lib.hid (show d.topF (k + 1) = tk by rw [HV.out]; omega)
          go_wp2_with fail
          go_roundw
          case rel => exact ⟨k + 1, by omega, rfl, by rw [HV2.out], HB5⟩
          case measure => simp [intOf]; omega
    obtain rfl : k = n := by omega
    have hlt : decide (k < k) = false := by simp
    have HTT := Lib.hid (show tp = tk by rw [HTP.out, HTOP.out, HTK.out])
    go_wp2_with fail
    go_ret
    rw [HTT.out]
    exact ⟨rfl, below_chain HB1.out HB.out⟩
end Go.Proofs.YtbhjigejpdbeiaaDoor
end

section
/-
  Rows of parts; the reference's parts of a record.
-/
namespace Go.Proofs.YtbhjigejpdbeiaaDoor
open Go.RowKit Go.Shelf
set_option linter.unusedVariables false
set_option maxRecDepth 8000

/-- A slice of a slice of bytes. -/
theorem row_cut {w : World} {A : Option Addr} {n c : Nat} {l : List UInt8} (h : RowOf w 1 A n c (Lib.byteCells l)) (lo hi : Nat) (h1 : lo ≤ hi) (h2 : hi ≤ n) :
    ∃ B, (∀ W, (Instr.slice 28 (.slice A n c) (some (.int .i64 (lo : Int))) (some (.int .i64 (hi : Int))) none).run Tryd.prog W = .ok (.slice B (hi - lo) (c - lo)) W) ∧ RowOf w 1 B (hi - lo) (c - lo) (Lib.byteCells ((l.drop lo).take (hi - lo))) ∧
      ∀ x, B = some x → 0 < hi - lo → ∃ y, A = some y ∧ y.block = x.block := by
  have hnc := h.2.1
  have hcc := h.2.2.1
  refine ⟨if c = lo then A else A.map fun a => a.add lo, ?_, ?_, ?_⟩
  · intro W
    have q1 : (0 : Int) ≤ (lo : Int) := by omega
    have q2 : (lo : Int) ≤ (hi : Int) := by omega
    have q3 : (hi : Int) ≤ (c : Int) := by omega
    go_simp
  · by_cases hc : c = lo
    · rw [if_pos hc]
      have e : hi - lo = 0 := by omega
      rw [e, List.take_zero]
      exact ⟨rfl, by omega, by omega, fun q => by have := h.2.2.2.1 q; omega, fun y _ h0 => by omega⟩
    · rw [if_neg hc]
      have hd := row_take (row_drop h lo (by omega) (by omega)) (hi - lo) (by omega)
      refine (?_ : RowOf w 1 (A.map fun a => a.add lo) (hi - lo) (c - lo) _)
      by_cases h0 : 0 < n
      · cases A with
        | none => have := h.2.2.2.1 rfl; omega
        | some a =>
          obtain ⟨k1, k2, k3⟩ := h.2.2.2.2 a rfl h0
          obtain ⟨b, o, sp⟩ := a
          obtain rfl : sp = none := k1
          rw [Option.map_some, add_none]
          exact hd
      · have e : hi - lo = 0 := by omega
        rw [e, List.take_zero]
        refine ⟨rfl, by omega, by omega, fun q => ?_, fun y _ h0 => by omega⟩
        cases A with
        | none => have := h.2.2.2.1 rfl; omega
        | some a => cases q
  · intro x hx h0
    by_cases hc : c = lo
    · omega
    · rw [if_neg hc] at hx
      cases A with
      | none => cases hx
      | some a =>
        rw [Option.map_some] at hx
        injection hx with hx
        refine ⟨a, rfl, ?_⟩
        rw [← hx]
        obtain ⟨k1, _⟩ := h.2.2.2.2 a rfl (by omega)
        obtain ⟨b, o, sp⟩ := a
        obtain rfl : sp = none := k1
        rw [add_none]
/-- Each block of four cells is a part, whose bytes lie below a block. -/
structure PartSet (w : World) (top : Nat) (cs : List (List Value)) (ps : List Part) : Prop where
  len : cs.length = ps.length
  row : ∀ (i : Nat) (p : Part), ps[i]? = some p → ∃ B m k, cs[i]? = some (partC p.gen p.index (p.marks.toNat : Int) B m k) ∧ m = p.data.length ∧ RowOf w 1 B m k (Lib.byteCells p.data) ∧ ∀ x, B = some x → 0 < m → x.block < top
theorem partSet_nil (w : World) (top : Nat) : PartSet w top [] [] := ⟨rfl, fun i p h => by simp at h⟩
theorem PartSet.below {w w' : World} {top B : Nat} {cs : List (List Value)} {ps : List Part} (h : PartSet w top cs ps) (hb : Below B w w') (hB : top ≤ B) : PartSet w' top cs ps :=
  ⟨h.len, fun i p hp => by
    obtain ⟨B', m, k, e1, e2, e3, e4⟩ := h.row i p hp
    exact ⟨B', m, k, e1, e2, e3.below hb (fun x hx h0 => by have := e4 x hx h0; omega), e4⟩⟩
theorem PartSet.keep {w w' : World} {top : Nat} {cs : List (List Value)} {ps : List Part} (h : PartSet w top cs ps) (hs : w.heap.size ≤ w'.heap.size) (hk : ∀ b, b < w.heap.size → b < top → w'.heap[b]? = w.heap[b]?) : PartSet w' top cs ps :=
  ⟨h.len, fun i p hp => by
    obtain ⟨B', m, k, e1, e2, e3, e4⟩ := h.row i p hp
    exact ⟨B', m, k, e1, e2, e3.keep hs (fun x hx h0 hl => hk _ hl (e4 x hx h0)), e4⟩⟩
theorem PartSet.four {w : World} {top : Nat} {cs : List (List Value)} {ps : List Part} (h : PartSet w top cs ps) : ∀ x ∈ cs, x.length = 4 := by
  intro x hx
  obtain ⟨i, hi⟩ := List.getElem?_of_mem hx
  have hlt := (List.getElem?_eq_some_iff.1 hi).1
  obtain ⟨B, m, k, e, _⟩ := h.row i _ (List.getElem?_eq_getElem (by rw [← h.len]; exact hlt))
  rw [hi] at e
  cases e
  rfl
theorem PartSet.cellsOne {w : World} {top : Nat} {cs : List (List Value)} {ps : List Part} (h : PartSet w top cs ps) : ∀ v ∈ cs.flatten, v.oneCell' = true := by
  intro v hv
  obtain ⟨x, hx, hvx⟩ := List.mem_flatten.1 hv
  obtain ⟨i, hi⟩ := List.getElem?_of_mem hx
  have hlt := (List.getElem?_eq_some_iff.1 hi).1
  obtain ⟨B, m, k, e, _⟩ := h.row i _ (List.getElem?_eq_getElem (by rw [← h.len]; exact hlt))
  rw [hi] at e
  cases e
  exact partC_one _ _ _ _ _ _ v hvx
theorem PartSet.app {w : World} {top : Nat} {cs cs' : List (List Value)} {ps ps' : List Part} (h : PartSet w top cs ps) (h' : PartSet w top cs' ps') : PartSet w top (cs ++ cs') (ps ++ ps') :=
  ⟨by simp [h.len, h'.len], fun i p hp => by
    rcases Nat.lt_or_ge i ps.length with hi | hi
    · rw [List.getElem?_append_left hi] at hp
      obtain ⟨B, m, k, e1, e2⟩ := h.row i p hp
      exact ⟨B, m, k, by rw [List.getElem?_append_left (by rw [h.len]; exact hi)]; exact e1, e2⟩
    · rw [List.getElem?_append_right hi] at hp
      obtain ⟨B, m, k, e1, e2⟩ := h'.row _ p hp
      exact ⟨B, m, k, by rw [List.getElem?_append_right (by rw [h.len]; exact hi), h.len]; exact e1, e2⟩⟩
theorem partSet_one {w : World} {top : Nat} {p : Part} {B : Option Addr} {m k : Nat} (hm : m = p.data.length) (hr : RowOf w 1 B m k (Lib.byteCells p.data)) (hx : ∀ x, B = some x → 0 < m → x.block < top) : PartSet w top [partC p.gen p.index (p.marks.toNat : Int) B m k] [p] :=
  ⟨rfl, fun i q hq => by
    cases i with
    | zero => simp at hq; subst hq; exact ⟨B, m, k, rfl, hm, hr, hx⟩
    | succ i => simp at hq⟩
theorem infoPart : (Tryd.prog.info? 94).map (fun i => (i.zero, i.size, i.bytes)) = some (some (.agg #[.int .i64 0, .int .i64 0, .int .u8 0, .slice none 0 0]), 4, 48) := by kernel_rfl
theorem infopart : (Tryd.prog.info? 100).map (fun i => (i.zero, i.size, i.bytes)) = some (some (.agg #[.int .i64 0, .int .i64 0, .int .u8 0, .slice none 0 0]), 4, 48) := by kernel_rfl
@[irreducible] def bcut (v : Value) (lo hi mx : Option Value) : Sem Value := Instr.slice 28 v lo hi mx
theorem bcut_def (v : Value) (lo hi mx : Option Value) : Instr.slice 28 v lo hi mx = bcut v lo hi mx := by unfold bcut; rfl
theorem part_row (w : World) (g i m : Int) (A : Option Addr) (n c : Nat) (T : TypeId) : RowOf (w.alloc (.cells #[.int .i64 g, .int .i64 i, .int .u8 m, .slice A n c] T)) 4 (some ⟨w.heap.size, 0, none⟩) 1 1 (partC g i m A n c) := by
  refine ⟨rfl, Nat.le_refl _, by omega, (fun h => by cases h), fun y hy _ => ?_⟩
  injection hy with hy; subst hy
  exact ⟨rfl, by simp, range_new w (partC g i m A n c) T⟩
/-- A record's parts, as the functions answer them. -/
def PartsPost (T : TypeId) (r : List UInt8) (gen : Int) (index top : Nat) (w : World) (e : Ending) (w' : World) : Prop :=
  ∃ v cs, e = .returned v ∧ w'.ownsRow w.heap.size T 4 v (sizeN r.length) cs.flatten ∧ PartSet w' top cs (Dk.parts r gen index) ∧ Below w.heap.size w w'
theorem parts_take (r : List UInt8) (gen index : Int) (k : Nat) (hk : k ≤ sizeN r.length) : (Dk.parts r gen index).take k = (List.range k).map (Dk.partN r gen index) := by
  rw [Dk.parts, ← List.map_take, List.take_range, Nat.min_eq_left hk]
def PtRel (z top : Nat) (w' : World) (T : TypeId) (r : List UInt8) (gen : Int) (index : Nat) (v i : Value) (wr : World) : Prop :=
  ∃ (k : Nat) (cs : List (List Value)), i = .int .i64 (k : Int) ∧ k ≤ z ∧ Hid (Below w'.heap.size w' wr) ∧ Hid (wr.ownsRow w'.heap.size T 4 v k cs.flatten) ∧ Hid (PartSet wr top cs ((List.range k).map (Dk.partN r gen index)))
def markN' (i z : Nat) : UInt8 := (if i = 0 then 1 else 0) ||| (if i + 1 = z then 2 else 0)
attribute [local go_sem ↓] bcut_def
set_option maxHeartbeats 1000000 in
theorem rparts_f (w : World) (A : Option Addr) (n c : Nat) (r : List UInt8) (gen : Int) (index : Nat) (hn : n = r.length) (hr : RowOf w 1 A n c (Lib.byteCells r)) (h4 : n ≤ 4096) (hi : index ≤ 1000000) (top : Nat) (htop : ∀ x, A = some x → 0 < n → x.block < top) (htop2 : top ≤ w.heap.size) :
    Calls Tryd.prog 38 #[.slice A n c, .int .i64 gen, .int .i64 (index : Int)] w fun e w' => PartsPost 94 r gen index top w e w' := by
  have HN := Lib.hid hn
  have HR := Lib.hid hr
  have HTOP := Lib.hid htop
  clear htop
  obtain ⟨s1, s2, s3, s4, s5, s6⟩ := Jp.sizeN_pos (n := n) h4
  have HSZ := Lib.hid (rsize_f w (n : Int) (by omega) (by omega))
  rw [jsize_cast] at HSZ
  have HLAST := Lib.hid (Jp.mark_last r)
  have HFIRST := Lib.hid (Jp.mark_first r)
  generalize hz : sizeN n = z at *
  have HZ := Lib.hid (show sizeN r.length = z by rw [← hn]; exact hz)
  have HS6 := Lib.hid s6
  clear hn hr s5 s6 hz
  go_enter Tryd.func38, Tryd.ntmps38
  go_wp2_with fail
  refine HSZ.out.mono ?_
  rintro e w' ⟨rfl, rfl⟩
  go_wp2_with fail
  go_loopw [7, 9] (fun v i wr => PtRel z top w' 94 r gen index v i wr) (fun v i wr => z - (intOf i).toNat)
  case atStart => exact ⟨0, [], rfl, by omega, Lib.hid (Below.refl _ _), Lib.hid (World.ownsRow_nil w' w'.heap.size 94 4), Lib.hid (partSet_nil _ _)⟩
  case round =>
    obtain ⟨k, cs, rfl, hk, HB, HO, HPS⟩ := hrel
    obtain ⟨Av, cv, rfl, hrowv, hlov⟩ := row_of_own HO.out
    clear hrowv hlov
    by_cases hkz : k < z
    case neg =>
      obtain rfl : k = z := by omega
      have hlt : decide (k < k) = false := by simp
      go_wp2_with fail
      go_ret
      refine ⟨_, cs, rfl, ?_, ?_, HB.out⟩
      · rw [HZ.out]; exact HO.out
      · rw [Dk.parts, HZ.out]; exact HPS.out
    have hlt : decide (k < z) = true := by simp; omega
    have k1 : IntKind.i64.wrap (100 * (k : Int)) = 100 * (k : Int) := IntWalk.i64_in _ (by omega)
    have k2 : IntKind.i64.wrap (100 * (k : Int) + 100) = 100 * (k : Int) + 100 := IntWalk.i64_in _ (by omega)
    have k3 : IntKind.i64.wrap ((index : Int) + (k : Int)) = (index : Int) + (k : Int) := IntWalk.i64_in _ (by omega)
    have hk41 : k ≤ 41 := by omega
    have HOX := Lib.hid (show ∀ W, Below wr.heap.size wr W → W.ownsRow w'.heap.size 94 4 (.slice Av k cv) k cs.flatten from fun W hW => own_below HO.out hW (Nat.le_refl _))
    have HSZW := Lib.hid (show ∀ o o', w'.heap.size ≤ ((wr.alloc o).alloc o').heap.size from fun o o' => by have := HB.out.size; simp; omega)
    have HMK := Lib.hid (show markN' k z = Jp.markN r k by unfold markN' Jp.markN; rw [HZ.out])
    by_cases hlast : k + 1 = z
    case pos =>
      have hmn : (n : Int) ≤ 100 * (k : Int) + 100 := by omega
      have hkl : ((k : Int) == (z : Int) - 1) = true := by rw [beq_iff_eq]; omega
      have HLS := Lib.hid hlast
      have hkz' : z ≤ k + 1 := by omega
      clear hlast
      obtain ⟨B, hrun, hrowB, hblk⟩ := row_cut HR.out (100 * k) (n) (by omega) (by omega)
      have HROWB := Lib.hid hrowB
      have HBLK := Lib.hid hblk
      have hruns : ∀ W, (bcut (.slice A n c) (some (.int .i64 (100 * (k : Int)))) (some (.int .i64 (n : Int))) none).run Tryd.prog W = .ok (.slice B (n - 100 * k) (c - 100 * k)) W := fun W => by
        have e1 := hrun W
        rw [bcut_def] at e1
        have e2 : ((100 * k : Nat) : Int) = 100 * (k : Int) := by omega
        have e3 : ((n : Nat) : Int) = (n : Int) := rfl
        rw [e2, e3] at e1
        exact e1
      clear hrowB hblk hrun
      have HNEW := Lib.hid (show ∀ m : Int, RowOf ((wr.alloc (.cells #[.int .i64 gen, .int .i64 ((index : Int) + (k : Int)), .int .u8 m, .slice B (n - 100 * k) (c - 100 * k)] 94)).alloc (.cells #[.int .i64 gen, .int .i64 ((index : Int) + (k : Int)), .int .u8 m, .slice B (n - 100 * k) (c - 100 * k)] 94)) 4 (some ⟨wr.heap.size + 1, 0, none⟩) 1 1 (partC gen ((index : Int) + (k : Int)) m B (n - 100 * k) (c - 100 * k)) from fun m => by
        have := part_row (wr.alloc (.cells #[.int .i64 gen, .int .i64 ((index : Int) + (k : Int)), .int .u8 m, .slice B (n - 100 * k) (c - 100 * k)] 94)) gen ((index : Int) + (k : Int)) m B (n - 100 * k) (c - 100 * k) 94
        rwa [size_alloc] at this)
      have HC1 := Lib.hid (show ∀ m : Int, ∀ u ∈ partC gen ((index : Int) + (k : Int)) m B (n - 100 * k) (c - 100 * k), u.oneCell' = true from fun m => partC_one _ _ _ _ _ _)
      have HEND := Lib.hid (show ∀ m : Int, ((Jp.markN r k).toNat : Int) = m → ∀ (A9 : Option Addr) (c9 : Nat) (w9 : World), w9.ownsRow w'.heap.size 94 4 (.slice A9 (k + 1) c9) (k + 1) (cs.flatten ++ partC gen ((index : Int) + (k : Int)) m B (n - 100 * k) (c - 100 * k)) →
          ((wr.alloc (.cells #[.int .i64 gen, .int .i64 ((index : Int) + (k : Int)), .int .u8 m, .slice B (n - 100 * k) (c - 100 * k)] 94)).alloc (.cells #[.int .i64 gen, .int .i64 ((index : Int) + (k : Int)), .int .u8 m, .slice B (n - 100 * k) (c - 100 * k)] 94)).grownBy w9 (Value.slice Av k cv).ownBlock →
          PtRel z top w' 94 r gen index (.slice A9 (k + 1) c9) (.int .i64 ((k : Int) + 1)) w9 from by
        intro m hm A9 c9 w9 h9 hg9
        have hb2 : Below w'.heap.size w' w9 := (((HB.out.alloc HB.out.size _).alloc (by have := HB.out.size; simp; omega) _).grown hg9 (by have := HB.out.size; simp; omega) (fun q e => (own_lt HO.out q e).1))
        have hb3 : Below w'.heap.size wr w9 := ((((Below.refl w'.heap.size wr).alloc HB.out.size _).alloc (by have := HB.out.size; simp; omega) _).grown hg9 (by have := HB.out.size; simp; omega) (fun q e => (own_lt HO.out q e).1))
        refine ⟨k + 1, cs ++ [partC gen ((index : Int) + (k : Int)) m B (n - 100 * k) (c - 100 * k)], rfl, by omega, Lib.hid hb2, Lib.hid ?_, Lib.hid ?_⟩
        · rw [List.flatten_append, List.flatten_singleton]; exact h9
        · rw [List.range_succ, List.map_append, List.map_singleton]
          refine (HPS.out.below hb3 htop2).app ?_
          have hd : (Dk.partN r gen index k).data = (r.drop (100 * k)).take (n - 100 * k) := by
            show (r.drop (100 * k)).take 100 = _
            rw [List.take_of_length_le (by rw [List.length_drop, ← HN.out]; omega), List.take_of_length_le (by rw [List.length_drop, ← HN.out]; omega)]
          have hlen : n - 100 * k = (Dk.partN r gen index k).data.length := by
            rw [hd, List.length_take, List.length_drop, ← HN.out]; omega
          have := partSet_one (w := w9) (top := top) (p := Dk.partN r gen index k) (B := B) (k := c - 100 * k) hlen (by
            rw [hd]
            exact HROWB.out.below (B := w'.heap.size) (hb2) (fun x hx h0 => by
              obtain ⟨y, hy, hxy⟩ := HBLK.out x hx h0
              have := (HR.out.2.2.2.2 y hy (by omega)).2.1
              omega)) (fun x hx h0 => by
              obtain ⟨y, hy, hxy⟩ := HBLK.out x hx h0
              have := HTOP.out y hy (by omega)
              omega)
          rw [← hm]
          exact this)
      by_cases hk0' : k = 0
      case pos =>
        have hk0 : ((k : Int) == 0) = true := by rw [beq_iff_eq]; omega
        have HMM := Lib.hid (show ((Jp.markN r k).toNat : Int) = 3 by
          rw [← HMK.out, markN', if_pos hk0', if_pos HLS.out]; rfl)
        clear hk0'
        go_wp2_with (at_builtin; refine append_row rfl (.tmp 45) (.tmp 47) 73 94 rfl Tryd.underlying73 w'.heap.size _ 4 48 infoPart rfl (by decide) _ _ _ rfl (HOX.out _ (((Below.refl _ _).alloc (Nat.le_refl _) _).alloc (by simp) _)) (some ⟨wr.heap.size + 1, 0, none⟩) 1 1 (partC gen ((index : Int) + (k : Int)) 3 B (n - 100 * k) (c - 100 * k)) rfl (HNEW.out 3) (HC1.out 3) (by omega) (by decide) (HSZW.out _ _) ?_)
        intro v' w9 k1 k2
        obtain ⟨A9, c9, rfl, hrow9, hlo9⟩ := row_of_own k1
        have HNX := Lib.hid (HEND.out 3 HMM.out A9 c9 w9 k1 k2)
        clear k1 k2 hrow9 hlo9
        go_wp2_with fail
        go_roundw
        case rel => exact HNX.out
        case measure => simp [intOf]; omega
      case neg =>
        have hk0 : ((k : Int) == 0) = false := by rw [beq_eq_false_iff_ne]; omega
        have HMM := Lib.hid (show ((Jp.markN r k).toNat : Int) = 2 by
          rw [← HMK.out, markN', if_neg hk0', if_pos HLS.out]; rfl)
        clear hk0'
        go_wp2_with (at_builtin; refine append_row rfl (.tmp 45) (.tmp 47) 73 94 rfl Tryd.underlying73 w'.heap.size _ 4 48 infoPart rfl (by decide) _ _ _ rfl (HOX.out _ (((Below.refl _ _).alloc (Nat.le_refl _) _).alloc (by simp) _)) (some ⟨wr.heap.size + 1, 0, none⟩) 1 1 (partC gen ((index : Int) + (k : Int)) 2 B (n - 100 * k) (c - 100 * k)) rfl (HNEW.out 2) (HC1.out 2) (by omega) (by decide) (HSZW.out _ _) ?_)
        intro v' w9 k1 k2
        obtain ⟨A9, c9, rfl, hrow9, hlo9⟩ := row_of_own k1
        have HNX := Lib.hid (HEND.out 2 HMM.out A9 c9 w9 k1 k2)
        clear k1 k2 hrow9 hlo9
        go_wp2_with fail
        go_roundw
        case rel => exact HNX.out
        case measure => simp [intOf]; omega
    have hmn : 100 * (k : Int) + 100 < (n : Int) := by have := HS6.out (by omega); omega
    have hkl : ((k : Int) == (z : Int) - 1) = false := by rw [beq_eq_false_iff_ne]; omega
    obtain ⟨hi', hhi⟩ : ∃ hi' : Nat, hi' = 100 * k + 100 := ⟨_, rfl⟩
    obtain ⟨B, hrun, hrowB, hblk⟩ := row_cut HR.out (100 * k) hi' (by omega) (by omega)
    have HROWB := Lib.hid hrowB
    have HBLK := Lib.hid hblk
    have hruns : ∀ W, (bcut (.slice A n c) (some (.int .i64 (100 * (k : Int)))) (some (.int .i64 (100 * (k : Int) + 100))) none).run Tryd.prog W = .ok (.slice B (hi' - 100 * k) (c - 100 * k)) W := fun W => by
      have e1 := hrun W
      rw [bcut_def] at e1
      have e2 : ((100 * k : Nat) : Int) = 100 * (k : Int) := by omega
      have e3 : ((hi' : Nat) : Int) = 100 * (k : Int) + 100 := by omega
      rw [e2, e3] at e1
      exact e1
    clear hrowB hblk hrun
    have HNEW := Lib.hid (show ∀ m : Int, RowOf ((wr.alloc (.cells #[.int .i64 gen, .int .i64 ((index : Int) + (k : Int)), .int .u8 m, .slice B (hi' - 100 * k) (c - 100 * k)] 94)).alloc (.cells #[.int .i64 gen, .int .i64 ((index : Int) + (k : Int)), .int .u8 m, .slice B (hi' - 100 * k) (c - 100 * k)] 94)) 4 (some ⟨wr.heap.size + 1, 0, none⟩) 1 1 (partC gen ((index : Int) + (k : Int)) m B (hi' - 100 * k) (c - 100 * k)) from fun m => by
      have := part_row (wr.alloc (.cells #[.int .i64 gen, .int .i64 ((index : Int) + (k : Int)), .int .u8 m, .slice B (hi' - 100 * k) (c - 100 * k)] 94)) gen ((index : Int) + (k : Int)) m B (hi' - 100 * k) (c - 100 * k) 94
      rwa [size_alloc] at this)
    have HC1 := Lib.hid (show ∀ m : Int, ∀ u ∈ partC gen ((index : Int) + (k : Int)) m B (hi' - 100 * k) (c - 100 * k), u.oneCell' = true from fun m => partC_one _ _ _ _ _ _)
    have HEND := Lib.hid (show ∀ m : Int, ((Jp.markN r k).toNat : Int) = m → ∀ (A9 : Option Addr) (c9 : Nat) (w9 : World), w9.ownsRow w'.heap.size 94 4 (.slice A9 (k + 1) c9) (k + 1) (cs.flatten ++ partC gen ((index : Int) + (k : Int)) m B (hi' - 100 * k) (c - 100 * k)) →
        ((wr.alloc (.cells #[.int .i64 gen, .int .i64 ((index : Int) + (k : Int)), .int .u8 m, .slice B (hi' - 100 * k) (c - 100 * k)] 94)).alloc (.cells #[.int .i64 gen, .int .i64 ((index : Int) + (k : Int)), .int .u8 m, .slice B (hi' - 100 * k) (c - 100 * k)] 94)).grownBy w9 (Value.slice Av k cv).ownBlock →
        PtRel z top w' 94 r gen index (.slice A9 (k + 1) c9) (.int .i64 ((k : Int) + 1)) w9 from by
      intro m hm A9 c9 w9 h9 hg9
      have hb2 : Below w'.heap.size w' w9 := (((HB.out.alloc HB.out.size _).alloc (by have := HB.out.size; simp; omega) _).grown hg9 (by have := HB.out.size; simp; omega) (fun q e => (own_lt HO.out q e).1))
      have hb3 : Below w'.heap.size wr w9 := ((((Below.refl w'.heap.size wr).alloc HB.out.size _).alloc (by have := HB.out.size; simp; omega) _).grown hg9 (by have := HB.out.size; simp; omega) (fun q e => (own_lt HO.out q e).1))
      refine ⟨k + 1, cs ++ [partC gen ((index : Int) + (k : Int)) m B (hi' - 100 * k) (c - 100 * k)], rfl, by omega, Lib.hid hb2, Lib.hid ?_, Lib.hid ?_⟩
      · rw [List.flatten_append, List.flatten_singleton]; exact h9
      · rw [List.range_succ, List.map_append, List.map_singleton]
        refine (HPS.out.below hb3 htop2).app ?_
        have hd : (Dk.partN r gen index k).data = (r.drop (100 * k)).take (hi' - 100 * k) := by
          show (r.drop (100 * k)).take 100 = _
          congr 1; omega
        have hlen : hi' - 100 * k = (Dk.partN r gen index k).data.length := by
          rw [hd, List.length_take, List.length_drop, ← HN.out]; omega
        have := partSet_one (w := w9) (top := top) (p := Dk.partN r gen index k) (B := B) (k := c - 100 * k) hlen (by
          rw [hd]
          exact HROWB.out.below (B := w'.heap.size) (hb2) (fun x hx h0 => by
            obtain ⟨y, hy, hxy⟩ := HBLK.out x hx h0
            have := (HR.out.2.2.2.2 y hy (by omega)).2.1
            omega)) (fun x hx h0 => by
            obtain ⟨y, hy, hxy⟩ := HBLK.out x hx h0
            have := HTOP.out y hy (by omega)
            omega)
        rw [← hm]
        exact this)
    have HHI := Lib.hid hhi
    clear hhi
    by_cases hk0' : k = 0
    case pos =>
      have hk0 : ((k : Int) == 0) = true := by rw [beq_iff_eq]; omega
      have HMM := Lib.hid (show ((Jp.markN r k).toNat : Int) = 1 by
        rw [← HMK.out, markN', if_pos hk0', if_neg hlast]; rfl)
      clear hk0'
      go_wp2_with (at_builtin; refine append_row rfl (.tmp 45) (.tmp 47) 73 94 rfl Tryd.underlying73 w'.heap.size _ 4 48 infoPart rfl (by decide) _ _ _ rfl (HOX.out _ (((Below.refl _ _).alloc (Nat.le_refl _) _).alloc (by simp) _)) (some ⟨wr.heap.size + 1, 0, none⟩) 1 1 (partC gen ((index : Int) + (k : Int)) 1 B (hi' - 100 * k) (c - 100 * k)) rfl (HNEW.out 1) (HC1.out 1) (by omega) (by decide) (HSZW.out _ _) ?_)
      intro v' w9 k1 k2
      obtain ⟨A9, c9, rfl, hrow9, hlo9⟩ := row_of_own k1
      have HNX := Lib.hid (HEND.out 1 HMM.out A9 c9 w9 k1 k2)
      clear k1 k2 hrow9 hlo9
      go_wp2_with fail
      go_roundw
      case rel => exact HNX.out
      case measure => simp [intOf]; omega
    case neg =>
      have hk0 : ((k : Int) == 0) = false := by rw [beq_eq_false_iff_ne]; omega
      have HMM := Lib.hid (show ((Jp.markN r k).toNat : Int) = 0 by
        rw [← HMK.out, markN', if_neg hk0', if_neg hlast]; rfl)
      clear hk0'
      go_wp2_with (at_builtin; refine append_row rfl (.tmp 45) (.tmp 47) 73 94 rfl Tryd.underlying73 w'.heap.size _ 4 48 infoPart rfl (by decide) _ _ _ rfl (HOX.out _ (((Below.refl _ _).alloc (Nat.le_refl _) _).alloc (by simp) _)) (some ⟨wr.heap.size + 1, 0, none⟩) 1 1 (partC gen ((index : Int) + (k : Int)) 0 B (hi' - 100 * k) (c - 100 * k)) rfl (HNEW.out 0) (HC1.out 0) (by omega) (by decide) (HSZW.out _ _) ?_)
      intro v' w9 k1 k2
      obtain ⟨A9, c9, rfl, hrow9, hlo9⟩ := row_of_own k1
      have HNX := Lib.hid (HEND.out 0 HMM.out A9 c9 w9 k1 k2)
      clear k1 k2 hrow9 hlo9
      go_wp2_with fail
      go_roundw
      case rel => exact HNX.out
      case measure => simp [intOf]; omega
end Go.Proofs.YtbhjigejpdbeiaaDoor
end

section
/-
  The reference's put: parts are written, and synced.
-/
namespace Go.Proofs.YtbhjigejpdbeiaaDoor
open Go.RowKit Go.Shelf
set_option linter.unusedVariables false
set_option maxRecDepth 8000

theorem part_in {w : World} {A : Option Addr} {n c : Nat} {cs : List (List Value)} (h4 : ∀ x ∈ cs, x.length = 4) (h : RowOf w 4 A n c cs.flatten) {i : Nat} {X : List Value} (hi : cs[i]? = some X) (hn : i < n) :
    ∃ b o, A = some ⟨b, o, none⟩ ∧ b < w.heap.size ∧ w.rangeAt b (o + i * 4) X := by
  obtain ⟨b, o, rfl, hb, hx⟩ := row_at h (by omega)
  refine ⟨b, o, rfl, hb, ?_⟩
  obtain ⟨P, Q, e1, e2, _⟩ := flat_split h4 hi
  rw [e1] at hx
  rw [← e2]
  exact range_sub hx
theorem half_of {d x : Dk} (h : x.secs.length = d.secs.length) : x.half = d.half := by unfold Dk.half; rw [h]
theorem step_secs' (d : Dk) : d.step.1.secs = d.secs := by rw [Dk.step]; split <;> rfl
theorem write_secs (d : Dk) (i : Int) (s : Sec) : (d.write i s).1.secs = d.secs := by
  have h1 := step_secs' d
  unfold Dk.write
  split
  · split
    · rfl
    · split
      · rename_i x hx; rw [hx] at h1; exact h1
      · rename_i x hx; rw [hx] at h1; exact h1
  · rfl
/-- What put answers. -/
def PutPost (v : Value) (d : Dk) (h : Nat) (l : List Part) (w : World) (e : Ending) (w' : World) : Prop := DiskOut2 v (d.puts h l).1 (.int .i64 (d.puts h l).2) w e w'
theorem diskVar_run {w : World} {a : Addr} {v : Value} (h : (diskVar a).run Tryd.prog w = .ok v w) : (loadVar 25 a).run Tryd.prog w = .ok v w := by
  unfold diskVar at h; exact h
/-- Between two rounds. -/
def PuRel (C0 : Array Value) (d : Dk) (h : Nat) (l : List Part) (w1 : World) (bb : Nat) (ix : Value) (wr : World) : Prop :=
  ∃ (k : Nat) (x : Dk) (C : Array Value), ix = .int .i64 (k : Int) ∧ k ≤ l.length ∧ Hid (x.secs.length = d.secs.length) ∧ Hid (d.puts h l = x.puts h (l.drop k)) ∧ Hid (BoxAt wr bb C x) ∧ Hid (D4 C) ∧ Hid (Clear bb (.agg C)) ∧ Hid (Clear (bb + 1) (.agg C)) ∧ Hid (wr.there bb 0 4 ∧ wr.there (bb + 1) 0 4) ∧ Hid (Below bb w1 wr) ∧ Hid (∀ b, b < bb → Clear b (.agg C0) → Clear b (.agg C))
set_option maxHeartbeats 2000000 in
theorem rput_f (w : World) (C0 : Array Value) (d : Dk) (h : Nat) (A : Option Addr) (n c : Nat) (cs : List (List Value)) (l : List Part) (hd : DiskAt w (.agg C0) d) (h4 : D4 C0) (hh : h ≤ 1) (hs : d.secs.length ≤ 2048)
    (hn : n = l.length) (hn2 : n ≤ 100000) (hrow : RowOf w 4 A n c cs.flatten) (hps : PartSet w w.heap.size cs l) (hl : ∀ p ∈ l, p.data.length ≤ 100 ∧ 0 ≤ p.index ∧ p.index ≤ 1000000) (hL : LaidR w) :
    Calls Tryd.prog 39 #[.agg C0, .int .i64 (h : Int), .slice A n c] w fun e w' => PutPost (.agg C0) d h l w e w' := by
  have hz : D4 #[.slice none 0 0, .slice none 0 0, .int .i64 0, .bool false] := ⟨rfl, fun v hv => by
    simp only [List.mem_cons, List.not_mem_nil, or_false] at hv
    rcases hv with rfl | rfl | rfl | rfl <;> rfl⟩
  obtain ⟨w1, hw1⟩ : ∃ w1, w1 = (w.alloc (.cells C0 25)).alloc (.cells #[.slice none 0 0, .slice none 0 0, .int .i64 0, .bool false] 25) := ⟨_, rfl⟩
  obtain ⟨bb, hbb⟩ : ∃ bb, bb = w.heap.size := ⟨_, rfl⟩
  have HB1 := Lib.hid (show Below bb w w1 by rw [hw1, hbb]; exact below_two _ _ _)
  have HBX := Lib.hid (show BoxAt w1 bb C0 d by rw [hw1, hbb]; exact (box_new hd h4).below ((Below.refl _ _).alloc (Nat.le_refl _) _))
  have HTH := Lib.hid (show w1.there bb 0 4 ∧ w1.there (bb + 1) 0 4 by
    have h1 := there_disk w h4
    have h2 := there_disk (w.alloc (.cells C0 25)) hz
    rw [size_alloc] at h2
    rw [hw1, hbb]
    exact ⟨there_below h1 ((Below.refl (w.heap.size + 1) _).alloc (by simp) _) (by omega), h2⟩)
  have HCL := Lib.hid (show Clear bb (.agg C0) ∧ Clear (bb + 1) (.agg C0) from ⟨hd.clear (by omega), hd.clear (by omega)⟩)
  have HS1 := Lib.hid (show w1.heap.size = bb + 2 by rw [hw1, hbb]; simp)
  have HROW := Lib.hid hrow
  have HPS := Lib.hid hps
  have HLL := Lib.hid hl
  have HN := Lib.hid hn
  have HL := Lib.hid hL
  have H4 := Lib.hid h4
  have HW := Lib.hid hw1
  have HBB := Lib.hid hbb
  have HSZ := Lib.hid hs
  clear hd h4 hrow hps hl hn hL hw1 hbb hs
  go_enter Tryd.func39, Tryd.ntmps39
  go_wp2_with fail
  rw [← HW.out, ← HBB.out]
  go_loopw [8] (fun ix wr => PuRel C0 d h l w1 bb ix wr) (fun ix wr => n - (intOf ix).toNat)
  case atStart => exact ⟨0, d, C0, rfl, by omega, Lib.hid rfl, Lib.hid rfl, HBX, H4, Lib.hid HCL.out.1, Lib.hid HCL.out.2, HTH, Lib.hid (Below.refl _ _), Lib.hid (fun _ _ h => h)⟩
  case round =>
    obtain ⟨k, x, C, rfl, hk, HXS, HPUT, HXB, HC4, HCB, HCR, HTW, HBW, HCA⟩ := hrel
    have hkn : k ≤ n := by have := HN.out; omega
    have HBX0 := Lib.hid (HB1.out.trans HBW.out)
    by_cases hlt : k < n
    case neg =>
      have hdn : decide (k < n) = false := by simp; omega
      have HPE := Lib.hid (show d.puts h l = x.sync by rw [HPUT.out, List.drop_eq_nil_of_le (by have := HN.out; omega)]; rfl)
      clear hlt
      have hl0 := HXB.out.load
      go_wp2_with fail
      refine (rsync_f wr (.agg C) x HXB.out.disk).mono ?_
      rintro e w3 ⟨⟨u, rfl, hg1, hg2⟩, hb3⟩
      obtain ⟨C3, rfl, hc3⟩ := hg1.agg
      have HC3 := Lib.hid hc3
      have HG1 := Lib.hid hg1
      have HG2 := Lib.hid hg2
      have HB3 := Lib.hid hb3
      have hbw : bb + 2 ≤ wr.heap.size := by have := HBW.out.size; have := HS1.out; omega
      have HT3 := Lib.hid (show w3.there (bb + 1) 0 4 from there_below HTW.out.2 hb3 (by omega))
      have HCR3 := Lib.hid (hg2 (bb + 1) (by omega) HCR.out)
      have HLT3 := Lib.hid (show bb + 1 < w3.heap.size by have := hb3.size; omega)
      clear hg1 hg2 hb3 hl0
      have hst := store_disk HT3.out hc3
      go_wp2_with fail
      refine bodyPost_ret (ret_cell_tmp rfl rfl (diskVar_run (dvar_put HLT3.out HT3.out HC3.out).load)) rfl ?_
      refine (show PutPost (.agg C0) d h l w (.returned (.tuple #[.agg C3, .int .i64 (x.sync).2])) (putDisk w3 (bb + 1) C3) from ?_)
      have hpe := HPE.out
      rw [PutPost, hpe]
      refine ⟨⟨_, rfl, ?_, ?_⟩, ?_⟩
      · exact HG1.out.keep HCR3.out (by rw [size_putDisk]; exact Nat.le_refl _) (fun q _ hq => heap_putDisk _ _ _ _ hq)
      · intro b hb hcl
        rw [← HBB.out] at hb
        exact HG2.out b (by omega) (HCA.out b hb hcl)
      · rw [← HBB.out]
        exact below_putDisk (HBX0.out.trans (HB3.out.mono (by omega))) (by omega) C3
    have hdn : decide (k < n) = true := by simp; omega
    have hkl : k < l.length := by have := HN.out; omega
    obtain ⟨p, hp⟩ : ∃ p, p = l[k] := ⟨_, rfl⟩
    have hpk : l[k]? = some p := by rw [hp]; exact List.getElem?_eq_getElem hkl
    have HPK := Lib.hid hpk
    have HPL := Lib.hid (HLL.out p (by rw [hp]; exact List.getElem_mem hkl))
    have HDR := Lib.hid (show l.drop k = p :: l.drop (k + 1) by rw [hp]; exact List.drop_eq_getElem_cons hkl)
    clear hp hpk
    obtain ⟨B, m, kk, hck, hm, hrowB, hblk⟩ := HPS.out.row k p HPK.out
    obtain ⟨b, o, rfl, hb, hX⟩ := part_in HPS.out.four HROW.out hck hlt
    have HPW := Lib.hid (show ∀ W, Below bb w W → W.cell? ⟨b, o + k * 4, none⟩ = some (.int .i64 p.gen) ∧ W.cell? ⟨b, o + k * 4 + 1, none⟩ = some (.int .i64 p.index) ∧ W.cell? ⟨b, o + k * 4 + 2, none⟩ = some (.int .u8 p.marks.toNat) ∧ W.cell? ⟨b, o + k * 4 + 3, none⟩ = some (.slice B m kk) from fun W hW => by
      have hr := range_below hX hW (by rw [HBB.out]; exact hb)
      exact ⟨hr 0 _ rfl, hr 1 _ rfl, hr 2 _ rfl, hr 3 _ rfl⟩)
    have HM := Lib.hid hm
    have HRB := Lib.hid hrowB
    clear hck hm hrowB hblk hb hX
    have hd2 : (x.secs.length : Int) / 2 = (x.half : Int) := rfl
    have hxn : x.secs.length ≤ 2048 := by have := HXS.out; have := HSZ.out; omega
    have hxh : x.half ≤ 1024 := by have : x.half = x.secs.length / 2 := rfl; omega
    have hm2 := half_mul (h := h) (m := x.half) hh
    have hmul : ((h : Int) * (x.half : Int)) = ((h * x.half : Nat) : Int) := by simp
    have HSEC := Lib.hid (show ∀ W, Below wr.heap.size wr W → Calls Tryd.prog 58 #[.agg #[.int .i64 p.gen, .int .i64 p.index, .int .u8 p.marks.toNat, .slice B m kk]] W fun e w' => e = .returned (secV p.sec) ∧ Below wr.heap.size wr w' ∧ Below W.heap.size W w' from fun W hW =>
      (rsec_f W _ p ⟨B, m, kk, rfl, HM.out, (HRB.out.below (HBX0.out.trans (hW.mono (by have := HBW.out.size; have := HS1.out; omega))) (fun y hy h0 => by rw [HBB.out]; exact (HRB.out.2.2.2.2 y hy h0).2.1))⟩ HPL.out.1 (HL.out.below (HBX0.out.trans (hW.mono (by have := HBW.out.size; have := HS1.out; omega))) (by rw [HBB.out]; exact HL.out.size))).mono fun _ _ ⟨h1, h2⟩ => ⟨h1, below_chain hW h2, h2⟩)
    have hs2 : IntKind.i64.wrap (x.half : Int) = (x.half : Int) := IntWalk.i64_in _ (by omega)
    generalize hq : h * x.half = q at *
    have HQ := Lib.hid hq
    clear hq
    have hs1 : IntKind.i64.wrap ((q : Int) + p.index) = (q : Int) + p.index := IntWalk.i64_in _ (by have := HPL.out; omega)
    have hs0 : IntKind.i64.wrap (q : Int) = (q : Int) := IntWalk.i64_in _ (by omega)
    obtain ⟨X, er, hwr⟩ : ∃ X er, x.write ((q : Int) + p.index) p.sec = (X, er) := ⟨_, _, rfl⟩
    have HWRT := Lib.hid hwr
    have HXL := Lib.hid (show X.secs.length = d.secs.length by
      have := write_secs x ((q : Int) + p.index) p.sec
      rw [hwr] at this
      rw [show X.secs = x.secs from this]; exact HXS.out)
    have HWRITE := Lib.hid (show ∀ W, Below wr.heap.size wr W → Calls Tryd.prog 57 #[.agg C, .int .i64 ((q : Int) + p.index), secV p.sec] W fun e w' => ∃ C2, e = .returned (.tuple #[.agg C2, .int .i64 er]) ∧ D4 C2 ∧ DiskAt w' (.agg C2) X ∧ (∀ b, b < W.heap.size → Clear b (.agg C) → Clear b (.agg C2)) ∧ Below wr.heap.size wr w' ∧ Below W.heap.size W w' from fun W hW =>
      (rwrite_f W (.agg C) x _ p.sec (HXB.out.disk.kept hW (Nat.le_refl _))).mono fun _ _ ⟨⟨u, h1, h2, h3⟩, h4⟩ => by
        rw [hwr] at h1 h2
        obtain ⟨C2, rfl, hc2⟩ := h2.agg
        exact ⟨C2, h1, hc2, h2, h3, below_chain hW h4, h4⟩)
    obtain ⟨As, cS, c0, c3⟩ := HXB.out.cells
    have HK := Lib.hid (show ∀ W, Below wr.heap.size wr W → (diskVar ⟨bb, 0, none⟩).run Tryd.prog W = .ok (.agg C) W ∧ W.cell? ⟨bb, 0, none⟩ = some (.slice As x.secs.length cS) ∧ W.cell? ⟨b, o + k * 4, none⟩ = some (.int .i64 p.gen) ∧ W.cell? ⟨b, o + k * 4 + 1, none⟩ = some (.int .i64 p.index) ∧ W.cell? ⟨b, o + k * 4 + 2, none⟩ = some (.int .u8 p.marks.toNat) ∧ W.cell? ⟨b, o + k * 4 + 3, none⟩ = some (.slice B m kk) from fun W hW =>
      ⟨(HXB.out.below hW).load, (hW.cell (p := ⟨bb, 0, none⟩) HXB.out.var.lt).trans c0, HPW.out W (HBX0.out.trans (hW.mono (by have := HBW.out.size; have := HS1.out; omega)))⟩)
    clear c0 c3 hwr
    generalize x.secs.length = sn at *
    have HBIG := Lib.hid (show bb + 2 ≤ wr.heap.size by have := HBW.out.size; have := HS1.out; omega)
    have hb0 : Below wr.heap.size wr wr.drew := (Below.refl _ _).drew
    have kk0 : (0 : Int) ≤ (k : Int) := by omega
    have HKS := Lib.hid (show ∀ W b' cs, Below wr.heap.size wr W → wr.heap.size ≤ b' → (diskVar ⟨bb, 0, none⟩).run Tryd.prog (W.setCells b' 0 cs) = .ok (.agg C) (W.setCells b' 0 cs) ∧ (W.setCells b' 0 cs).cell? ⟨bb, 0, none⟩ = some (.slice As sn cS) ∧ (W.setCells b' 0 cs).cell? ⟨b, o + k * 4, none⟩ = some (.int .i64 p.gen) ∧ (W.setCells b' 0 cs).cell? ⟨b, o + k * 4 + 1, none⟩ = some (.int .i64 p.index) ∧ (W.setCells b' 0 cs).cell? ⟨b, o + k * 4 + 2, none⟩ = some (.int .u8 p.marks.toNat) ∧ (W.setCells b' 0 cs).cell? ⟨b, o + k * 4 + 3, none⟩ = some (.slice B m kk) from fun W b' cs hW hb => HK.out _ (below_setCells b' hb cs 0 W hW))
    go_wp2_with fail
    go_cut [9, 10] from 17 to 38 (fun s9 s10 wx => ∃ b9 C2, s9 = .pointer (some ⟨b9, 0, none⟩) ∧ s10 = .int .i64 er ∧ D4 C2 ∧ DVar wx b9 C2 ∧ DiskAt wx (.agg C2) X ∧ (∀ b, b < wr.heap.size → Clear b (.agg C) → Clear b (.agg C2)) ∧ Below wr.heap.size wr wx)
    case first =>
      go_region_held3 (fun W => (diskVar ⟨bb, 0, none⟩).run Tryd.prog W = .ok (.agg C) W ∧ W.cell? ⟨bb, 0, none⟩ = some (.slice As sn cS) ∧ W.cell? ⟨b, o + k * 4, none⟩ = some (.int .i64 p.gen) ∧ W.cell? ⟨b, o + k * 4 + 1, none⟩ = some (.int .i64 p.index) ∧ W.cell? ⟨b, o + k * 4 + 2, none⟩ = some (.int .u8 p.marks.toNat) ∧ W.cell? ⟨b, o + k * 4 + 3, none⟩ = some (.slice B m kk))
        (first | exact HK.out _ (by assumption) | exact HK.out _ (below_new (by assumption) _) | ((refine HKS.out _ _ _ ?_ ?_) <;> first | assumption | exact below_new (by assumption) _ | exact Nat.le_refl _ | exact hbc.size | exact hba.size))
        (first
          | (go_at_call 58
             (with_reducible refine (HSEC.out _ ?_).mono ?_)
             · first | assumption | exact below_new (by assumption) _
             rintro e wa ⟨rfl, hba, hxa⟩)
          | (go_at_call 57
             (with_reducible refine (HWRITE.out _ ?_).mono ?_)
             · first | assumption | exact below_new (by assumption) _
             rintro e wc ⟨C2, rfl, hc2, hg1, hg2, hbc, hxc⟩
             try have hth1 := there_below (there_disk wa hz) hxc (by simp)
             try have hth1 : wc.there wr.heap.size 0 4 := there_below (there_below (there_disk wr.drew hz) hxa (by simp)) hxc (by have := hxa.size; simp at this; omega)
             try have hst1 := store_disk hth1 hc2))
      all_goals go_wp2_with fail
      all_goals go_meet
      · exact ⟨_, C2, rfl, rfl, hc2, dvar_new wc hc2, hg1.kept ((Below.refl wc.heap.size wc).alloc (Nat.le_refl _) _) (Nat.le_refl _), fun b hb hcl => hg2 b (Nat.lt_of_lt_of_le hb (by have := hba.size; simpa using this)) hcl, below_new hbc _⟩
      · have hs1 := hba.size
        have hs2 := hxc.size
        simp at hs2
        refine ⟨_, C2, rfl, rfl, hc2, dvar_put (by omega) hth1 hc2, hg1.keep (hg2 wa.heap.size (by simp) (HXB.out.disk.clear (by simpa using hs1))) (by rw [size_putDisk]; exact Nat.le_refl _) (fun q _ hq => heap_putDisk _ _ _ _ hq), fun b hb hcl => hg2 b (by simp; omega) hcl, below_putDisk hbc (by omega) C2⟩
      · have hs1 := hxa.size
        have hs2 := hxc.size
        simp at hs1
        refine ⟨_, C2, rfl, rfl, hc2, dvar_put (by omega) hth1 hc2, hg1.keep (hg2 wr.heap.size (by omega) (HXB.out.disk.clear (Nat.le_refl _))) (by rw [size_putDisk]; exact Nat.le_refl _) (fun q _ hq => heap_putDisk _ _ _ _ hq), fun b hb hcl => hg2 b (by omega) hcl, below_putDisk hbc (Nat.le_refl _) C2⟩
    case rest =>
      rename World => wx
      obtain ⟨b9, C3, rfl, rfl, hc3, hv9, hg1, hg2, hbx⟩ := hcut
      have HPE := Lib.hid (show d.puts h l = if er = 0 then X.puts h (l.drop (k + 1)) else (X, er) by
        rw [HPUT.out, HDR.out, Dk.puts, HQ.out, HWRT.out])
      have HC3 := Lib.hid hc3
      have HG1 := Lib.hid hg1
      have HG2 := Lib.hid hg2
      have HBX3 := Lib.hid hbx
      have HT3 := Lib.hid (show wx.there bb 0 4 ∧ wx.there (bb + 1) 0 4 from ⟨there_below HTW.out.1 hbx (by have := HBIG.out; omega), there_below HTW.out.2 hbx (by have := HBIG.out; omega)⟩)
      have HCR3 := Lib.hid (hg2 (bb + 1) (by have := HBIG.out; omega) HCR.out)
      have HCB3 := Lib.hid (hg2 bb (by have := HBIG.out; omega) HCB.out)
      have HLT3 := Lib.hid (show bb + 1 < wx.heap.size by have := hbx.size; have := HBIG.out; omega)
      have hl9 := hv9.load
      have hst := store_disk HT3.out.1 hc3
      clear hg1 hg2 hbx hv9 hd2 hmul hs1 hs0 hs2
      go_upto_region 6 with fail
      clear hl9 hst
      obtain ⟨wy, hwy⟩ : ∃ wy, wy = putDisk wx bb C3 := ⟨_, rfl⟩
      rw [← hwy]
      have HDY := Lib.hid (show DiskAt wy (.agg C3) X by rw [hwy]; exact HG1.out.keep HCB3.out (by rw [size_putDisk]; exact Nat.le_refl _) (fun q _ hq => heap_putDisk _ _ _ _ hq))
      have HBXY := Lib.hid (show BoxAt wy bb C3 X from ⟨by rw [hwy]; exact dvar_put (by have := HLT3.out; omega) HT3.out.1 HC3.out, HDY.out⟩)
      have HTY := Lib.hid (show wy.there bb 0 4 ∧ wy.there (bb + 1) 0 4 by rw [hwy]; exact ⟨World.there_setCells HT3.out.1 _ _ _, World.there_setCells HT3.out.2 _ _ _⟩)
      have HBY := Lib.hid (show Below bb w1 wy by rw [hwy]; exact below_putDisk (HBW.out.trans (HBX3.out.mono (by have := HBIG.out; omega))) (Nat.le_refl _) C3)
      have HLY := Lib.hid (show bb + 1 < wy.heap.size by rw [hwy, size_putDisk]; exact HLT3.out)
      clear hwy
      by_cases her : er = 0
      case neg =>
        have hne : (er != 0) = true := by rw [bne_iff_ne]; exact her
        have HPE2 := Lib.hid (HPE.out.trans (if_neg her))
        clear her
        have hl0 := HBXY.out.load
        have hst := store_disk HTY.out.2 hc3
        go_wp2_with fail
        refine bodyPost_ret (ret_cell_tmp rfl rfl (diskVar_run (dvar_put HLY.out HTY.out.2 HC3.out).load)) rfl ?_
        refine (show PutPost (.agg C0) d h l w (.returned (.tuple #[.agg C3, .int .i64 er])) (putDisk wy (bb + 1) C3) from ?_)
        have hpe := HPE2.out
        rw [PutPost, hpe]
        refine ⟨⟨_, rfl, ?_, ?_⟩, ?_⟩
        · exact HDY.out.keep HCR3.out (by rw [size_putDisk]; exact Nat.le_refl _) (fun q _ hq => heap_putDisk _ _ _ _ hq)
        · intro b hb hcl
          rw [← HBB.out] at hb
          exact HG2.out b (by have := HBIG.out; omega) (HCA.out b hb hcl)
        · rw [← HBB.out]
          exact below_putDisk (HB1.out.trans HBY.out) (by omega) C3
      subst her
      have HPE2 := Lib.hid (show d.puts h l = X.puts h (l.drop (k + 1)) from HPE.out.trans (if_pos rfl))
      go_wp2_with fail
      go_roundw
      case rel =>
        exact ⟨k + 1, X, C3, rfl, by omega, HXL, HPE2, HBXY, HC3, HCB3, HCR3, HTY, HBY, Lib.hid (fun b hb hcl => HG2.out b (by have := HBIG.out; omega) (HCA.out b hb hcl))⟩
      case measure => simp [intOf]; omega
end Go.Proofs.YtbhjigejpdbeiaaDoor
end

section
/-
  write: parts are written into a half, and synced.
-/
namespace Go.Proofs.YtbhjigejpdbeiaaDoor
open Go.RowKit Go.Shelf
set_option linter.unusedVariables false
set_option maxRecDepth 8000

theorem grown_here (w : World) (r : Option Nat) : w.grownBy w r := ⟨rfl, rfl, rfl, Nat.le_refl _, fun _ _ _ => rfl⟩
theorem grown_then {a b c : World} {r : Option Nat} (h : a.grownBy b r) (k : b.grownBy c r) : a.grownBy c r :=
  ⟨k.os.trans h.os, k.tape.trans h.tape, k.output.trans h.output, Nat.le_trans h.size k.size, fun q hq hr => (k.block q (Nat.lt_of_lt_of_le hq h.size) hr).trans (h.block q hq hr)⟩
theorem grown_below {a b : World} {r : Option Nat} (h : Below a.heap.size a b) : a.grownBy b r := ⟨h.os, h.tape, h.output, h.size, fun q hq _ => h.block q hq⟩
theorem grown_put {w : World} {b : Nat} {C : Array Value} : w.grownBy (putDisk w b C) (some b) := by
  obtain ⟨e1, e2, e3⟩ := streams_setCells b C.toList 0 w
  exact ⟨e1, e2, e3, by rw [size_putDisk]; exact Nat.le_refl _, fun q hq hr => heap_putDisk _ _ _ _ (fun e => hr (by rw [e]))⟩
theorem row_grown {w w' : World} {sz n c b : Nat} {A : Option Addr} {X : List Value} (h : RowOf w sz A n c X) (hg : w.grownBy w' (some b)) (hb : ∀ x, A = some x → 0 < n → x.block ≠ b) : RowOf w' sz A n c X :=
  h.keep hg.size (fun x hx h0 hl => hg.block _ hl (fun e => hb x hx h0 (by injection e)))
theorem Laid.grown {w w' : World} {b : Nat} (h : Laid w) (hg : w.grownBy w' (some b)) (hb : 4 < b) : Laid w' :=
  h.keepb (Nat.lt_of_lt_of_le h.size hg.size) (fun k hk => hg.block k (by have := h.size; omega) (fun e => by injection e with e; omega))
theorem SideAt.put {w : World} {b : Nat} {C C2 : Array Value} {d X : Dk} {h : Nat} (s : SideAt w b C d h) (h4 : D4 C2) (hd : DiskAt w (.agg C2) X) (hc : Clear b (.agg C2)) : SideAt (putDisk w b C2) b C2 X h := by
  refine ⟨h4, ?_, World.there_setCells s.there _ _ _, hd.keep hc (by rw [size_putDisk]; exact Nat.le_refl _) (fun q _ hq => heap_putDisk _ _ _ _ hq), hc⟩
  have hl1 : C.toList.length = 4 := by rw [Array.length_toList]; exact s.d4.size
  have hl2 : C2.toList.length = 4 := by rw [Array.length_toList]; exact h4.size
  have k := range_setCells s.range 0 C2.toList (by rw [List.length_append, hl1, hl2]; simp)
  rw [Nat.add_zero, List.take_zero, List.nil_append, Nat.zero_add, hl2, ← hl1, List.drop_left] at k
  exact k
/-- The parts' bytes don't lie in block b. -/
def FarP (b : Nat) (cs : List (List Value)) : Prop := ∀ X ∈ cs, ∀ (g i m : Int) (B : Option Addr) (n c : Nat), X = partC g i m B n c → ∀ x, B = some x → 0 < n → x.block ≠ b
theorem PartSet.far {w : World} {top : Nat} {cs : List (List Value)} {ps : List Part} (h : PartSet w top cs ps) {b : Nat} (hb : top ≤ b) : FarP b cs := by
  intro X hX g i m B n c e x hx h0
  obtain ⟨j, hj⟩ := List.getElem?_of_mem hX
  have hlt := (List.getElem?_eq_some_iff.1 hj).1
  obtain ⟨B', m', k', e1, e2, e3, e4⟩ := h.row j _ (List.getElem?_eq_getElem (by rw [← h.len]; exact hlt))
  rw [hj] at e1
  injection e1 with e1
  rw [e1] at e
  unfold partC at e
  injection e with _ e; injection e with _ e; injection e with _ e; injection e with e _; injection e with q1 q2 q3
  subst q1; subst q2
  have := e4 x hx h0
  omega
/-- What write answers: the side's disk is the one that put answers. -/
def WroteSide (sb : Nat) (C : Array Value) (d : Dk) (h : Nat) (l : List Part) (w : World) (e : Ending) (w' : World) : Prop :=
  ∃ C', e = .returned (.int .i64 (d.puts h l).2) ∧ SideAt w' sb C' (d.puts h l).1 h ∧ (∀ b, b < w.heap.size → Clear b (.agg C) → Clear b (.agg C')) ∧ w.grownBy w' (some sb)
/-- Between two rounds. -/
def PwRel (sb : Nat) (C0 : Array Value) (d : Dk) (h : Nat) (l : List Part) (w : World) (er ix : Value) (wr : World) : Prop :=
  ∃ (k : Nat) (x : Dk) (C : Array Value), er = .int .i64 0 ∧ ix = .int .i64 (k : Int) ∧ k ≤ l.length ∧ Hid (x.secs.length = d.secs.length) ∧ Hid (d.puts h l = x.puts h (l.drop k)) ∧ Hid (SideAt wr sb C x h) ∧ Hid (w.grownBy wr (some sb)) ∧ Hid (∀ b, b < w.heap.size → Clear b (.agg C0) → Clear b (.agg C))
set_option maxHeartbeats 2000000 in
theorem swrite_f (w : World) (sb : Nat) (C0 : Array Value) (d : Dk) (h : Nat) (A : Option Addr) (n c : Nat) (cs : List (List Value)) (l : List Part) (hsd : SideAt w sb C0 d h) (hsb : 4 < sb) (hh : h ≤ 1) (hs : d.secs.length ≤ 2048)
    (hn : n = l.length) (hn2 : n ≤ 100000) (hrow : RowOf w 4 A n c cs.flatten) (hps : PartSet w w.heap.size cs l) (hA : ∀ x, A = some x → 0 < n → x.block ≠ sb) (hfar : FarP sb cs) (hl : ∀ p ∈ l, p.data.length ≤ 100 ∧ 0 ≤ p.index ∧ p.index ≤ 1000000) (hL : Laid w) :
    Calls Tryd.prog 34 #[.pointer (some ⟨sb, 0, none⟩), .slice A n c] w fun e w' => WroteSide sb C0 d h l w e w' := by
  have HSD := Lib.hid hsd
  have HROW := Lib.hid hrow
  have HPS := Lib.hid hps
  have HLL := Lib.hid hl
  have HN := Lib.hid hn
  have HL := Lib.hid hL
  have HSZ0 := Lib.hid hs
  have HA := Lib.hid hA
  have HFAR := Lib.hid hfar
  clear hsd hrow hps hl hn hL hs hA hfar
  go_enter Tryd.func34, Tryd.ntmps34
  go_wp2_with fail
  go_loopw [4, 9] (fun er ix wr => PwRel sb C0 d h l w er ix wr) (fun er ix wr => n - (intOf ix).toNat)
  case atStart => exact ⟨0, d, C0, rfl, rfl, by omega, Lib.hid rfl, Lib.hid rfl, HSD, Lib.hid (grown_here _ _), Lib.hid (fun _ _ h => h)⟩
  case round =>
    obtain ⟨k, x, C, rfl, rfl, hk, HXS, HPUT, HXB, HGW, HCA⟩ := hrel
    have hkn : k ≤ n := by have := HN.out; omega
    have HSB := Lib.hid (show sb < wr.heap.size from HXB.out.lt)
    by_cases hlt : k < n
    case neg =>
      have hdn : decide (k < n) = false := by simp; omega
      have HPE := Lib.hid (show d.puts h l = x.sync by rw [HPUT.out, List.drop_eq_nil_of_le (by have := HN.out; omega)]; rfl)
      clear hlt
      have hl0 := HXB.out.load
      go_wp2_with fail
      refine (sync_f wr (.agg C) x HXB.out.disk).mono ?_
      rintro e w3 ⟨⟨u, rfl, hg1, hg2⟩, hb3⟩
      obtain ⟨C3, rfl, hc3⟩ := hg1.agg
      have HC3 := Lib.hid hc3
      have HG1 := Lib.hid hg1
      have HG2 := Lib.hid hg2
      have HB3 := Lib.hid hb3
      have HS3 := Lib.hid (HXB.out.below hb3)
      have HCL3 := Lib.hid (hg2 sb HSB.out HXB.out.clear)
      clear hg1 hg2 hb3 hl0
      have hst := store_disk (w := w3) (b := sb) (fun j hj => HS3.out.there j (by omega)) hc3
      go_wp2_with fail
      go_ret
      have hpe := HPE.out
      rw [WroteSide, hpe]
      refine ⟨C3, rfl, HS3.out.put HC3.out HG1.out HCL3.out, ?_, grown_then HGW.out (grown_then (grown_below HB3.out) grown_put)⟩
      intro b hb hcl
      exact HG2.out b (by have := HGW.out.size; omega) (HCA.out b hb hcl)
    have hdn : decide (k < n) = true := by simp; omega
    have hkl : k < l.length := by have := HN.out; omega
    obtain ⟨p, hp⟩ : ∃ p, p = l[k] := ⟨_, rfl⟩
    have hpk : l[k]? = some p := by rw [hp]; exact List.getElem?_eq_getElem hkl
    have HPK := Lib.hid hpk
    have HPL := Lib.hid (HLL.out p (by rw [hp]; exact List.getElem_mem hkl))
    have HDR := Lib.hid (show l.drop k = p :: l.drop (k + 1) by rw [hp]; exact List.drop_eq_getElem_cons hkl)
    clear hp hpk
    obtain ⟨B, m, kk, hck, hm, hrowB, hblk⟩ := HPS.out.row k p HPK.out
    have hBfar : ∀ x, B = some x → 0 < m → x.block ≠ sb := HFAR.out _ (List.mem_of_getElem? hck) _ _ _ _ _ _ rfl
    have hrowW := row_grown HROW.out HGW.out HA.out
    obtain ⟨b, o, rfl, hb, hX⟩ := part_in HPS.out.four hrowW hck hlt
    have HM := Lib.hid hm
    have HRB := Lib.hid (row_grown hrowB HGW.out hBfar)
    have hr4 : wr.cell? ⟨b, o + k * 4, none⟩ = some (.int .i64 p.gen) ∧ wr.cell? ⟨b, o + k * 4 + 1, none⟩ = some (.int .i64 p.index) ∧ wr.cell? ⟨b, o + k * 4 + 2, none⟩ = some (.int .u8 p.marks.toNat) ∧ wr.cell? ⟨b, o + k * 4 + 3, none⟩ = some (.slice B m kk) := ⟨hX 0 _ rfl, hX 1 _ rfl, hX 2 _ rfl, hX 3 _ rfl⟩
    obtain ⟨r0, r1, r2, r3⟩ := hr4
    clear hck hm hrowB hblk hX hBfar hrowW
    have hd2 : (x.secs.length : Int) / 2 = (x.half : Int) := rfl
    have hxn : x.secs.length ≤ 2048 := by have := HXS.out; have := HSZ0.out; omega
    have hxh : x.half ≤ 1024 := by have : x.half = x.secs.length / 2 := rfl; omega
    have hm2 := half_mul (h := h) (m := x.half) hh
    have HXN := Lib.hid hxn
    go_wp2_with fail
    clear r0 r1 r2 r3
    obtain ⟨wb, hwb⟩ : ∃ wb, wb = wr.alloc (.cells #[.int .i64 p.gen, .int .i64 p.index, .int .u8 p.marks.toNat, .slice B m kk] 100) := ⟨_, rfl⟩
    obtain ⟨b6, hb6⟩ : ∃ b6, b6 = wr.heap.size := ⟨_, rfl⟩
    rw [← hwb, ← hb6]
    have HBB := Lib.hid (show Below wr.heap.size wr wb by rw [hwb]; exact (Below.refl _ _).alloc (Nat.le_refl _) _)
    have HR6 := Lib.hid (show wb.rangeAt b6 0 (partC p.gen p.index p.marks.toNat B m kk) by rw [hwb, hb6]; exact range_new wr (partC p.gen p.index p.marks.toNat B m kk) 100)
    have HB6 := Lib.hid (show b6 < wb.heap.size by rw [hwb, hb6]; simp)
    have HSDB := Lib.hid (HXB.out.below HBB.out)
    have HLT := Lib.hid (show sb < wb.heap.size from HSDB.out.lt)
    have HTW := Lib.hid (show wb.there sb 0 4 from fun j hj => HSDB.out.there j (by omega))
    have HGB := Lib.hid (show w.grownBy wb (some sb) from grown_then HGW.out (grown_below HBB.out))
    have HCB := Lib.hid (show ∀ b, b < w.heap.size → Clear b (.agg C0) → Clear b (.agg C) from HCA.out)
    clear hwb hb6
    have HSZ := Lib.hid (show ∀ W, Below wb.heap.size wb W → Calls Tryd.prog 33 #[.pointer (some ⟨sb, 0, none⟩)] W fun e w' => e = .returned (.int .i64 (x.half : Int)) ∧ w' = W from fun W hW =>
      sideSize_f W sb C x h (HSDB.out.below hW) (by have := HXN.out; omega))
    have HSEC := Lib.hid (show ∀ W, Below wb.heap.size wb W → Calls Tryd.prog 53 #[.agg #[.int .i64 p.gen, .int .i64 p.index, .int .u8 p.marks.toNat, .slice B m kk]] W fun e w' => e = .returned (secV p.sec) ∧ Below wb.heap.size wb w' ∧ Below W.heap.size W w' from fun W hW =>
      (sec_f W _ p ⟨B, m, kk, rfl, HM.out, (HRB.out.kept HBB.out (Nat.le_refl _)).kept hW (Nat.le_refl _)⟩ HPL.out.1 (HL.out.grown (grown_then HGB.out (grown_below hW)) hsb)).mono fun _ _ ⟨h1, h2⟩ => ⟨h1, below_chain hW h2, h2⟩)
    have hmul : ((h : Int) * (x.half : Int)) = ((h * x.half : Nat) : Int) := by simp
    have hs2 : IntKind.i64.wrap (x.half : Int) = (x.half : Int) := IntWalk.i64_in _ (by omega)
    generalize hq : h * x.half = q at *
    have HQ := Lib.hid hq
    clear hq
    have hs1 : IntKind.i64.wrap ((q : Int) + p.index) = (q : Int) + p.index := IntWalk.i64_in _ (by have := HPL.out; omega)
    have hs0 : IntKind.i64.wrap (q : Int) = (q : Int) := IntWalk.i64_in _ (by omega)
    obtain ⟨X, er, hwr⟩ : ∃ X er, x.write ((q : Int) + p.index) p.sec = (X, er) := ⟨_, _, rfl⟩
    have HWRT := Lib.hid hwr
    have HXL := Lib.hid (show X.secs.length = d.secs.length by
      have := write_secs x ((q : Int) + p.index) p.sec
      rw [hwr] at this
      rw [show X.secs = x.secs from this]; exact HXS.out)
    have HWRITE := Lib.hid (show ∀ W, Below wb.heap.size wb W → Calls Tryd.prog 52 #[.agg C, .int .i64 ((q : Int) + p.index), secV p.sec] W fun e w' => ∃ C2, e = .returned (.tuple #[.agg C2, .int .i64 er]) ∧ D4 C2 ∧ DiskAt w' (.agg C2) X ∧ (∀ b, b < W.heap.size → Clear b (.agg C) → Clear b (.agg C2)) ∧ Below wb.heap.size wb w' ∧ Below W.heap.size W w' from fun W hW =>
      (write_f W (.agg C) x _ p.sec (HSDB.out.below hW).disk).mono fun _ _ ⟨⟨u, h1, h2, h3⟩, h4⟩ => by
        rw [hwr] at h1 h2
        obtain ⟨C2, rfl, hc2⟩ := h2.agg
        exact ⟨C2, h1, hc2, h2, h3, below_chain hW h4, h4⟩)
    have HK := Lib.hid (show ∀ W, Below wb.heap.size wb W → (diskVar ⟨sb, 0, none⟩).run Tryd.prog W = .ok (.agg C) W ∧ W.cell? ⟨sb, 4, none⟩ = some (.int .i64 (h : Int)) ∧ W.cell? ⟨b6, 0, none⟩ = some (.int .i64 p.gen) ∧ W.cell? ⟨b6, 1, none⟩ = some (.int .i64 p.index) ∧ W.cell? ⟨b6, 2, none⟩ = some (.int .u8 p.marks.toNat) ∧ W.cell? ⟨b6, 3, none⟩ = some (.slice B m kk) from fun W hW => by
      obtain ⟨q0, q1, q2, q3⟩ := part_cells (range_below HR6.out hW HB6.out)
      exact ⟨(HSDB.out.below hW).load, (HSDB.out.below hW).half, q0, q1, q2, q3⟩)
    clear hwr
    generalize x.secs.length = sn at *
    have hb0 : Below wb.heap.size wb wb.drew := (Below.refl _ _).drew
    refine wp_region_until (S := fun W => (diskVar ⟨sb, 0, none⟩).run Tryd.prog W = .ok (.agg C) W ∧ W.cell? ⟨sb, 4, none⟩ = some (.int .i64 (h : Int)) ∧ W.cell? ⟨b6, 0, none⟩ = some (.int .i64 p.gen) ∧ W.cell? ⟨b6, 1, none⟩ = some (.int .i64 p.index) ∧ W.cell? ⟨b6, 2, none⟩ = some (.int .u8 p.marks.toNat) ∧ W.cell? ⟨b6, 3, none⟩ = some (.slice B m kk)) 23 (by kernel_rfl) (HK.out _ hb0) (fun hHeld => ?_)
    refine' wpAnyU_takeAny (i := 0) (v := _) rfl (by kernel_rfl) (by kernel_rfl) (by kernel_rfl) (by kernel_rfl) (fun _ _ _ h => h) (Or.inl ⟨by rfl, ?hy0⟩) (fun _ => hHeld) ?rest0
    case hy0 => (intro w hSw; clear hSw; go_simp; try with_reducible rfl)
    try simp only [Act.put, List.getElem_toArray, List.getElem_cons_zero, List.getElem_cons_succ, List.setIfInBounds_toArray, List.set_cons_zero, List.set_cons_succ]
    refine' wpAnyU_takeAny (i := 1) (v := _) rfl (by kernel_rfl) (by kernel_rfl) (by kernel_rfl) (by kernel_rfl) (fun _ _ _ h => h) (Or.inl ⟨by rfl, ?hy1⟩) (fun _ => hHeld) ?rest1
    case hy1 => (intro w hSw; clear hSw; go_simp; try with_reducible rfl)
    try simp only [Act.put, List.getElem_toArray, List.getElem_cons_zero, List.getElem_cons_succ, List.setIfInBounds_toArray, List.set_cons_zero, List.set_cons_succ]
    refine' wpAnyU_takeAny (i := 2) (v := _) rfl (by kernel_rfl) (by kernel_rfl) (by kernel_rfl) (by kernel_rfl) (fun _ _ _ h => h) (Or.inl ⟨by rfl, ?hy2⟩) (fun _ => hHeld) ?rest2
    case hy2 => (intro w hSw; clear hSw; go_simp; try with_reducible rfl)
    try simp only [Act.put, List.getElem_toArray, List.getElem_cons_zero, List.getElem_cons_succ, List.setIfInBounds_toArray, List.set_cons_zero, List.set_cons_succ]
    refine' wpAnyU_takeAny (i := 3) (v := _) rfl (by kernel_rfl) (by kernel_rfl) (by kernel_rfl) (by kernel_rfl) (fun _ _ _ h => h) (Or.inl ⟨by rfl, ?hy3⟩) (fun _ => hHeld) ?rest3
    case hy3 => (intro w hSw; clear hSw; go_simp; try with_reducible rfl)
    try simp only [Act.put, List.getElem_toArray, List.getElem_cons_zero, List.getElem_cons_succ, List.setIfInBounds_toArray, List.set_cons_zero, List.set_cons_succ]
    refine' wpAnyU_take (i := 4) (v := _) rfl (by kernel_rfl) (by kernel_rfl) (by kernel_rfl) (by kernel_rfl) (fun _ _ _ h => h) (Or.inl ⟨by rfl, ?hy4⟩) hHeld ?rest4
    case hy4 => (intro w hSw; (try dsimp only at hSw); obtain ⟨s1, s2, s3, s4, s5, s6⟩ := hSw; go_simp; try with_reducible rfl)
    try simp only [Act.put, List.getElem_toArray, List.getElem_cons_zero, List.getElem_cons_succ, List.setIfInBounds_toArray, List.set_cons_zero, List.set_cons_succ]
    refine' wpAnyU_takeAny (i := 5) (v := _) rfl (by kernel_rfl) (by kernel_rfl) (by kernel_rfl) (by kernel_rfl) (fun _ _ _ h => h) (Or.inl ⟨by rfl, ?hy5⟩) (fun _ => hHeld) ?rest5
    case hy5 => (intro w hSw; clear hSw; go_simp; try with_reducible rfl)
    try simp only [Act.put, List.getElem_toArray, List.getElem_cons_zero, List.getElem_cons_succ, List.setIfInBounds_toArray, List.set_cons_zero, List.set_cons_succ]
    refine' wpAnyU_takeAny (i := 6) (v := _) rfl (by kernel_rfl) (by kernel_rfl) (by kernel_rfl) (by kernel_rfl) (fun _ _ _ h => h) (Or.inl ⟨by rfl, ?hy6⟩) (fun _ => hHeld) ?rest6
    case hy6 => (intro w hSw; clear hSw; go_simp; try with_reducible rfl)
    try simp only [Act.put, List.getElem_toArray, List.getElem_cons_zero, List.getElem_cons_succ, List.setIfInBounds_toArray, List.set_cons_zero, List.set_cons_succ]
    refine' wpAnyU_takeAny (i := 7) (v := _) rfl (by kernel_rfl) (by kernel_rfl) (by kernel_rfl) (by kernel_rfl) (fun _ _ _ h => h) (Or.inl ⟨by rfl, ?hy7⟩) (fun _ => hHeld) ?rest7
    case hy7 => (intro w hSw; clear hSw; go_simp; try with_reducible rfl)
    try simp only [Act.put, List.getElem_toArray, List.getElem_cons_zero, List.getElem_cons_succ, List.setIfInBounds_toArray, List.set_cons_zero, List.set_cons_succ]
    refine' wpAnyU_take (i := 8) (v := _) rfl (by kernel_rfl) (by kernel_rfl) (by kernel_rfl) (by kernel_rfl) (fun _ _ _ h => h) (Or.inl ⟨by rfl, ?hy8⟩) hHeld ?rest8
    case hy8 => (intro w hSw; (try dsimp only at hSw); obtain ⟨s1, s2, s3, s4, s5, s6⟩ := hSw; go_simp; try with_reducible rfl)
    try simp only [Act.put, List.getElem_toArray, List.getElem_cons_zero, List.getElem_cons_succ, List.setIfInBounds_toArray, List.set_cons_zero, List.set_cons_succ]
    refine' wpAnyU_takeAny (i := 9) (v := _) rfl (by kernel_rfl) (by kernel_rfl) (by kernel_rfl) (by kernel_rfl) (fun _ _ _ h => h) (Or.inl ⟨by rfl, ?hy9⟩) (fun _ => hHeld) ?rest9
    case hy9 => (intro w hSw; clear hSw; go_simp; try with_reducible rfl)
    try simp only [Act.put, List.getElem_toArray, List.getElem_cons_zero, List.getElem_cons_succ, List.setIfInBounds_toArray, List.set_cons_zero, List.set_cons_succ]
    refine' wpAnyU_takeAny (i := 12) (v := _) rfl (by kernel_rfl) (by kernel_rfl) (by kernel_rfl) (by kernel_rfl) (fun _ _ _ h => h) (Or.inl ⟨by rfl, ?hy12⟩) (fun _ => hHeld) ?rest12
    case hy12 => (intro w hSw; clear hSw; go_simp; try with_reducible rfl)
    try simp only [Act.put, List.getElem_toArray, List.getElem_cons_zero, List.getElem_cons_succ, List.setIfInBounds_toArray, List.set_cons_zero, List.set_cons_succ]
    refine' wpAnyU_take (i := 13) (v := _) rfl (by kernel_rfl) (by kernel_rfl) (by kernel_rfl) (by kernel_rfl) (fun _ _ _ h => h) (Or.inl ⟨by rfl, ?hy13⟩) hHeld ?rest13
    case hy13 => (intro w hSw; (try dsimp only at hSw); obtain ⟨s1, s2, s3, s4, s5, s6⟩ := hSw; go_simp; try with_reducible rfl)
    try simp only [Act.put, List.getElem_toArray, List.getElem_cons_zero, List.getElem_cons_succ, List.setIfInBounds_toArray, List.set_cons_zero, List.set_cons_succ]
    refine' wpAnyU_take (i := 15) (v := _) rfl (by kernel_rfl) (by kernel_rfl) (by kernel_rfl) (by kernel_rfl) (fun _ _ _ h => h) (Or.inl ⟨by rfl, ?hy15⟩) hHeld ?rest15
    case hy15 => (intro w hSw; (try dsimp only at hSw); obtain ⟨s1, s2, s3, s4, s5, s6⟩ := hSw; go_simp; try with_reducible rfl)
    try simp only [Act.put, List.getElem_toArray, List.getElem_cons_zero, List.getElem_cons_succ, List.setIfInBounds_toArray, List.set_cons_zero, List.set_cons_succ]
    refine wpAnyU_one (i := 10) (by kernel_rfl) rfl (fun K hK => ?_)
    go_simp
    refine (HSZ.out _ hb0).mono ?_
    rintro e wa ⟨rfl, rfl⟩
    refine hK.out _ _ ⟨fun _ _ => hHeld, ?_⟩
    clear hK K
    try simp only [Act.put, List.getElem_toArray, List.getElem_cons_zero, List.getElem_cons_succ, List.setIfInBounds_toArray, List.set_cons_zero, List.set_cons_succ]
    refine' wpAnyU_takeAny (i := 11) (v := _) rfl (by kernel_rfl) (by kernel_rfl) (by kernel_rfl) (by kernel_rfl) (fun _ _ _ h => h) (Or.inl ⟨by rfl, ?hy11⟩) (fun _ => hHeld) ?rest11
    case hy11 => (intro w hSw; clear hSw; go_simp; try with_reducible rfl)
    try simp only [Act.put, List.getElem_toArray, List.getElem_cons_zero, List.getElem_cons_succ, List.setIfInBounds_toArray, List.set_cons_zero, List.set_cons_succ]
    refine' wpAnyU_takeAny (i := 14) (v := _) rfl (by kernel_rfl) (by kernel_rfl) (by kernel_rfl) (by kernel_rfl) (fun _ _ _ h => h) (Or.inl ⟨by rfl, ?hy14⟩) (fun _ => hHeld) ?rest14
    case hy14 => (intro w hSw; clear hSw; go_simp; try with_reducible rfl)
    try simp only [Act.put, List.getElem_toArray, List.getElem_cons_zero, List.getElem_cons_succ, List.setIfInBounds_toArray, List.set_cons_zero, List.set_cons_succ]
    refine wpAnyU_one (i := 16) (by kernel_rfl) rfl (fun K hK => ?_)
    go_simp
    refine (HSEC.out _ hb0).mono ?_
    rintro e wa ⟨rfl, hba, hxa⟩
    have hHeld := HK.out _ hba
    refine hK.out _ _ ⟨fun _ _ => hHeld, ?_⟩
    clear hK K
    try simp only [Act.put, List.getElem_toArray, List.getElem_cons_zero, List.getElem_cons_succ, List.setIfInBounds_toArray, List.set_cons_zero, List.set_cons_succ]
    refine wpAnyU_one (i := 17) (by kernel_rfl) rfl (fun K hK => ?_)
    go_simp
    refine (HWRITE.out _ hba).mono ?_
    rintro e wc ⟨C2, rfl, hc2, hg1, hg2, hbc, hxc⟩
    have hHeld := HK.out _ hbc
    have hth := there_below HTW.out hbc (by have := HLT.out; omega)
    have hst := store_disk hth hc2
    refine hK.out _ _ ⟨fun _ _ => hHeld, ?_⟩
    clear hK K
    try simp only [Act.put, List.getElem_toArray, List.getElem_cons_zero, List.getElem_cons_succ, List.setIfInBounds_toArray, List.set_cons_zero, List.set_cons_succ]
    refine' wpAnyU_takeAny (i := 18) (v := _) rfl (by kernel_rfl) (by kernel_rfl) (by kernel_rfl) (by kernel_rfl) (fun _ _ _ h => h) (Or.inl ⟨by rfl, ?hy18⟩) (fun _ => hHeld) ?rest18
    case hy18 => (intro w hSw; clear hSw; go_simp; try with_reducible rfl)
    try simp only [Act.put, List.getElem_toArray, List.getElem_cons_zero, List.getElem_cons_succ, List.setIfInBounds_toArray, List.set_cons_zero, List.set_cons_succ]
    refine' wpAnyU_takeAny (i := 19) (v := _) rfl (by kernel_rfl) (by kernel_rfl) (by kernel_rfl) (by kernel_rfl) (fun _ _ _ h => h) (Or.inl ⟨by rfl, ?hy19⟩) (fun _ => hHeld) ?rest19
    case hy19 => (intro w hSw; clear hSw; go_simp; try with_reducible rfl)
    try simp only [Act.put, List.getElem_toArray, List.getElem_cons_zero, List.getElem_cons_succ, List.setIfInBounds_toArray, List.set_cons_zero, List.set_cons_succ]
    refine' wpAnyU_takeAny (i := 20) (v := _) rfl (by kernel_rfl) (by kernel_rfl) (by kernel_rfl) (by kernel_rfl) (fun _ _ _ h => h) (Or.inl ⟨by rfl, ?hy20⟩) (fun _ => hHeld) ?rest20
    case hy20 => (intro w hSw; clear hSw; go_simp; try with_reducible rfl)
    try simp only [Act.put, List.getElem_toArray, List.getElem_cons_zero, List.getElem_cons_succ, List.setIfInBounds_toArray, List.set_cons_zero, List.set_cons_succ]
    refine wpAnyU_one (i := 21) (by kernel_rfl) rfl (fun K hK => ?_)
    go_simp
    refine hK.out _ _ ⟨fun _ _ => hHeld, ?_⟩
    clear hK K
    try simp only [Act.put, List.getElem_toArray, List.getElem_cons_zero, List.getElem_cons_succ, List.setIfInBounds_toArray, List.set_cons_zero, List.set_cons_succ]
    refine wpAnyU_one (i := 22) (by kernel_rfl) rfl (fun K hK => ?_)
    go_simp
    refine hK.out _ _ ⟨fun _ _ => hHeld, ?_⟩
    clear hK K
    try simp only [Act.put, List.getElem_toArray, List.getElem_cons_zero, List.getElem_cons_succ, List.setIfInBounds_toArray, List.set_cons_zero, List.set_cons_succ]
    refine wpAnyU_one (i := 23) (by kernel_rfl) rfl (fun K hK => ?_)
    go_simp
    refine hK.out _ _ ⟨fun q => absurd rfl q, ?_⟩
    clear hK K
    try simp only [Act.put, List.getElem_toArray, List.getElem_cons_zero, List.getElem_cons_succ, List.setIfInBounds_toArray, List.set_cons_zero, List.set_cons_succ]
    refine wpAnyU_one (i := 24) (by kernel_rfl) rfl (fun K hK => ?_)
    go_simp
    refine hK.out _ _ ⟨fun _ q => (by cases q), ?_⟩
    clear hK K
    try simp only [Act.put, List.getElem_toArray, List.getElem_cons_zero, List.getElem_cons_succ, List.setIfInBounds_toArray, List.set_cons_zero, List.set_cons_succ]
    refine wpAnyU_done (by kernel_rfl) ?_ _
    obtain ⟨wy, hwy⟩ : ∃ wy, wy = putDisk wc sb C2 := ⟨_, rfl⟩
    rw [← hwy]
    have HPE := Lib.hid (show d.puts h l = if er = 0 then X.puts h (l.drop (k + 1)) else (X, er) by
      rw [HPUT.out, HDR.out, Dk.puts, HQ.out, HWRT.out])
    have HSY := Lib.hid (show SideAt wy sb C2 X h by
      rw [hwy]; exact (HSDB.out.below hbc).put hc2 hg1 (hg2 sb (by have := hba.size; have := HLT.out; omega) HSDB.out.clear))
    have HGY := Lib.hid (show w.grownBy wy (some sb) by rw [hwy]; exact grown_then HGB.out (grown_then (grown_below hbc) grown_put))
    have HCY := Lib.hid (show ∀ b, b < w.heap.size → Clear b (.agg C0) → Clear b (.agg C2) from fun b hb hcl => hg2 b (by have := hba.size; have := HGB.out.size; omega) (HCB.out b hb hcl))
    clear hwy hHeld hst hth hg1 hg2 hbc hxc hba hxa hc2 hd2 hmul hs1 hs0 hs2
    by_cases her : er = 0
    case neg =>
      have hne : (er != 0) = true := by rw [bne_iff_ne]; exact her
      have HPE2 := Lib.hid (HPE.out.trans (if_neg her))
      clear her
      go_wp2_with fail
      go_ret
      have hpe := HPE2.out
      rw [WroteSide, hpe]
      exact ⟨C2, rfl, HSY.out, HCY.out, HGY.out⟩
    subst her
    have HPE2 := Lib.hid (show d.puts h l = X.puts h (l.drop (k + 1)) from HPE.out.trans (if_pos rfl))
    go_wp2_with fail
    go_roundw
    case rel => exact ⟨k + 1, X, C2, rfl, rfl, by omega, HXL, HPE2, HSY, HGY, HCY⟩
    case measure => simp [intOf]; omega
end Go.Proofs.YtbhjigejpdbeiaaDoor
end

section
/-
  A record's parts, before they are marked; owned rows of cells.
-/
namespace Go.Proofs.YtbhjigejpdbeiaaDoor
open Go.RowKit Go.Shelf
set_option linter.unusedVariables false
set_option maxRecDepth 8000

theorem heap_setCell_cells {w : World} {b o : Nat} {cur : Array Value} {T : TypeId} {f : Nat × Nat} (v : Value) (h : w.heap[b]? = some (.cells cur T f)) : (w.setCell ⟨b, o, none⟩ v).heap[b]? = some (.cells (cur.setIfInBounds o v) T f) := by
  simp [World.setCell, Array.getElem?_modify, h]
theorem cell_of_heap {w : World} {b o : Nat} {cur : Array Value} {T : TypeId} {f : Nat × Nat} {v : Value} (h : w.heap[b]? = some (.cells cur T f)) (hv : cur[o]? = some v) : w.cell? ⟨b, o, none⟩ = some v := by
  simp [World.cell?, h, hv]
theorem frozen_of_heap {w : World} {b o : Nat} {cur : Array Value} {T : TypeId} (h : w.heap[b]? = some (.cells cur T (0, 0))) : w.frozen? ⟨b, o, none⟩ = false := by
  simp [World.frozen?, h]
theorem own_set {w : World} {base sz g n cap : Nat} {E : TypeId} {xs : List Value} (h : w.ownsRow base E sz (.slice (some ⟨g, 0, none⟩) n cap) n xs) (o : Nat) (u : Value) :
    (w.setCell ⟨g, o, none⟩ u).ownsRow base E sz (.slice (some ⟨g, 0, none⟩) n cap) n (xs.set o u) := by
  refine ⟨by rw [List.length_set]; exact h.1, ?_⟩
  rcases h.2 with ⟨e, _⟩ | ⟨g', cap', cur, e, hb, hg, hc, hm, hs, ht⟩
  · cases e
  · injection e with e1 e2 e3; injection e1 with e1; injection e1 with e1; subst e1; subst e3
    exact .inr ⟨g, cap, cur.setIfInBounds o u, rfl, hb, heap_setCell_cells u hg, hc, hm, by simpa using hs, by rw [Array.toList_setIfInBounds, List.take_set, ht]⟩
theorem own_ne {w : World} {base sz n q : Nat} {E T : TypeId} {f : Nat × Nat} {v : Value} {xs : List Value} {cur : Array Value} (h : w.ownsRow base E sz v n xs) (hq : w.heap[q]? = some (.cells cur T f)) (hT : T ≠ E) : v.ownBlock ≠ some q := by
  intro e
  rcases h.2 with ⟨rfl, _⟩ | ⟨g, cap, cu, rfl, _, hg, _⟩
  · cases e
  · have e : g = q := by simpa [Value.ownBlock] using e
    subst e
    rw [hg] at hq
    injection hq with hq
    injection hq with _ hq
    exact hT hq.symm
theorem own_cells {w : World} {base sz n g : Nat} {E : TypeId} {v : Value} {xs : List Value} (h : w.ownsRow base E sz v n xs) (e : v.ownBlock = some g) : ∃ o, w.heap[g]? = some o ∧ o.isCells = true := by
  rcases h.2 with ⟨rfl, _⟩ | ⟨g', cap, cu, rfl, _, hg, _⟩
  · cases e
  · have e : g' = g := by simpa [Value.ownBlock] using e
    subst e
    exact ⟨_, hg, rfl⟩
theorem flat_set4 {cs : List (List Value)} (h4 : ∀ x ∈ cs, x.length = 4) : ∀ {i : Nat} {a b m d : Value} (u : Value), cs[i]? = some [a, b, m, d] → cs.flatten.set (i * 4 + 2) u = (cs.set i [a, b, u, d]).flatten := by
  induction cs with
  | nil => intro i a b m d u h; simp at h
  | cons x r ih =>
    intro i a b m d u h
    have hx : x.length = 4 := h4 x (by simp)
    cases i with
    | zero =>
      simp at h
      subst h
      rfl
    | succ i =>
      have h : r[i]? = some [a, b, m, d] := by simpa using h
      rw [List.set_cons_succ, List.flatten_cons, List.flatten_cons, List.set_append_right _ _ (by rw [hx]; omega), hx, show (i + 1) * 4 + 2 - 4 = i * 4 + 2 by omega, ih (fun y hy => h4 y (by simp [hy])) u h]
theorem PartSet.remark {w : World} {top : Nat} {cs : List (List Value)} {ps : List Part} (h : PartSet w top cs ps) {i : Nat} {p : Part} (hp : ps[i]? = some p) (u : UInt8) :
    ∃ B m k, cs[i]? = some (partC p.gen p.index (p.marks.toNat : Int) B m k) ∧ PartSet w top (cs.set i (partC p.gen p.index (u.toNat : Int) B m k)) (ps.set i { p with marks := u }) := by
  obtain ⟨B, m, k, e1, e2, e3, e4⟩ := h.row i p hp
  refine ⟨B, m, k, e1, by rw [List.length_set, List.length_set]; exact h.len, fun j q hq => ?_⟩
  by_cases hj : i = j
  · subst hj
    have hlt : i < ps.length := (List.getElem?_eq_some_iff.1 hp).1
    rw [List.getElem?_set_self hlt] at hq
    injection hq with hq
    subst hq
    exact ⟨B, m, k, by rw [List.getElem?_set_self (by rw [h.len]; exact hlt)], e2, e3, e4⟩
  · rw [List.getElem?_set_ne hj] at hq
    rw [List.getElem?_set_ne hj]
    exact h.row j q hq
/-- A part that isn't marked yet. -/
def rawPt (r : List UInt8) (gen : Int) (index k : Nat) : Part := ⟨gen, ((index + k : Nat) : Int), 0, (r.drop (100 * k)).take 100⟩
def lstP (r : List UInt8) (gen : Int) (index k : Nat) : List Part := if r.length = 0 then [⟨gen, (index : Int), 1, []⟩] else (List.range k).map (rawPt r gen index)
theorem lstP_none {r : List UInt8} (h : r.length = 0) (gen : Int) (index k : Nat) : lstP r gen index k = [⟨gen, (index : Int), 1, []⟩] := by rw [lstP, if_pos h]
theorem lstP_some {r : List UInt8} (h : 0 < r.length) (gen : Int) (index k : Nat) : lstP r gen index k = (List.range k).map (rawPt r gen index) := by rw [lstP, if_neg (by omega)]
theorem lstP_snoc {r : List UInt8} (h : 0 < r.length) (gen : Int) (index k : Nat) : lstP r gen index (k + 1) = lstP r gen index k ++ [rawPt r gen index k] := by
  rw [lstP_some h, lstP_some h, List.range_succ, List.map_append, List.map_singleton]
def cntP (n : Nat) : Nat := (n + 99) / 100
theorem cntP_lt (n k : Nat) : k < cntP n ↔ k * 100 < n := by unfold cntP; omega
theorem lstP_len (r : List UInt8) (gen : Int) (index : Nat) (h : r.length ≤ 4096) : (lstP r gen index (cntP r.length)).length = sizeN r.length := by
  unfold lstP cntP sizeN
  rw [if_neg (show ¬ r.length > 4096 by omega)]
  by_cases q : r.length = 0
  · rw [if_pos q, q]; rfl
  · rw [if_neg q, List.length_map, List.length_range]; omega
/-- Marked at both ends. -/
theorem lstP_marked (r : List UInt8) (gen : Int) (index : Nat) (h : r.length ≤ 4096) (z : Nat) (hz : z = sizeN r.length) (p0 p1 : Part) (h0 : (lstP r gen index (cntP r.length))[0]? = some p0)
    (h1 : ((lstP r gen index (cntP r.length)).set 0 { p0 with marks := 1 })[z - 1]? = some p1) :
    ((lstP r gen index (cntP r.length)).set 0 { p0 with marks := 1 }).set (z - 1) { p1 with marks := p1.marks ||| 2 } = Dk.parts r gen index := by
  have hp := Jp.sizeN_pos h
  by_cases q : r.length = 0
  · have hz1 : z = 1 := by rw [hz]; exact hp.2.2.2.2.1 q
    subst hz1
    rw [lstP_none q] at h0 h1 ⊢
    simp at h0
    subst h0
    simp at h1
    subst h1
    rw [Dk.parts, ← hz]
    obtain rfl : r = [] := List.eq_nil_of_length_eq_zero q
    simp [Dk.partN, List.range_one, Jp.markN]
    try decide
  · have hcz : cntP r.length = z := by rw [hz]; unfold cntP sizeN; rw [if_neg (by omega)]; omega
    rw [lstP_some (by omega), hcz] at h0 h1 ⊢
    have hz0 : 0 < z := by omega
    have e0 : p0 = rawPt r gen index 0 := by
      rw [List.getElem?_map, List.getElem?_range hz0] at h0
      injection h0 with h0
      exact h0.symm
    subst e0
    rw [Dk.parts, ← hz]
    refine List.ext_getElem? fun j => ?_
    by_cases hj : j < z
    · rw [List.getElem?_map, List.getElem?_range hj]
      by_cases hl : z - 1 = j
      · subst hl
        rw [List.getElem?_set_self (by simp; omega)]
        have : p1 = { rawPt r gen index (z - 1) with marks := if z - 1 = 0 then 1 else 0 } := by
          by_cases h00 : z - 1 = 0
          · rw [h00, List.getElem?_set_self (by simp; omega)] at h1
            injection h1 with h1
            rw [← h1, h00]; rfl
          · rw [List.getElem?_set_ne (by omega), List.getElem?_map, List.getElem?_range (by omega)] at h1
            injection h1 with h1
            rw [← h1, if_neg h00]; rfl
        subst this
        show some _ = some (Dk.partN r gen index (z - 1))
        congr 1
        rw [Dk.partN, rawPt]
        congr 1
        rw [if_pos (show z - 1 + 1 = sizeN r.length by omega)]
      · rw [List.getElem?_set_ne hl]
        by_cases hj0 : 0 = j
        · subst hj0
          rw [List.getElem?_set_self (by simp; omega)]
          show some _ = some (Dk.partN r gen index 0)
          congr 1
          rw [Dk.partN, rawPt]
          congr 1
          rw [if_neg (show ¬ 0 + 1 = sizeN r.length by omega)]; rfl
        · rw [List.getElem?_set_ne hj0, List.getElem?_map, List.getElem?_range hj]
          show some _ = some (Dk.partN r gen index j)
          congr 1
          rw [Dk.partN, rawPt]
          congr 1
          rw [if_neg (show ¬ j + 1 = sizeN r.length by omega), if_neg (show ¬ j = 0 by omega)]; rfl
    · rw [List.getElem?_eq_none (by simp; omega), List.getElem?_eq_none (by simp; omega)]
theorem append_one_in {F : Fence} {n : Nat} {w : World} {ops : Array Oper} {rest : List Oper} {o : Oper} {a : Act} {Q : Exit → Act → World → Prop} (hgd : o.guard = none) (s x : Operand) (T E : TypeId)
    (ho : o.op = .call { callee := .builtin .append, args := #[s, x], argTypes := #[T, T] }) (ht : Tryd.prog.underlying T = some (.slice E))
    (base : Nat) (z : Value) (size bytes : Nat) (hinf : (Tryd.prog.info? E).map (fun i => (i.zero, i.size, i.bytes)) = some (some z, size, bytes)) (hzs : z.cells.size = size) (hsz : 0 < size)
    (v : Value) (k : Nat) (xs : List Value) (hs : a.eval s = v) (hown : w.ownsRow base E size v k xs)
    (b c : Nat) (X : List Value) (hx : a.eval x = .slice (some ⟨b, 0, none⟩) 1 c) (hr : w.rangeAt b 0 X) (hX : X.length = size) (h1 : ∀ u ∈ X, u.oneCell' = true)
    (h63 : k + 1 ≤ 1000000) (hbytes : bytes ≤ 100000) (hbase : base ≤ w.heap.size)
    (h : ∀ v' w', w'.ownsRow base E size v' (k + 1) (xs ++ X) → w.grownBy w' v.ownBlock → wpListIn F n Tryd.prog ops Q rest (a.put o.dst v') w') :
    wpListIn F n Tryd.prog ops Q (o :: rest) a w := by
  obtain ⟨i, hi, hz, hsize, hby⟩ := info_parts hinf
  refine wpListIn_append_own w hgd s x T ho base E i z size bytes ht hi hz hsize hby hzs hsz v k xs hs hown ⟨b, 0, none⟩ 1 c X hx (by rw [hX, Nat.one_mul]) ?_ h1 (by unfold maxLen; omega) (Nat.le_trans (Nat.mul_le_mul h63 hbytes) (by omega)) hbase (fun v' w' k1 k2 _ => h v' w' k1 k2)
  intro j u hj
  rw [add_none]
  exact hr j u hj
end Go.Proofs.YtbhjigejpdbeiaaDoor
end
