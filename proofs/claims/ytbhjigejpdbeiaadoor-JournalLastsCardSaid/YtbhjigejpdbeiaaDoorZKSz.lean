import Derived.Test.YtbhjigejpdbeiaaDoorZRv
import Derived.Test.YtbhjigejpdbeiaaDoorZTp
import Derived.Test.YtbhjigejpdbeiaaDoorZKDsk
import Derived.Test.YtbhjigejpdbeiaaDoorZFr
import Derived.BigQuiet
set_option linter.unusedSimpArgs false
set_option linter.unusedVariables false

section
/-
  Size, of both sides; a side's variable; its size, and the part that stands at an index.
-/
namespace Go.Proofs.YtbhjigejpdbeiaaDoor
open Go.RowKit Go.Shelf
set_option linter.unusedVariables false
set_option maxRecDepth 8000

theorem size_f (w : World) (n : Int) (h0 : 0 ≤ n) (h1 : n ≤ 1000000000) : Calls Tryd.prog 16 #[.int .i64 n] w fun e w' => e = .returned (.int .i64 (jsize n)) ∧ w' = w := by
  have hd0 : decide (n < 0) = false := by simp; omega
  go_enter Tryd.func16, Tryd.ntmps16
  by_cases h : 4096 < n
  · have hd : decide (4096 < n) = true := by simp; omega
    have HJ := Lib.hid (show jsize n = 0 by rw [jsize, if_pos (by omega)])
    go_wp2
    go_ret
    exact ⟨by rw [HJ.out]; rfl, rfl⟩
  · have hd : decide (4096 < n) = false := by simp; omega
    have HJ := Lib.hid (show jsize n = max 1 ((n + 99) / 100) by rw [jsize, if_neg (by omega)])
    have hq : (n + 99).tdiv 100 = (n + 99) / 100 := Int.tdiv_eq_ediv_of_nonneg (by omega)
    have s1 : IntKind.i64.wrap (n + 100) = n + 100 := IntWalk.i64_in _ (by omega)
    have s2 : IntKind.i64.wrap (n + 100 - 1) = n + 99 := by rw [IntWalk.i64_in _ (by omega)]; omega
    have s3 : IntKind.i64.wrap (n + 99) = n + 99 := IntWalk.i64_in _ (by omega)
    go_wp2_with fail
    all_goals (
      go_ret
      refine ⟨?_, rfl⟩
      rw [HJ.out]
      show Ending.returned (Value.int .i64 _) = _
      congr 2
      omega)
/-- A side's variable: a disk's four cells, and the half. -/
structure SideAt (w : World) (b : Nat) (C : Array Value) (d : Dk) (h : Nat) : Prop where
  d4 : D4 C
  range : w.rangeAt b 0 (C.toList ++ [.int .i64 (h : Int)])
  there : w.there b 0 5
  disk : DiskAt w (.agg C) d
  clear : Clear b (.agg C)
theorem SideAt.lt {w : World} {b : Nat} {C : Array Value} {d : Dk} {h : Nat} (s : SideAt w b C d h) : b < w.heap.size := range_lt s.range (by simp)
theorem SideAt.below {w w' : World} {b : Nat} {C : Array Value} {d : Dk} {h : Nat} (s : SideAt w b C d h) (hb : Below w.heap.size w w') : SideAt w' b C d h :=
  ⟨s.d4, range_below s.range hb s.lt, there_below s.there hb s.lt, s.disk.kept hb (Nat.le_refl _), s.clear⟩
theorem SideAt.load {w : World} {b : Nat} {C : Array Value} {d : Dk} {h : Nat} (s : SideAt w b C d h) : (diskVar ⟨b, 0, none⟩).run Tryd.prog w = .ok (.agg C) w := by
  have h1 : w.rangeAt b 0 C.toList := fun j v hv => s.range j v (by rw [List.getElem?_append_left (List.getElem?_eq_some_iff.1 hv).1]; exact hv)
  exact DVar.load ⟨s.lt, s.d4.size, h1⟩
theorem SideAt.half {w : World} {b : Nat} {C : Array Value} {d : Dk} {h : Nat} (s : SideAt w b C d h) : w.cell? ⟨b, 4, none⟩ = some (.int .i64 (h : Int)) := by
  have := s.range 4 (.int .i64 (h : Int)) (by rw [List.getElem?_append_right (by rw [Array.length_toList, s.d4.size]; omega), Array.length_toList, s.d4.size]; rfl)
  rwa [Nat.zero_add] at this
theorem SideAt.secs {w : World} {b : Nat} {C : Array Value} {d : Dk} {h : Nat} (s : SideAt w b C d h) : ∃ A c, w.cell? ⟨b, 0, none⟩ = some (.slice A d.secs.length c) := by
  obtain ⟨A, n, c, A', n', c', e, rfl, _⟩ := s.disk
  refine ⟨A, c, ?_⟩
  have := s.range 0 (.slice A d.secs.length c) (by injection e with e; subst e; rfl)
  rwa [Nat.zero_add] at this
theorem sideSize_f (w : World) (b : Nat) (C : Array Value) (d : Dk) (h : Nat) (s : SideAt w b C d h) (hn : d.secs.length ≤ 1000000) : Calls Tryd.prog 33 #[.pointer (some ⟨b, 0, none⟩)] w fun e w' => e = .returned (.int .i64 (d.half : Int)) ∧ w' = w := by
  obtain ⟨A, c, hc⟩ := s.secs
  have hd : (d.secs.length : Int) / 2 = (d.half : Int) := rfl
  generalize d.half = m at *
  generalize d.secs.length = n at *
  go_enter Tryd.func33, Tryd.ntmps33
  go_wp2
  go_ret
  exact ⟨rfl, rfl⟩

/-- The part at an index of a half, and whether it stands there. -/
def PartPost (d : Dk) (h i : Nat) (w : World) (e : Ending) (w' : World) : Prop :=
  ∃ v p ok, e = .returned (.tuple #[v, .bool ok]) ∧ PartAt w' v p ∧ p.data.length ≤ 100 ∧ d.at_ h i = (if ok then some p else none) ∧ Below w.heap.size w w'
theorem at_ge {d : Dk} {h i : Nat} (hi : d.half ≤ i) : d.at_ h i = none := by rw [Dk.at_, if_neg (by omega)]
theorem at_is {d : Dk} {h i : Nat} (hi : i < d.half) {s : Sec} (hs : d.look ((h * d.half + i : Nat) : Int) = s) : d.at_ h i = if goodS s && decide ((rawP s).index = i) then some (rawP s) else none := by
  rw [Dk.at_, if_pos hi, hs, says]
  cases goodS s with
  | false => rfl
  | true =>
    by_cases q : (rawP s).index = i
    · simp [q]
    · simp [q]
theorem there_part4 (w : World) : (w.alloc (.cells #[.int .i64 0, .int .i64 0, .int .u8 0, .slice none 0 0] 100)).there w.heap.size 0 4 := there_new w (partC 0 0 0 none 0 0) 100
theorem there_sec (w : World) (s : Sec) : (w.alloc (.cells (secC zeroSec).toArray 81)).there w.heap.size 0 (secC s).length := by
  have := there_new w (secC zeroSec) 81
  rwa [secC_length] at this ⊢
set_option maxHeartbeats 4000000 in
theorem part_f (w : World) (b : Nat) (C : Array Value) (d : Dk) (h i : Nat) (s : SideAt w b C d h) (hh : h ≤ 1) (hr : d.right = true) (hdn : d.down = false) (hi : i ≤ 1000000) (hL : Laid w) :
    Calls Tryd.prog 63 #[.pointer (some ⟨b, 0, none⟩), .int .i64 (i : Int)] w fun e w' => PartPost d h i w e w' := by
  have hbd := Jp.bounds_of_right hr
  have HS := Lib.hid s
  have HL := Lib.hid hL
  obtain ⟨w1, hw1⟩ : ∃ w1, w1 = w.alloc (.cells #[.int .i64 0, .int .i64 0, .int .u8 0, .slice none 0 0] 100) := ⟨_, rfl⟩
  have HB1 := Lib.hid (show Below w.heap.size w w1 by rw [hw1]; exact (Below.refl _ _).alloc (Nat.le_refl _) _)
  have HS1 := Lib.hid (HS.out.below HB1.out)
  have HSZ := Lib.hid (sideSize_f w1 b C d h HS1.out (by omega))
  have HT1 := Lib.hid (show w1.there w.heap.size 0 4 by rw [hw1]; exact there_part4 w)
  have HW1 := Lib.hid (show w.heap.size < w1.heap.size by rw [hw1]; simp)
  have HW := Lib.hid hw1
  clear hw1 s hL
  go_enter Tryd.func63, Tryd.ntmps63
  go_wp2_with fail
  rw [← HW.out]
  clear HW
  refine HSZ.out.mono ?_
  rintro e w2 ⟨rfl, rfl⟩
  by_cases hlt : i < d.half
  case neg =>
    have hd : decide ((d.half : Int) ≤ (i : Int)) = true := by simp; omega
    have HA := Lib.hid (at_ge (d := d) (h := h) (i := i) (by omega))
    obtain ⟨⟨t0, e0⟩, ⟨t1, e1⟩, ⟨t2, e2⟩, ⟨t3, e3⟩, z0, z1, z2, z3⟩ := there4 HT1.out
    go_wp2_with fail
    refine bodyPost_ret (ret_cell_tmp rfl rfl (load_part (World.rangeAt_setCells_same w2 w.heap.size 0 (partC 0 0 0 none 0 0) HT1.out))) rfl ?_
    exact ⟨_, ⟨0, 0, 0, []⟩, false, rfl, part_zero _, by decide, HA.out, below_setCells w.heap.size (Nat.le_refl _) (partC 0 0 0 none 0 0) 0 w2 HB1.out⟩
  have hd : decide (d.half ≤ i) = false := by simp; omega
  have hl0 := HS1.out.load
  have hl1 := HS1.out.half
  have hm : h * d.half ≤ 1024 := by
    have : d.half = d.secs.length / 2 := rfl
    rcases Nat.le_one_iff_eq_zero_or_eq_one.1 hh with rfl | rfl <;> omega
  have hmul : ((h : Int) * (d.half : Int)) = ((h * d.half : Nat) : Int) := by simp
  have hwi : d.within ((h * d.half + i : Nat) : Int) = true := by
    have : d.half = d.secs.length / 2 := rfl
    rw [Dk.within, Dk.inside]
    rcases Nat.le_one_iff_eq_zero_or_eq_one.1 hh with rfl | rfl <;> simp <;> omega
  have HRD := Lib.hid (show d.read ((h * d.half + i : Nat) : Int) = (d.look ((h * d.half + i : Nat) : Int), 0) by rw [Dk.read, hr, hwi, hdn]; rfl)
  generalize hq : h * d.half = q at *
  have HQ := Lib.hid hq
  clear hq
  have hs1 : IntKind.i64.wrap ((q : Int) + (i : Int)) = (q : Int) + (i : Int) := IntWalk.i64_in _ (by omega)
  have hs0 : IntKind.i64.wrap (q : Int) = (q : Int) := IntWalk.i64_in _ (by omega)
  go_wp2_with fail
  clear hl0 hl1
  obtain ⟨sc, hsc⟩ : ∃ sc, sc = d.look ((q + i : Nat) : Int) := ⟨_, rfl⟩
  rw [← hsc] at HRD
  have HSC := Lib.hid hsc
  clear hsc
  have h1c := secC_one sc
  have hu := Tryd.underlying81
  have hinf : (Tryd.prog.info? 81).map (·.size) = some (secC sc).length := by rw [sizeSector, secC_length]
  have HK := Lib.hid (show ∀ W, Below w2.heap.size w2 W → (diskVar ⟨b, 0, none⟩).run Tryd.prog W = .ok (.agg C) W ∧ W.cell? ⟨b, 4, none⟩ = some (.int .i64 (h : Int)) from fun W hW => ⟨(HS1.out.below hW).load, (HS1.out.below hW).half⟩)
  have HSZ := Lib.hid (show ∀ W, Below w2.heap.size w2 W → Calls Tryd.prog 33 #[.pointer (some ⟨b, 0, none⟩)] W fun e w' => e = .returned (.int .i64 (d.half : Int)) ∧ w' = W from fun W hW => sideSize_f W b C d h (HS1.out.below hW) (by omega))
  have HREAD := Lib.hid (show ∀ W, Below w2.heap.size w2 W → Calls Tryd.prog 78 #[.agg C, .int .i64 ((q : Int) + (i : Int))] W fun e w' => e = .returned (.tuple #[secV sc, .int .i64 0]) ∧ Below w2.heap.size w2 w' ∧ Below W.heap.size W w' from fun W hW =>
    (read_f W (.agg C) d _ (HS1.out.below hW).disk).mono fun _ _ ⟨h1, h2⟩ => ⟨by rw [h1, ← Int.natCast_add, HRD.out], below_chain hW h2, h2⟩)
  have hb0 : Below w2.heap.size w2 w2.drew := (Below.refl _ _).drew
  have HKS := Lib.hid (show ∀ W b' cs, Below w2.heap.size w2 W → w2.heap.size ≤ b' → (diskVar ⟨b, 0, none⟩).run Tryd.prog (W.setCells b' 0 cs) = .ok (.agg C) (W.setCells b' 0 cs) ∧ (W.setCells b' 0 cs).cell? ⟨b, 4, none⟩ = some (.int .i64 (h : Int)) from fun W b' cs hW hb => HK.out _ (below_setCells b' hb cs 0 W hW))
  go_cut [6, 7] from 15 to 31 (fun s6 s7 wx => ∃ b6, s6 = .pointer (some ⟨b6, 0, none⟩) ∧ s7 = .int .i64 0 ∧ Below w2.heap.size w2 wx ∧ wx.rangeAt b6 0 (secC sc))
  case first =>
    go_region_held3 (fun W => (diskVar ⟨b, 0, none⟩).run Tryd.prog W = .ok (.agg C) W ∧ W.cell? ⟨b, 4, none⟩ = some (.int .i64 (h : Int)))
      (first | exact HK.out _ (by assumption) | exact HK.out _ (below_new (by assumption) _) | ((refine HKS.out _ _ _ ?_ ?_) <;> first | assumption | exact below_new (by assumption) _ | exact Nat.le_refl _ | exact hbc.size))
      (first
        | (go_at_call 33
           (with_reducible refine (HSZ.out _ ?_).mono ?_)
           · first | assumption | exact below_new (by assumption) _
           rintro e wa ⟨rfl, rfl⟩)
        | (go_at_call 78
           (with_reducible refine (HREAD.out _ ?_).mono ?_)
           · first | assumption | exact below_new (by assumption) _
           rintro e wc ⟨rfl, hbc, hxc⟩
           have hth1 := there_sec wc sc
           try have hth2 := there_below (there_sec w2.drew sc) hxc (by simp)))
    all_goals go_wp2_with fail
    all_goals go_meet
    · exact ⟨_, rfl, rfl, below_setCells _ hbc.size _ _ _ (below_new hbc _), World.rangeAt_setCells_same _ _ _ _ hth1⟩
    all_goals exact ⟨_, rfl, rfl, below_setCells _ (Nat.le_refl _) _ _ _ hbc, World.rangeAt_setCells_same _ _ _ _ hth2⟩
  case rest =>
    rename World => wx
    obtain ⟨b6, rfl, rfl, hbx, hr6⟩ := hcut
    have HBX := Lib.hid hbx
    have HLX := Lib.hid (HL.out.below (below_chain HB1.out hbx) HL.out.size)
    have hl6 := load_secVar hr6
    clear hbx hr6 h1c hu hinf hm hmul hwi hs1 hs0
    go_wp2_with fail
    refine (says_f wx sc HLX.out).mono ?_
    rintro e wy ⟨v, p, rfl, hp, hpn, hfp, hp100, hby⟩
    have HPN := Lib.hid hpn
    clear hpn
    have HFP := Lib.hid hfp
    clear hfp
    have HP := Lib.hid hp
    have HP1 := Lib.hid hp100
    have HBY := Lib.hid (below_chain HBX.out hby)
    obtain ⟨A, n, c, rfl, hn, hrow⟩ := hp
    clear hl6 hn hrow hp100 hby
    go_wp2_with fail
    obtain ⟨w5, hw5⟩ : ∃ w5, w5 = wy.alloc (.cells #[.int .i64 p.gen, .int .i64 p.index, .int .u8 p.marks.toNat, .slice A n c] 100) := ⟨_, rfl⟩
    obtain ⟨b8, hb8⟩ : ∃ b8, b8 = wy.heap.size := ⟨_, rfl⟩
    rw [← hw5, ← hb8]
    have HB5 := Lib.hid (show Below wy.heap.size wy w5 by rw [hw5]; exact (Below.refl _ _).alloc (Nat.le_refl _) _)
    have hR8 : w5.rangeAt b8 0 (partC p.gen p.index p.marks.toNat A n c) := by rw [hw5, hb8]; exact range_new wy (partC p.gen p.index p.marks.toNat A n c) 100
    have HN8 := Lib.hid (show w.heap.size < w2.heap.size ∧ w2.heap.size ≤ b8 from ⟨HW1.out, by rw [hb8]; exact HBY.out.size⟩)
    have HT5 := Lib.hid (show w5.drew.there w.heap.size 0 4 from there_below (there_below (there_below HT1.out HBY.out HW1.out) HB5.out (by have := HN8.out; omega)) ((Below.refl w5.heap.size w5).drew) (by have := HN8.out; have := range_lt hR8 (by simp [partC]); omega))
    have HB55 := Lib.hid (show Below w.heap.size w (w5.drew.setCells w.heap.size 0 (partC p.gen p.index p.marks.toNat A n c)) from below_setCells _ (Nat.le_refl _) _ _ _ ((below_chain HB1.out (below_chain HBY.out HB5.out)).drew))
    have hpc : ∀ W : World, W.rangeAt b8 0 (partC p.gen p.index p.marks.toNat A n c) → W.cell? ⟨b8, 0, none⟩ = some (.int .i64 p.gen) ∧ W.cell? ⟨b8, 1, none⟩ = some (.int .i64 p.index) ∧ W.cell? ⟨b8, 2, none⟩ = some (.int .u8 p.marks.toNat) ∧ W.cell? ⟨b8, 3, none⟩ = some (.slice A n c) := fun (W : World) hW => by
      have hk : ∀ j u, (partC p.gen p.index p.marks.toNat A n c)[j]? = some u → W.cell? ⟨b8, j, none⟩ = some u := fun j u hu => by have := hW j u hu; rwa [Nat.zero_add] at this
      exact ⟨hk 0 _ rfl, hk 1 _ rfl, hk 2 _ rfl, hk 3 _ rfl⟩
    have HS0 := Lib.hid (hpc w5.drew hR8)
    have HS1' := Lib.hid (hpc (w5.drew.setCells w.heap.size 0 (partC p.gen p.index p.marks.toNat A n c)) (range_keepb hR8 (heap_setCells w.heap.size b8 (by have := HN8.out; omega) _ 0 w5.drew)))
    have HOUT := Lib.hid (show ∀ ok, (goodS sc && decide (p.index = (i : Int))) = ok → PartPost d h i w (.returned (.tuple #[.agg #[.int .i64 p.gen, .int .i64 p.index, .int .u8 p.marks.toNat, .slice A n c], .bool ok])) (w5.drew.setCells w.heap.size 0 (partC p.gen p.index p.marks.toNat A n c)) from by
      intro ok hok
      refine ⟨_, p, ok, rfl, ?_, HP1.out, ?_, HB55.out⟩
      · obtain ⟨A', n', c', e, hn, hrow⟩ := HP.out
        injection e with e; injection e with e; injection e with _ e; injection e with _ e; injection e with _ e; injection e with e _
        injection e with e1 e2 e3
        subst e1; subst e2; subst e3
        refine ⟨A, n, c, rfl, hn, ((hrow.kept HB5.out (Nat.le_refl _)).drew).keep (by rw [size_setCells]; exact Nat.le_refl _) (fun x hx h0 hl => heap_setCells _ _ ?_ _ _ _)⟩
        have := HPN.out _ _ _ _ _ _ rfl x hx
        have := HBX.out.size
        have := HN8.out
        omega
      · rw [at_is hlt (show d.look ((h * d.half + i : Nat) : Int) = sc by rw [HQ.out]; exact HSC.out.symm)]
        cases hg : goodS sc with
        | false => rw [hg] at hok; rw [← hok]; rfl
        | true =>
          have hp : p = rawP sc := HFP.out (by rw [goodS, Bool.and_eq_true, Bool.and_eq_true] at hg; exact hg.1.1)
          rw [hg] at hok
          rw [← hok, ← hp])
    have hne1 : ¬ w.heap.size = b8 := by have := HN8.out; omega
    have hne2 : ¬ b8 = w.heap.size := by have := HN8.out; omega
    clear hw5 hb8 hR8 hpc
    have HTC := Lib.hid (there4 (show w5.there w.heap.size 0 4 from HT5.out))
    have HPC := Lib.hid (show w5.cell? ⟨b8, 0, none⟩ = some (.int .i64 p.gen) ∧ w5.cell? ⟨b8, 1, none⟩ = some (.int .i64 p.index) ∧ w5.cell? ⟨b8, 2, none⟩ = some (.int .u8 p.marks.toNat) ∧ w5.cell? ⟨b8, 3, none⟩ = some (.slice A n c) from HS0.out)
    generalize goodS sc = gd at *
    cases gd
    case false =>
      obtain ⟨⟨t0, e0⟩, ⟨t1, e1⟩, ⟨t2, e2⟩, ⟨t3, e3⟩, z0, z1, z2, z3⟩ := HTC.out
      obtain ⟨p0, p1, p2, p3⟩ := HPC.out
      go_region
      go_wp2_with fail
      refine bodyPost_ret (ret_cell_tmp rfl rfl (load_part (show ((w5.setCells w.heap.size 0 (partC p.gen p.index p.marks.toNat A n c)).drew).rangeAt w.heap.size 0 (partC p.gen p.index p.marks.toNat A n c) from World.rangeAt_setCells_same w5 w.heap.size 0 _ HT5.out))) rfl ?_
      exact HOUT.out _ rfl
    case true =>
      by_cases hpi : p.index = (i : Int)
      · have hd : (p.index == (i : Int)) = true := by simp [hpi]
        have HI := Lib.hid (show (true && decide (p.index = (i : Int))) = true by simp [hpi])
        clear hpi
        obtain ⟨⟨t0, e0⟩, ⟨t1, e1⟩, ⟨t2, e2⟩, ⟨t3, e3⟩, z0, z1, z2, z3⟩ := HTC.out
        obtain ⟨p0, p1, p2, p3⟩ := HPC.out
        go_region
        go_wp2_with fail
        refine bodyPost_ret (ret_cell_tmp rfl rfl (load_part (show ((w5.setCells w.heap.size 0 (partC p.gen p.index p.marks.toNat A n c)).drew).rangeAt w.heap.size 0 (partC p.gen p.index p.marks.toNat A n c) from World.rangeAt_setCells_same w5 w.heap.size 0 _ HT5.out))) rfl ?_
        exact HOUT.out _ HI.out
      · have hd : (p.index == (i : Int)) = false := by simp [hpi]
        have HI := Lib.hid (show (true && decide (p.index = (i : Int))) = false by simp [hpi])
        clear hpi
        obtain ⟨⟨t0, e0⟩, ⟨t1, e1⟩, ⟨t2, e2⟩, ⟨t3, e3⟩, z0, z1, z2, z3⟩ := HTC.out
        obtain ⟨p0, p1, p2, p3⟩ := HPC.out
        go_region
        go_wp2_with fail
        refine bodyPost_ret (ret_cell_tmp rfl rfl (load_part (show ((w5.setCells w.heap.size 0 (partC p.gen p.index p.marks.toNat A n c)).drew).rangeAt w.heap.size 0 (partC p.gen p.index p.marks.toNat A n c) from World.rangeAt_setCells_same w5 w.heap.size 0 _ HT5.out))) rfl ?_
        exact HOUT.out _ HI.out
end Go.Proofs.YtbhjigejpdbeiaaDoor
end

section
/-
  next: the record that stands at a reader's index.
-/
namespace Go.Proofs.YtbhjigejpdbeiaaDoor
open Go.RowKit Go.Shelf
set_option linter.unusedVariables false
set_option maxRecDepth 8000

/-- A reader's variable. -/
structure ReaderAt (w : World) (b sb : Nat) (gen : Int) (i : Nat) : Prop where
  range : w.rangeAt b 0 [.pointer (some ⟨sb, 0, none⟩), .int .i64 gen, .int .i64 (i : Int)]
  there : w.there b 0 3
theorem ReaderAt.lt {w : World} {b sb : Nat} {gen : Int} {i : Nat} (s : ReaderAt w b sb gen i) : b < w.heap.size := range_lt s.range (by simp)
theorem ReaderAt.below {w w' : World} {B b sb : Nat} {gen : Int} {i : Nat} (s : ReaderAt w b sb gen i) (hb : Below B w w') (h : b < B) : ReaderAt w' b sb gen i :=
  ⟨range_below s.range hb h, there_below s.there hb h⟩
theorem ReaderAt.cells {w : World} {b sb : Nat} {gen : Int} {i : Nat} (s : ReaderAt w b sb gen i) : w.cell? ⟨b, 0, none⟩ = some (.pointer (some ⟨sb, 0, none⟩)) ∧ w.cell? ⟨b, 1, none⟩ = some (.int .i64 gen) ∧ w.cell? ⟨b, 2, none⟩ = some (.int .i64 (i : Int)) ∧ w.frozen? ⟨b, 2, none⟩ = false := by
  have hk : ∀ j u, ([.pointer (some ⟨sb, 0, none⟩), .int .i64 gen, .int .i64 (i : Int)] : List Value)[j]? = some u → w.cell? ⟨b, j, none⟩ = some u := fun j u hu => by have := s.range j u hu; rwa [Nat.zero_add] at this
  exact ⟨hk 0 _ rfl, hk 1 _ rfl, hk 2 _ rfl, by have := (s.there 2 (by omega)).2; rwa [Nat.zero_add] at this⟩
theorem ReaderAt.set {w : World} {b sb : Nat} {gen : Int} {i : Nat} (s : ReaderAt w b sb gen i) (j : Nat) : ReaderAt (w.setCell ⟨b, 2, none⟩ (.int .i64 (j : Int))) b sb gen j := by
  have k := range_setCells s.range 2 [.int .i64 (j : Int)] (by simp)
  exact ⟨k, World.there_setCells s.there b 2 [.int .i64 (j : Int)]⟩
theorem and_u8 (x y : UInt8) : bits .and .u8 (x.toNat : Int) (y.toNat : Int) = ((x &&& y).toNat : Int) := by
  show IntKind.u8.wrap ((BitVec.ofInt 8 (x.toNat : Int) &&& BitVec.ofInt 8 (y.toNat : Int)).toNat : Int) = _
  rw [BitVec.ofInt_natCast, BitVec.ofInt_natCast, BitVec.toNat_and, BitVec.toNat_ofNat, BitVec.toNat_ofNat, Nat.mod_eq_of_lt (by exact x.toNat_lt), Nat.mod_eq_of_lt (by exact y.toNat_lt), UInt8.toNat_and]
  have h : x.toNat &&& y.toNat < 2 ^ 8 := Nat.and_lt_two_pow _ y.toNat_lt
  simp only [IntKind.wrap, IntKind.bits, IntKind.signed]
  simp
  omega
theorem and_ne (x y : UInt8) : (((x &&& y).toNat : Int) != 0) = (x &&& y != 0) := by
  rw [Bool.eq_iff_iff, bne_iff_ne, bne_iff_ne]
  constructor
  · intro h e; rw [e] at h; exact h rfl
  · intro h e; apply h; rw [← UInt8.toNat_inj]; have : (x &&& y).toNat = 0 := by omega
    rw [this]; rfl

theorem part_cells {W : World} {b : Nat} {g i m : Int} {A : Option Addr} {n c : Nat} (h : W.rangeAt b 0 (partC g i m A n c)) :
    W.cell? ⟨b, 0, none⟩ = some (.int .i64 g) ∧ W.cell? ⟨b, 1, none⟩ = some (.int .i64 i) ∧ W.cell? ⟨b, 2, none⟩ = some (.int .u8 m) ∧ W.cell? ⟨b, 3, none⟩ = some (.slice A n c) := by
  have hk : ∀ j u, (partC g i m A n c)[j]? = some u → W.cell? ⟨b, j, none⟩ = some u := fun j u hu => by have := h j u hu; rwa [Nat.zero_add] at this
  exact ⟨hk 0 _ rfl, hk 1 _ rfl, hk 2 _ rfl, hk 3 _ rfl⟩
/-- What next answers. -/
def NextPost (d : Dk) (h : Nat) (gen : Int) (start rb sb : Nat) (w : World) (e : Ending) (w' : World) : Prop :=
  w.grownBy w' (some rb) ∧ match d.one h gen start with
  | none => e = .returned (.tuple #[.slice none 0 0, .bool false]) ∧ ReaderAt w' rb sb gen start
  | some (r, j) => ∃ A n c, e = .returned (.tuple #[.slice A n c, .bool true]) ∧ n = r.length ∧ RowOf w' 1 A n c (Lib.byteCells r) ∧ (∀ x, A = some x → w.heap.size ≤ x.block) ∧ ReaderAt w' rb sb gen j
theorem next_none {d : Dk} {h : Nat} {gen : Int} {start rb sb : Nat} {w w' : World} (hb : Below w.heap.size w w') (hr : ReaderAt w' rb sb gen start) (ho : d.one h gen start = none) :
    NextPost d h gen start rb sb w (.returned (.tuple #[.slice none 0 0, .bool false])) w' := by
  refine ⟨⟨hb.os, hb.tape, hb.output, hb.size, fun k hk _ => hb.block k hk⟩, ?_⟩
  rw [ho]
  exact ⟨rfl, hr⟩
theorem oneStepNone {d : Dk} {h : Nat} {gen : Int} {start f k : Nat} {acc : List UInt8} (hk : d.at_ h k = none) : d.oneF h gen start f k acc = none := by
  cases f with
  | zero => rfl
  | succ f => rw [Dk.oneF, hk]
theorem oneStepSome {d : Dk} {h : Nat} {gen : Int} {start k : Nat} {acc : List UInt8} {p : Part} (hk : d.at_ h k = some p) : d.oneF h gen start (d.half + 1 - k) k acc =
    if Dk.bad p gen start k acc.length then none else if p.marks &&& 2 != 0 then some (acc ++ p.data, k + 1) else d.oneF h gen start (d.half + 1 - (k + 1)) (k + 1) (acc ++ p.data) := by
  have hlt := Dk.at_lt hk
  rw [show d.half + 1 - k = (d.half + 1 - (k + 1)) + 1 by omega, Dk.oneF, hk]
set_option maxHeartbeats 1000000 in
theorem next_f (w : World) (rb sb : Nat) (C : Array Value) (d : Dk) (h : Nat) (gen : Int) (start : Nat) (hs : SideAt w sb C d h) (hr : ReaderAt w rb sb gen start) (hh : h ≤ 1) (hrt : d.right = true) (hdn : d.down = false) (hst : start ≤ 100000) (hL : Laid w) :
    Calls Tryd.prog 66 #[.pointer (some ⟨rb, 0, none⟩)] w fun e w' => NextPost d h gen start rb sb w e w' := by
  have hbd := Jp.bounds_of_right hrt
  have HHF := Lib.hid (show d.half ≤ 1024 by have : d.half = d.secs.length / 2 := rfl; omega)
  have HS := Lib.hid hs
  have HR := Lib.hid hr
  have HL := Lib.hid hL
  have HRT := Lib.hid hrt
  have HDN := Lib.hid hdn
  obtain ⟨R, hR⟩ : ∃ R, R = d.one h gen start := ⟨_, rfl⟩
  have HONE := Lib.hid hR
  obtain ⟨p0, p1, p2, p3⟩ := hr.cells
  clear hs hr hL hbd hrt hdn hR
  go_enter Tryd.func66, Tryd.ntmps66
  go_wp2_with fail
  clear p0 p1 p2 p3
  go_loopw [4, 5] (fun v i wr => ∃ (k : Nat) (acc : List UInt8), i = .int .i64 (k : Int) ∧ start ≤ k ∧ k ≤ start + 1024 ∧ acc.length ≤ 4096 ∧ Hid (Below w.heap.size w wr) ∧ Hid (wr.ownsRow w.heap.size 5 1 v acc.length (Lib.byteCells acc)) ∧ Hid (R = d.oneF h gen start (d.half + 1 - k) k acc)) (fun v i wr => (start + 2000 - (intOf i).toNat))
  case atStart =>
    exact ⟨start, [], rfl, Nat.le_refl _, by omega, by simp, Lib.hid (Below.refl _ _), Lib.hid (World.ownsRow_nil w w.heap.size 5 1), Lib.hid HONE.out⟩
  case round =>
    obtain ⟨k, acc, rfl, hk1, hk2, hacc, HB, HOWN, HF⟩ := hrel
    have HRW := Lib.hid (HR.out.below HB.out HR.out.lt)
    have HSW := Lib.hid (HS.out.below HB.out)
    have HLW := Lib.hid (HL.out.below HB.out HL.out.size)
    obtain ⟨p0, p1, p2, p3⟩ := HRW.out.cells
    go_wp2_with fail
    refine (part_f wr sb C d h k HSW.out hh HRT.out HDN.out (by omega) HLW.out).mono ?_
    rintro e wy ⟨v, p, ok, rfl, hp, hp100, hat, hby⟩
    have HAT := Lib.hid hat
    have HBY := Lib.hid (below_chain HB.out hby)
    have HOY := Lib.hid (own_below HOWN.out hby (Nat.le_refl _))
    have HP100 := Lib.hid hp100
    obtain ⟨A, n, c, rfl, hn, hrow⟩ := hp
    have HN := Lib.hid hn
    have HROW := Lib.hid hrow
    have hn100 : n ≤ 100 := by omega
    clear p0 p1 p2 p3 hat hby hp100 hn hrow
    go_wp2_with fail
    obtain ⟨w6, hw6⟩ : ∃ w6, w6 = wy.alloc (.cells #[.int .i64 p.gen, .int .i64 p.index, .int .u8 p.marks.toNat, .slice A n c] 100) := ⟨_, rfl⟩
    obtain ⟨b6, hb6⟩ : ∃ b6, b6 = wy.heap.size := ⟨_, rfl⟩
    rw [← hw6, ← hb6]
    have HB6 := Lib.hid (show Below wy.heap.size wy w6 by rw [hw6]; exact (Below.refl _ _).alloc (Nat.le_refl _) _)
    have HR6 := Lib.hid (show w6.rangeAt b6 0 (partC p.gen p.index p.marks.toNat A n c) by rw [hw6, hb6]; exact range_new wy (partC p.gen p.index p.marks.toNat A n c) 100)
    have HBW := Lib.hid (below_chain HBY.out HB6.out)
    have HO6 := Lib.hid (own_below HOY.out HB6.out (Nat.le_refl _))
    have HROW6 := Lib.hid (HROW.out.kept HB6.out (Nat.le_refl _))
    have HRD6 := Lib.hid (HR.out.below HBW.out HR.out.lt)
    have HN6 := Lib.hid (show w.heap.size ≤ b6 by rw [hb6]; exact HBY.out.size)
    clear hw6 hb6 HOY HROW HB6 HRW HSW HLW HB HOWN
    have HNONE := Lib.hid (show R = none → ∀ W, Below w6.heap.size w6 W → NextPost d h gen start rb sb w (.returned (.tuple #[.slice none 0 0, .bool false])) W from fun hr W hW =>
      next_none (below_chain HBW.out hW) (HR.out.below (below_chain HBW.out hW) HR.out.lt) (HONE.out.symm.trans hr))
    have hA1 : bits .and .u8 (p.marks.toNat : Int) 1 = ((p.marks &&& 1).toNat : Int) := and_u8 p.marks 1
    have hA2 : bits .and .u8 (p.marks.toNat : Int) 2 = ((p.marks &&& 2).toNat : Int) := and_u8 p.marks 2
    have hB1 := and_ne p.marks 1
    have hB2 := and_ne p.marks 2
    have HBAD := Lib.hid (show Dk.bad p gen start k acc.length = (!decide (p.gen = gen) || !((p.marks &&& 1 != 0) == decide (k = start)) || (!(p.marks &&& 2 != 0) && decide (p.data.length < 100)) || (!(p.marks &&& 1 != 0) && decide (p.data.length = 0)) || decide (4096 < acc.length + p.data.length)) from rfl)
    have HSTEP := Lib.hid (fun (ha : d.at_ h k = some p) => HF.out.trans (oneStepSome (gen := gen) (start := start) (acc := acc) ha))
    generalize (p.marks &&& 1 != 0) = bg at *
    generalize (p.marks &&& 2 != 0) = en at *
    generalize (p.marks &&& 1).toNat = z1 at *
    generalize (p.marks &&& 2).toNat = z2 at *
    obtain ⟨q0, q1, q2, q3⟩ := part_cells HR6.out
    obtain ⟨p0, p1, p2, p3⟩ := HRD6.out.cells
    have hks : ((k : Int) == (start : Int)) = decide (k = start) := by
      rw [Bool.eq_iff_iff, beq_iff_eq, decide_eq_true_eq]; omega
    generalize decide (k = start) = ks at *
    go_quiet (fail)
    rename Nat => nq
    have hbq := below_drewN (Below.refl w6.heap.size w6) nq
    have HFN := Lib.hid (show ∀ W, Below (w6.drewN nq).heap.size (w6.drewN nq) W → R = none → NextPost d h gen start rb sb w (.returned (.tuple #[.slice none 0 0, .bool false])) W from fun W hW hr => HNONE.out hr W (below_chain hbq hW))
    have HR7 := Lib.hid (show (w6.drewN nq).rangeAt b6 0 (partC p.gen p.index p.marks.toNat A n c) from HR6.out)
    have HRD7 := Lib.hid (show ReaderAt (w6.drewN nq) rb sb gen start from HRD6.out.below hbq HRD6.out.lt)
    have HO7 := Lib.hid (own_below HO6.out hbq (Nat.le_refl _))
    have HROW7 := Lib.hid (HROW6.out.kept hbq (Nat.le_refl _))
    have HBW7 := Lib.hid (below_chain HBW.out hbq)
    obtain ⟨w7, hw7⟩ : ∃ w7, w7 = w6.drewN nq := ⟨_, rfl⟩
    rw [← hw7] at HFN HR7 HRD7 HO7 HROW7 HBW7 ⊢
    clear hw7 p0 p1 p2 p3 q0 q1 q2 q3 hbq HR6 HRD6 HO6 HROW6 hA1 hA2 hB1 hB2 HNONE
    go_wp2_with fail
    obtain ⟨q0, q1, q2, q3⟩ := part_cells HR7.out
    obtain ⟨p0, p1, p2, p3⟩ := HRD7.out.cells
    cases ok
    case false =>
      have HRN := Lib.hid (show R = none from HF.out.trans (oneStepNone HAT.out))
      go_quiet (fail)
      rename Nat => nr
      have hbr := below_drewN (Below.refl w7.heap.size w7) nr
      go_wp2_with fail
      go_ret2
      exact HFN.out _ hbr HRN.out
    have HST := Lib.hid (HSTEP.out HAT.out)
    have HKH := Lib.hid (Dk.at_lt (show d.at_ h k = some p from HAT.out))
    clear HSTEP HAT
    by_cases hg : p.gen = gen
    case neg =>
      have hgn : (p.gen != gen) = true := by simp [hg]
      have HRN := Lib.hid (show R = none from HST.out.trans (if_pos (by rw [HBAD.out]; simp [hg])))
      clear hg
      go_quiet (fail)
      rename Nat => nr
      have hbr := below_drewN (Below.refl w7.heap.size w7) nr
      go_wp2_with fail
      go_ret2
      exact HFN.out _ hbr HRN.out
    have hgn : (p.gen != gen) = false := by simp [hg]
    by_cases hbk : bg = ks
    case neg =>
      have hbn : (bg == ks) = false := by simp [hbk]
      have HRN := Lib.hid (show R = none from HST.out.trans (if_pos (by rw [HBAD.out]; simp [hbk])))
      clear hbk hg
      go_quiet (fail)
      rename Nat => nr
      have hbr := below_drewN (Below.refl w7.heap.size w7) nr
      go_wp2_with fail
      go_ret2
      exact HFN.out _ hbr HRN.out
    have hbn : (bg == ks) = true := by simp [hbk]
    have HG := Lib.hid hg
    have HBK := Lib.hid hbk
    clear hg hbk
    go_quiet (fail)
    rename Nat => nr
    have hbr := below_drewN (Below.refl w7.heap.size w7) nr
    have HFN8 := Lib.hid (show ∀ W, Below (w7.drewN nr).heap.size (w7.drewN nr) W → R = none → NextPost d h gen start rb sb w (.returned (.tuple #[.slice none 0 0, .bool false])) W from fun W hW hr => HFN.out W (below_chain hbr hW) hr)
    have HR8 := Lib.hid (show (w7.drewN nr).rangeAt b6 0 (partC p.gen p.index p.marks.toNat A n c) from HR7.out)
    have HRD8 := Lib.hid (show ReaderAt (w7.drewN nr) rb sb gen start from HRD7.out.below hbr HRD7.out.lt)
    have HO8 := Lib.hid (own_below HO7.out hbr (Nat.le_refl _))
    have HROW8 := Lib.hid (HROW7.out.kept hbr (Nat.le_refl _))
    have HBW8 := Lib.hid (below_chain HBW7.out hbr)
    obtain ⟨w8, hw8⟩ : ∃ w8, w8 = w7.drewN nr := ⟨_, rfl⟩
    rw [← hw8] at HFN8 HR8 HRD8 HO8 HROW8 HBW8 ⊢
    clear hw8 p0 p1 p2 p3 q0 q1 q2 q3 hbr HR7 HRD7 HO7 HROW7 HBW7 HFN hgn hbn hks
    go_upto_region 8 with fail
    obtain ⟨q0, q1, q2, q3⟩ := part_cells HR8.out
    obtain ⟨p0, p1, p2, p3⟩ := HRD8.out.cells
    go_cut [55] from 56 to 73 (fun s55 wx => s55 = .bool ((!en && decide (n < 100)) || (!bg && decide (n = 0))) ∧ wx = w8)
    case first =>
      have hz0 : ((n : Int) == 0) = decide (n = 0) := by
        rw [Bool.eq_iff_iff, beq_iff_eq, decide_eq_true_eq]; omega
      have hz1 : decide ((n : Int) < 100) = decide (n < 100) := by
        rw [Bool.eq_iff_iff, decide_eq_true_eq, decide_eq_true_eq]; omega
      by_cases q1 : n < 100 <;> by_cases q2 : n = 0
      all_goals simp only [q1, q2, decide_true, decide_false] at hz0 hz1
      all_goals have Q1 := Lib.hid q1
      all_goals have Q2 := Lib.hid q2
      all_goals clear q1 q2
      all_goals cases en <;> cases bg
      all_goals go_wp2_with fail
      all_goals go_meet
      all_goals refine ⟨?_, rfl⟩
      all_goals simp [Q1.out, Q2.out]
    case rest =>
      obtain ⟨rfl, rfl⟩ := hcut
      have HBAD3 := Lib.hid (show Dk.bad p gen start k acc.length = (((!en && decide (n < 100)) || (!bg && decide (n = 0))) || decide (4096 < acc.length + n)) by
        rw [HBAD.out, HG.out, ← HBK.out, HN.out]; simp [Bool.or_assoc])
      generalize ((!en && decide (n < 100)) || (!bg && decide (n = 0))) = bb at *
      cases bb
      case true =>
        have HRN := Lib.hid (show R = none from HST.out.trans (if_pos (by rw [HBAD3.out]; rfl)))
        go_wp2_with fail
        go_ret2
        exact HFN8.out _ (Below.refl _ _) HRN.out
      rename World => w8
      go_wp2_with (at_builtin; refine append_row rfl (.tmp 74) (.tmp 76) 28 5 rfl Tryd.underlying28 w.heap.size (.int .u8 0) 1 1 infoU8 (by rfl) (by decide) _ _ _ rfl HO8.out A n c (Lib.byteCells p.data) rfl HROW8.out (bytes_one _) (by omega) (by decide) HBW8.out.size ?_)
      intro v' w9 k1 k2
      have K2 := Lib.hid (below_owned (Below.refl w.heap.size w8) HO8.out k2 (Nat.le_refl _) HBW8.out.size)
      have HBW9 := Lib.hid (HBW8.out.trans K2.out)
      have HO9 := Lib.hid (show w9.ownsRow w.heap.size 5 1 v' (acc ++ p.data).length (Lib.byteCells (acc ++ p.data)) by
        rw [List.length_append, ← HN.out, bytes_app]; exact k1)
      obtain ⟨A9, c9, rfl, hrow9, hlo9⟩ := row_of_own k1
      have HRD9 := Lib.hid (HR.out.below HBW9.out HR.out.lt)
      have HROW9 := Lib.hid (show RowOf w9 1 A9 (acc.length + n) c9 (Lib.byteCells (acc ++ p.data)) by rw [bytes_app]; exact hrow9)
      have HLO9 := Lib.hid hlo9
      clear k1 k2 hrow9 hlo9 p0 p1 p2 p3 q0 q1 q2 q3
      obtain ⟨p0, p1, p2, p3⟩ := HRD9.out.cells
      by_cases hbig : 4096 < acc.length + n
      case pos =>
        have hd : decide ((4096 : Int) < ((acc.length + n : Nat) : Int)) = true := by simp; omega
        have HRN := Lib.hid (show R = none from HST.out.trans (if_pos (by rw [HBAD3.out]; simp [hbig])))
        go_wp2_with fail
        go_ret2
        exact next_none HBW9.out HRD9.out (HONE.out.symm.trans HRN.out)
      have hd : decide ((4096 : Int) < ((acc.length + n : Nat) : Int)) = false := by simp; omega
      have HST2 := Lib.hid (HST.out.trans (if_neg (by rw [HBAD3.out]; simp [hbig])))
      cases en
      case true =>
        have HRS := Lib.hid (show R = some (acc ++ p.data, k + 1) from HST2.out)
        go_wp2_with fail
        go_ret2
        refine (show NextPost d h gen start rb sb w (.returned (.tuple #[.slice A9 (acc.length + n) c9, .bool true])) (w9.setCell ⟨rb, 2, none⟩ (.int .i64 ((k + 1 : Nat) : Int))) from ⟨grown_set ⟨HBW9.out.os, HBW9.out.tape, HBW9.out.output, HBW9.out.size, fun q hq _ => HBW9.out.block q hq⟩ _ _, ?_⟩)
        rw [← HONE.out, HRS.out]
        exact ⟨A9, acc.length + n, c9, rfl, by rw [List.length_append, HN.out], HROW9.out.setCell _ _ (fun x hx _ => by have := HLO9.out x hx; have := HR.out.lt; show x.block ≠ rb; omega), HLO9.out, HRD9.out.set (k + 1)⟩
      case false =>
        have HRS := Lib.hid (show R = d.oneF h gen start (d.half + 1 - (k + 1)) (k + 1) (acc ++ p.data) from HST2.out)
        go_wp2_with fail
        go_roundw
        case rel =>
          exact ⟨k + 1, acc ++ p.data, rfl, by omega, by have := HKH.out; have := HHF.out; omega, by rw [List.length_append, ← HN.out]; omega, HBW9, HO9, HRS⟩
        case measure => simp [intOf]; omega
end Go.Proofs.YtbhjigejpdbeiaaDoor
end

section
/-
  The reference's look and at.
-/
namespace Go.Proofs.YtbhjigejpdbeiaaDoor
open Go.RowKit Go.Shelf
set_option linter.unusedVariables false
set_option maxRecDepth 8000

theorem half_mul {h m : Nat} (hh : h ≤ 1) : h * m ≤ m := by
  rcases Nat.le_one_iff_eq_zero_or_eq_one.1 hh with rfl | rfl <;> omega
end Go.Proofs.YtbhjigejpdbeiaaDoor
end

section
/-
  Chance, of the reference's journal: is a torn sector sealed by chance?
-/
namespace Go.Proofs.YtbhjigejpdbeiaaDoor
open Go.RowKit Go.Shelf
set_option linter.unusedVariables false
set_option maxRecDepth 8000

theorem chance_end (fates : List (UInt8 × UInt8)) (l : List Sec) (ws : List Wr) (k : Nat) (h : ws.length ≤ k) : Jp.chanceF fates l (ws.drop k) k = false := by
  rw [List.drop_eq_nil_of_le h]; rfl
theorem chance_cut (fates : List (UInt8 × UInt8)) (s : List Sec) (ws : List Wr) (k : Nat) (x : Wr) (hx : ws[k]? = some x) (a : Nat) (ha : x.at_ = (a : Int)) (so : Sec) (hso : (Dk.lands fates s (ws.take k) 0)[a]? = some so) (f : UInt8 × UInt8) (hf : fates.getD (k % fates.length) (0, 0) = f) :
    Jp.chanceF fates (Dk.lands fates s (ws.take k) 0) (ws.drop k) k = (((says (Dk.torn x.data so (Dk.kept f))).isSome && decide (Dk.torn x.data so (Dk.kept f) ≠ so) && decide (Dk.torn x.data so (Dk.kept f) ≠ x.data)) || Jp.chanceF fates (Dk.lands fates s (ws.take (k + 1)) 0) (ws.drop (k + 1)) (k + 1)) := by
  have hk := (List.getElem?_eq_some_iff.1 hx).1
  have e : ws[k] = x := (List.getElem?_eq_some_iff.1 hx).2
  rw [List.drop_eq_getElem_cons hk, Jp.chanceF, lands_take _ _ _ _ _ hx, e, hf, ha]
  have e2 : (Dk.lands fates s (ws.take k) 0).getD ((a : Int)).toNat zeroSec = so := by
    rw [show ((a : Int)).toNat = a by omega, List.getD_eq_getElem?_getD, hso]; rfl
  rw [e2]
/-- What a round has copied out. -/
def ChFr (x : Wr) (f1 f2 : UInt8) (wr : World) (p q : Value) (wx : World) : Prop :=
  ∃ b10 b11 : Nat, p = .pointer (some ⟨b10, 0, none⟩) ∧ q = .pointer (some ⟨b11, 0, none⟩) ∧ wx.rangeAt b10 0 (wrC x) ∧ wx.cell? ⟨b11, 0, none⟩ = some (.int .u8 f1.toNat) ∧ wx.cell? ⟨b11, 1, none⟩ = some (.int .u8 f2.toNat) ∧
    Below wr.heap.size wr wx ∧ wr.heap.size ≤ b10 ∧ b10 < wx.heap.size ∧ wr.heap.size ≤ b11 ∧ b11 < wx.heap.size
/-- What the torn sector lies in. -/
def ChMid (s : Sec) (wc : World) (p : Value) (wx : World) : Prop :=
  ∃ b9 : Nat, p = .pointer (some ⟨b9, 0, none⟩) ∧ Below wc.heap.size wc wx ∧ wc.heap.size ≤ b9 ∧ b9 < wx.heap.size ∧ wx.rangeAt b9 0 (secC s)
set_option maxHeartbeats 4000000 in
theorem chance_f (w : World) (v u : Value) (d : Dk) (fates : List (UInt8 × UInt8)) (hfl : fates.length ≤ 1000000) (hr : d.right = true) (h : DiskAt w v d) (hfa : FatesAt w u fates) (hL : LaidR w) :
    Calls Tryd.prog 30 #[v, u] w fun e w' => e = .returned (.bool (Jp.chance d fates)) ∧ Below w.heap.size w w' := by
  obtain ⟨A, n, c, A', n', c', rfl, hn, hn', h1, h2, h3⟩ := h
  obtain ⟨AF, nf, cf, rfl, hnf, hrf⟩ := hfa
  have H1 := Lib.hid h1
  have H2 := Lib.hid h2
  have HN := Lib.hid hn
  have HN' := Lib.hid hn'
  have HNF := Lib.hid hnf
  have HRF := Lib.hid hrf
  have HL := Lib.hid hL
  have hfl : nf ≤ 1000000 := by omega
  clear h1 h2 hn hn' h3 hnf hrf hL
  have HR := Lib.hid hr
  have HRB := Lib.hid (right_bounds HR.out)
  have hml : n' ≤ 4096 := by have := HRB.out; have := HN'.out; omega
  have hm2 : n ≤ 2048 := by have := HRB.out; have := HN.out; omega
  have hm0 : 0 < n := by have := HRB.out; have := HN.out; omega
  have HCH0 := Lib.hid (show Jp.chance d fates = if nf = 0 then false else Jp.chanceF fates (Dk.lands fates d.secs (d.loose.take 0) 0) (d.loose.drop 0) 0 by rw [Jp.chance, HNF.out]; rfl)
  clear hr
  obtain ⟨ch, hch⟩ : ∃ ch, ch = Jp.chance d fates := ⟨_, rfl⟩
  rw [← hch] at HCH0 ⊢
  clear hch
  generalize d.fuse = f at *
  generalize d.down = dn at *
  obtain ⟨w1, hw1⟩ : ∃ w1, w1 = (w.alloc (Obj.cells #[.slice A n c, .slice A' n' c', .int .i64 f, .bool dn] 25)).alloc (.cells #[] 81) := ⟨_, rfl⟩
  have HV := Lib.hid (show Var w1 w.heap.size A A' n c n' c' f dn by rw [hw1]; exact (var_new w A A' n c n' c' f dn).below ((Below.refl _ _).alloc (Nat.le_refl _) _) (by simp))
  have HB := Lib.hid (show Below w.heap.size w w1 by rw [hw1]; exact below_two _ _ _)
  have HS := Lib.hid (show w1.heap.size = w.heap.size + 2 by rw [hw1]; simp)
  have HO := Lib.hid (show w1.ownsRow (w.heap.size + 1) 81 128 (.slice (some ⟨w.heap.size + 1, 0, none⟩) 0 0) 0 [] by
    rw [hw1]
    have := own_empty (w.alloc (Obj.cells #[.slice A n c, .slice A' n' c', .int .i64 f, .bool dn] 25)) (w.heap.size + 1) (by simp) 81 128
    rw [size_alloc] at this; exact this)
  have HW := Lib.hid hw1
  have X1 := Lib.hid (secsC_one d.secs)
  clear hw1
  go_enter Tryd.func30, Tryd.ntmps30
  go_wp2_with (at_builtin; rw [← HW.out]; refine append_row rfl (.tmp 12) (.tmp 14) 22 81 rfl Tryd.underlying22 (w.heap.size + 1) (secV zeroSec) 128 128 infoSector rfl (by decide) _ _ _ rfl HO.out A n c (secsC d.secs) rfl (H1.out.kept HB.out (Nat.le_refl _)) X1.out (by omega) (by decide) (by have := HS.out; omega) ?_)
  intro v' w2 k1 k2
  have hb2 : Below (w.heap.size + 1) w1 w2 := (Below.refl _ _).grown k2 (by have := HS.out; omega) (fun k hk => by simp [Value.ownBlock] at hk; omega)
  obtain ⟨A1, c1, rfl, r1, r2⟩ := row_of_own k1
  obtain ⟨g1, rfl, hg1, hg2, hg3, hth⟩ := own_there k1 hm0
  have HCAP := Lib.hid (show n ≤ c1 ∧ c1 ≤ 9223372036854775807 from ⟨r1.2.1, r1.2.2.1⟩)
  have HR1 := Lib.hid hg3
  have HT1 := Lib.hid hth
  have HB2 := Lib.hid (show Below w.heap.size w w2 from HB.out.trans (hb2.mono (by omega)))
  have HV2 := Lib.hid (HV.out.below hb2 (by omega))
  have HG := Lib.hid (And.intro hg1 hg2)
  clear k1 k2 hb2 r1 r2 hg1 hg2 hg3 hth
  go_wp2_with fail
  obtain ⟨b4, hb4⟩ : ∃ b4, b4 = w.heap.size := ⟨_, rfl⟩
  rw [← hb4] at HV2 ⊢
  have HB4 := Lib.hid hb4
  clear hb4
  go_loopw [6] (fun i wr => ∃ k : Nat, k ≤ n' ∧ i = .int .i64 k ∧ Hid (Var wr b4 A A' n c n' c' f dn ∧ Below w.heap.size w wr ∧
      wr.rangeAt g1 0 (secsC (Dk.lands fates d.secs (d.loose.take k) 0)) ∧ wr.there g1 0 (n * 128) ∧ w2.heap.size ≤ wr.heap.size ∧ ch = if nf = 0 then false else Jp.chanceF fates (Dk.lands fates d.secs (d.loose.take k) 0) (d.loose.drop k) k)) (fun i _ => n' - (intOf i).toNat)
  case atStart => exact ⟨0, by omega, rfl, Lib.hid ⟨HV2.out, HB2.out, HR1.out, HT1.out, Nat.le_refl _, HCH0.out⟩⟩
  case round =>
    obtain ⟨k, hk, rfl, HREL0⟩ := hrel
    rename World => wr
    have HVR := Lib.hid HREL0.out.1
    have HBR := Lib.hid HREL0.out.2.1
    have HRG := Lib.hid HREL0.out.2.2.1
    have HTH := Lib.hid HREL0.out.2.2.2.1
    have HSZ := Lib.hid HREL0.out.2.2.2.2.1
    have HCH := Lib.hid HREL0.out.2.2.2.2.2
    have HROWF := Lib.hid (HRF.out.kept HBR.out (Nat.le_refl _))
    have HROW := Lib.hid (H2.out.kept HBR.out (Nat.le_refl _))
    clear HREL0
    have hgb : b4 < g1 := by have := HG.out; have := HB4.out; omega
    have hgl : g1 < wr.heap.size := by have := HG.out; have := HSZ.out; omega
    obtain ⟨y0, y1, y2, y3, y4⟩ := HVR.out
    by_cases hgo : k < n' ∧ 0 < nf
    case neg =>
      have HEND := Lib.hid (show ch = false by
        rw [HCH.out]
        by_cases q : nf = 0
        · rw [if_pos q]
        · rw [if_neg q]
          exact chance_end _ _ _ _ (by have := HN'.out; omega))
      have hnf2 : k < n' → nf = 0 := fun h => by omega
      have hend := HEND.out
      subst hend
      by_cases hkn : k < n'
      · have hnd := hnf2 hkn
        clear hnf2 hgo
        subst hnd
        go_wp2_with fail
        go_ret
        exact ⟨rfl, HBR.out⟩
      · clear hnf2 hgo
        go_wp2_with fail
        go_ret
        exact ⟨rfl, HBR.out⟩
    obtain ⟨hkn, hnf⟩ := hgo
    obtain ⟨b', o', rfl, hb', hx⟩ := row_at HROW.out (by omega)
    obtain ⟨xk, hxk⟩ : ∃ xk, d.loose[k]? = some xk := ⟨_, List.getElem?_eq_getElem (by rw [← HN'.out]; exact hkn)⟩
    have hrw := range_wrs hx hxk
    obtain ⟨bf, of, rfl, hbf, hxf⟩ := row_at HROWF.out hnf
    obtain ⟨r, hrm⟩ : ∃ r : Nat, (k : Int) % (nf : Int) = (r : Int) := ⟨k % nf, by omega⟩
    have hrl : r < nf := by have := Int.emod_lt_of_pos (k : Int) (show (0 : Int) < nf by omega); omega
    obtain ⟨fx, hfx⟩ : ∃ fx, fates[r]? = some fx := ⟨_, List.getElem?_eq_getElem (by rw [← HNF.out]; exact hrl)⟩
    have hfr := range_fates hxf hfx
    have hc0 : wr.cell? ⟨bf, of + r * 2, none⟩ = some (.int .u8 fx.1.toNat) := hfr 0 _ rfl
    have hc1 : wr.cell? ⟨bf, of + r * 2 + 1, none⟩ = some (.int .u8 fx.2.toNat) := hfr 1 _ rfl
    have hrm' : k % nf = r := by omega
    have HFX := Lib.hid hfx
    have HRM := Lib.hid hrm'
    have HXK := Lib.hid hxk
    clear hxf hfx hfr hrm' hx hxk
    obtain ⟨f1, f2⟩ := fx
    dsimp only at hc0 hc1
    have hrl' : (r : Int) < nf := by omega
    have hr0 : (0 : Int) ≤ r := by omega
    have hnd : decide ((0:Int) < (nf : Int)) = true := by simp; omega
    go_wp2_with fail
    go_cut [7, 8] from 28 to 39 (fun p q wx => ChFr xk f1 f2 wr p q wx)
    case first =>
      have HK := Lib.hid (show ∀ W, Below wr.heap.size wr W → W.cell? ⟨b4, 1, none⟩ = some (.slice (some ⟨b', o', none⟩) n' c') ∧ (wrVar ⟨b', o' + k * 129, none⟩).run Tryd.prog W = .ok (wrV xk) W ∧ W.cell? ⟨bf, of + r * 2, none⟩ = some (.int .u8 f1.toNat) ∧ W.cell? ⟨bf, of + r * 2 + 1, none⟩ = some (.int .u8 f2.toNat) from fun W hW =>
        ⟨(hW.cell (p := ⟨b4, 1, none⟩) y0).trans y2, load_wrVar (range_below hrw hW hb'), (hW.cell (p := ⟨bf, of + r * 2, none⟩) hbf).trans hc0, (hW.cell (p := ⟨bf, of + r * 2 + 1, none⟩) hbf).trans hc1⟩)
      have hs1 := store_new1 wr zeroWr xk fate0
      have hs2 := store_new2 wr zeroWr xk fate0
      have HB0 := Lib.hid (Below.refl wr.heap.size wr)
      have hrt : Int.tmod (k : Int) (nf : Int) = (r : Int) := by rw [Int.tmod_eq_emod_of_nonneg (by omega)]; exact hrm
      have hnz2 : ¬ nf = 0 := by omega
      clear hrw hc0 hc1 y1 y2 y3 y4
      go_region_held3 (fun w' => w'.cell? ⟨b4, 1, none⟩ = some (.slice (some ⟨b', o', none⟩) n' c') ∧ (wrVar ⟨b', o' + k * 129, none⟩).run Tryd.prog w' = .ok (wrV xk) w' ∧ w'.cell? ⟨bf, of + r * 2, none⟩ = some (.int .u8 f1.toNat) ∧ w'.cell? ⟨bf, of + r * 2 + 1, none⟩ = some (.int .u8 f2.toNat))
        (first | exact HK.out _ HB0.out.drew | exact HK.out _ (HB0.out.alloc (Nat.le_refl _) _).drew | exact HK.out _ ((HB0.out.alloc (Nat.le_refl _) _).alloc (by simp) _).drew) (fail)
      · go_wp2_with fail
        go_meet
        refine ⟨wr.heap.size, wr.heap.size + 1, rfl, rfl, ?_, ?_, ?_, ((HB0.out.alloc (Nat.le_refl _) _).alloc (by simp) _).drew, Nat.le_refl _, by simp [World.drew] <;> omega, by omega, by simp [World.drew] <;> omega⟩
        · exact range_below (range_new wr (wrC xk) 83) ((Below.refl _ _).alloc (Nat.le_refl _) _).drew (by simp)
        · have := cell_of_new (wr.alloc (wrO xk)) #[Value.int IntKind.u8 f1.toNat, Value.int IntKind.u8 f2.toNat] 91 0
          rw [size_alloc] at this
          exact this
        · have := cell_of_new (wr.alloc (wrO xk)) #[Value.int IntKind.u8 f1.toNat, Value.int IntKind.u8 f2.toNat] 91 1
          rw [size_alloc] at this
          exact this
      · go_wp2_with fail
        go_meet
        refine ⟨wr.heap.size + 1, wr.heap.size, rfl, rfl, ?_, ?_, ?_, ((HB0.out.alloc (Nat.le_refl _) _).alloc (by simp) _).drew, by omega, by simp [World.drew] <;> omega, Nat.le_refl _, by simp [World.drew] <;> omega⟩
        · have := range_new (wr.alloc (Obj.cells #[Value.int IntKind.u8 f1.toNat, Value.int IntKind.u8 f2.toNat] 91)) (wrC xk) 83
          rw [size_alloc] at this
          exact this
        · exact ((((Below.refl _ _).alloc (Nat.le_refl _) _).drew).cell (p := ⟨wr.heap.size, 0, none⟩) (by simp)).trans (cell_of_new wr #[Value.int IntKind.u8 f1.toNat, Value.int IntKind.u8 f2.toNat] 91 0)
        · exact ((((Below.refl _ _).alloc (Nat.le_refl _) _).drew).cell (p := ⟨wr.heap.size, 1, none⟩) (by simp)).trans (cell_of_new wr #[Value.int IntKind.u8 f1.toNat, Value.int IntKind.u8 f2.toNat] 91 1)
    case rest =>
      obtain ⟨b10, b11, rfl, rfl, hrw2, hk0, hk1, hbx, l1, l2, l3, l4⟩ := hcut
      rename World => wc
      have hdat := range_wr_data hrw2
      have hat0 := range_wr_at hrw2
      rw [Nat.zero_add] at hdat
      have HDAT := Lib.hid hdat
      have HK0 := Lib.hid hk0
      have HK1 := Lib.hid hk1
      have HBX := Lib.hid hbx
      clear hrw2 hdat hk1
      have hbnd : (0 : Int) ≤ xk.at_ ∧ xk.at_ < n := by
        have h := HR.out
        rw [Dk.right, Bool.and_eq_true, List.all_eq_true] at h
        have h2 := h.2 xk (List.mem_of_getElem? HXK.out)
        have hm := HN.out
        simp [Dk.inside] at h2
        omega
      obtain ⟨at0, hat1⟩ : ∃ a : Nat, xk.at_ = a := ⟨xk.at_.toNat, by omega⟩
      rw [hat1] at hat0 hbnd
      have HAT := Lib.hid hat1
      have HAT0 := Lib.hid hat0
      clear hat1 hat0
      have hb0 := hbnd.1
      have hb1 := hbnd.2
      have hx0 : (0 : Int) ≤ (f1.toNat : Int) := by omega
      have hx8 : f1.toNat < 256 := f1.toNat_lt
      have hlen0 : (Dk.lands fates d.secs (d.loose.take k) 0).length = n := by rw [lands_length]; exact HN.out.symm
      have hthc := there_row (there_below HTH.out HBX.out hgl) (j := at0) (by omega)
      have hrgc := range_below HRG.out HBX.out hgl
      obtain ⟨so, hso⟩ : ∃ so, (Dk.lands fates d.secs (d.loose.take k) 0)[at0]? = some so := ⟨_, List.getElem?_eq_getElem (by rw [hlen0]; omega)⟩
      have hold := range_secs hrgc hso
      have HSO := Lib.hid hso
      have HF12 := Lib.hid (show fates.getD (k % fates.length) (0, 0) = (f1, f2) by rw [← HNF.out, HRM.out, List.getD_eq_getElem?_getD, HFX.out]; rfl)
      have HEQL := Lib.hid (show Dk.lands fates d.secs (d.loose.take (k + 1)) 0 = (Dk.lands fates d.secs (d.loose.take k) 0).set at0 (Dk.torn xk.data so (Dk.kept (f1, f2))) by
        have e : xk.at_.toNat = at0 := by rw [HAT.out]; rfl
        rw [lands_take _ _ _ _ _ HXK.out, Dk.land, if_neg (by rw [← HNF.out]; omega), e, HF12.out, List.getD_eq_getElem?_getD, HSO.out]; rfl)
      have HCH2 := Lib.hid (show ch = (((says (Dk.torn xk.data so (Dk.kept (f1, f2)))).isSome && decide (Dk.torn xk.data so (Dk.kept (f1, f2)) ≠ so) && decide (Dk.torn xk.data so (Dk.kept (f1, f2)) ≠ xk.data)) || Jp.chanceF fates (Dk.lands fates d.secs (d.loose.take (k + 1)) 0) (d.loose.drop (k + 1)) (k + 1)) by
        rw [HCH.out, if_neg (by omega)]
        exact chance_cut fates d.secs d.loose k xk HXK.out at0 HAT.out so HSO.out (f1, f2) HF12.out)
      have HLEN0 := Lib.hid hlen0
      have HREL := Lib.hid (show ∀ wz : World, wr.heap.size ≤ wz.heap.size → (∀ q, q < wr.heap.size → q ≠ g1 → wz.heap[q]? = wr.heap[q]?) → wz.os = wr.os ∧ wz.tape = wr.tape ∧ wz.output = wr.output →
          wz.rangeAt g1 0 (secsC (Dk.lands fates d.secs (d.loose.take (k + 1)) 0)) → wz.there g1 0 (n * 128) → ch = Jp.chanceF fates (Dk.lands fates d.secs (d.loose.take (k + 1)) 0) (d.loose.drop (k + 1)) (k + 1) →
          Hid (Var wz b4 A (some ⟨b', o', none⟩) n c n' c' f dn ∧ Below w.heap.size w wz ∧
          wz.rangeAt g1 0 (secsC (Dk.lands fates d.secs (d.loose.take (k + 1)) 0)) ∧ wz.there g1 0 (n * 128) ∧ w2.heap.size ≤ wz.heap.size ∧ ch = if nf = 0 then false else Jp.chanceF fates (Dk.lands fates d.secs (d.loose.take (k + 1)) 0) (d.loose.drop (k + 1)) (k + 1)) from by
        intro wz hs hk hst hrg hth hc
        have hlw := HVR.out.lt
        have := HB4.out
        have := HG.out
        refine Lib.hid ⟨HVR.out.keepb hs (hk _ hlw (by omega)), ?_, hrg, hth, by have := HSZ.out; omega, by rw [if_neg (by omega)]; exact hc⟩
        exact HBR.out.trans ⟨hst.1, hst.2.1, hst.2.2, hs, fun q hq => hk q (by have := HBR.out.size; omega) (by omega)⟩)
      have HBC := Lib.hid (show ∀ q, q < wr.heap.size → wc.heap[q]? = wr.heap[q]? from fun q hq => HBX.out.block q hq)
      have HTHC := Lib.hid hthc
      have HRGC := Lib.hid hrgc
      have HOLD := Lib.hid hold
      obtain ⟨y0, y1, y2, y3, y4⟩ := HVR.out.below HBX.out HVR.out.lt
      have hcsz := HBX.out.size
      have HGC := Lib.hid (show g1 < wc.heap.size by omega)
      clear hthc hrgc hso hlen0 hbnd hold hbx
      by_cases q1 : f1.toNat % 3 = 1
      · have Q1 := Lib.hid q1
        have q : ((f1.toNat : Int) % 3 == 1) = true := by simp; omega
        clear q1
        have HK1 := Lib.hid (show Dk.kept (f1, f2) = 128 by simp [Dk.kept, Q1.out])
        have hat0 := HAT0.out
        have hdd := load_secVar HDAT.out
        have hst := store_sec HTHC.out xk.data
        rw [Nat.zero_add] at hst
        go_wp2
        have hsz : (putSec wc g1 (at0 * 128) xk.data).heap.size = wc.heap.size := size_putSec _ _ _ _
        have HR := HREL.out (putSec wc g1 (at0 * 128) xk.data) (by omega) (fun q h1 h2 => by rw [heap_putSec _ _ _ _ _ h2]; exact HBC.out q h1)
          (by
            obtain ⟨e1, e2, e3⟩ := streams_setCells g1 (secC xk.data) (at0 * 128) wc
            exact ⟨e1.trans HBX.out.os, e2.trans HBX.out.tape, e3.trans HBX.out.output⟩)
          (by
            have h := range_put_row HRGC.out (j := at0) (by rw [HLEN0.out]; omega) HTHC.out xk.data
            rw [Nat.zero_add] at h
            rw [HEQL.out, HK1.out, torn_all]
            exact h)
          (there_putSec (there_below HTH.out HBX.out hgl) _)
          (by rw [HCH2.out, HK1.out, torn_all]; simp)
        go_roundw
        case rel => exact ⟨k + 1, by omega, by go_num, HR⟩
        case measure => simp [intOf]; omega
      by_cases q2 : f1.toNat % 3 = 2
      case neg =>
        have Q1 := Lib.hid q1
        have Q2 := Lib.hid q2
        have q : ((f1.toNat : Int) % 3 == 1) = false := by simp; omega
        have q' : ((f1.toNat : Int) % 3 == 2) = false := by simp; omega
        clear q1 q2
        have HK1 := Lib.hid (show Dk.kept (f1, f2) = 0 by simp [Dk.kept, Q1.out, Q2.out])
        have hat0 := HAT0.out
        go_wp2
        have HR := HREL.out wc (by omega) (fun q h1 _ => HBC.out q h1) ⟨HBX.out.os, HBX.out.tape, HBX.out.output⟩
          (by
            rw [HEQL.out, HK1.out, torn_none, set_same _ _ _ HSO.out]
            exact HRGC.out)
          (there_below HTH.out HBX.out hgl)
          (by rw [HCH2.out, HK1.out, torn_none]; simp)
        go_roundw
        case rel => exact ⟨k + 1, by omega, by go_num, HR⟩
        case measure => simp [intOf]; omega
      have Q1 := Lib.hid q1
      have Q2 := Lib.hid q2
      have q : ((f1.toNat : Int) % 3 == 1) = false := by simp; omega
      have q' : ((f1.toNat : Int) % 3 == 2) = true := by simp; omega
      clear q1 q2
      have hf2 : ((f2.toNat : Int)) % 128 = ((f2.toNat % 128 : Nat) : Int) := by omega
      have HF2 := Lib.hid (show f2.toNat % 128 ≤ 128 by omega)
      have HKF := Lib.hid (show Dk.kept (f1, f2) = f2.toNat % 128 by simp [Dk.kept, Q2.out])
      have hf20 : (0 : Int) ≤ (f2.toNat : Int) := by omega
      have hf2l : f2.toNat < 256 := f2.toNat_lt
      have hwr : IntKind.i64.wrap (f2.toNat : Int) = (f2.toNat : Int) := IntWalk.i64_in _ (by omega)
      have hft : Int.tmod (f2.toNat : Int) 128 = ((f2.toNat % 128 : Nat) : Int) := by rw [Int.tmod_eq_emod_of_nonneg hf20]; exact hf2
      generalize hmm : f2.toNat % 128 = mm at *
      clear hmm
      have HBC0 := Lib.hid (Below.refl wc.heap.size wc)
      have HS12 := Lib.hid (show ∀ W, Below wc.heap.size wc W → W.cell? ⟨b10, 0, none⟩ = some (.int .i64 at0) ∧ (secVar ⟨b10, 1, none⟩).run Tryd.prog W = .ok (secV xk.data) W ∧ (secVar ⟨g1, at0 * 128, none⟩).run Tryd.prog W = .ok (secV so) W ∧ W.cell? ⟨b11, 1, none⟩ = some (.int .u8 f2.toNat) from fun W hW =>
        ⟨(hW.cell (p := ⟨b10, 0, none⟩) l2).trans HAT0.out, load_secVar (range_below HDAT.out hW l2), by have := load_secVar (range_below HOLD.out hW HGC.out); rwa [Nat.zero_add] at this, (hW.cell (p := ⟨b11, 1, none⟩) l4).trans HK1.out⟩)
      obtain ⟨s, hs⟩ : ∃ s, s = Dk.torn xk.data so mm := ⟨_, rfl⟩
      rw [HKF.out, ← hs] at HCH2 HEQL
      have HTN := Lib.hid (show ∀ W, Calls Tryd.prog 46 #[secV xk.data, secV so, .int .i64 mm] W fun e w' => SecOut s W e w' from fun W => by rw [hs]; exact torn_f W xk.data so mm HF2.out)
      clear hs
      go_wp2_with fail
      go_cut [9] from 53 to 64 (fun p wx => ChMid s wc p wx)
      case first =>
        refine wp_region_held_drew (S := fun w' => w'.cell? ⟨b10, 0, none⟩ = some (.int .i64 at0) ∧ (secVar ⟨b10, 1, none⟩).run Tryd.prog w' = .ok (secV xk.data) w' ∧ (secVar ⟨g1, at0 * 128, none⟩).run Tryd.prog w' = .ok (secV so) w' ∧ w'.cell? ⟨b11, 1, none⟩ = some (.int .u8 f2.toNat)) (by kernel_rfl) (HS12.out _ HBC0.out.drew) (fun hHeld => ?_)
        refine' wpAnyH_take (i := 0) (v := _) rfl (by kernel_rfl) (by kernel_rfl) (by kernel_rfl) (fun _ _ _ h => h) (Or.inl ⟨by rfl, ?hy0⟩) (by assumption) ?rest0
        case hy0 => (intro w hSw; (try dsimp only at hSw); obtain ⟨s1, s2, s3, s4⟩ := hSw; go_simp; try with_reducible rfl)
        try simp only [Act.put, List.getElem_toArray, List.getElem_cons_zero, List.getElem_cons_succ, List.setIfInBounds_toArray, List.set_cons_zero, List.set_cons_succ]
        refine' wpAnyH_take (i := 1) (v := _) rfl (by kernel_rfl) (by kernel_rfl) (by kernel_rfl) (fun _ _ _ h => h) (Or.inl ⟨by rfl, ?hy1⟩) (by assumption) ?rest1
        case hy1 => (intro w hSw; (try dsimp only at hSw); obtain ⟨s1, s2, s3, s4⟩ := hSw; go_simp; try with_reducible rfl)
        try simp only [Act.put, List.getElem_toArray, List.getElem_cons_zero, List.getElem_cons_succ, List.setIfInBounds_toArray, List.set_cons_zero, List.set_cons_succ]
        refine' wpAnyH_take (i := 2) (v := _) rfl (by kernel_rfl) (by kernel_rfl) (by kernel_rfl) (fun _ _ _ h => h) (Or.inl ⟨by rfl, ?hy2⟩) (by assumption) ?rest2
        case hy2 => (intro w hSw; (try dsimp only at hSw); obtain ⟨s1, s2, s3, s4⟩ := hSw; go_simp; try with_reducible rfl)
        try simp only [Act.put, List.getElem_toArray, List.getElem_cons_zero, List.getElem_cons_succ, List.setIfInBounds_toArray, List.set_cons_zero, List.set_cons_succ]
        refine' wpAnyH_take (i := 3) (v := _) rfl (by kernel_rfl) (by kernel_rfl) (by kernel_rfl) (fun _ _ _ h => h) (Or.inl ⟨by rfl, ?hy3⟩) (by assumption) ?rest3
        case hy3 => (intro w hSw; (try dsimp only at hSw); obtain ⟨s1, s2, s3, s4⟩ := hSw; go_simp; try with_reducible rfl)
        try simp only [Act.put, List.getElem_toArray, List.getElem_cons_zero, List.getElem_cons_succ, List.setIfInBounds_toArray, List.set_cons_zero, List.set_cons_succ]
        refine' wpAnyH_take (i := 4) (v := _) rfl (by kernel_rfl) (by kernel_rfl) (by kernel_rfl) (fun _ _ _ h => h) (Or.inl ⟨by rfl, ?hy4⟩) (by assumption) ?rest4
        case hy4 => (intro w hSw; (try dsimp only at hSw); obtain ⟨s1, s2, s3, s4⟩ := hSw; go_simp; try with_reducible rfl)
        try simp only [Act.put, List.getElem_toArray, List.getElem_cons_zero, List.getElem_cons_succ, List.setIfInBounds_toArray, List.set_cons_zero, List.set_cons_succ]
        refine' wpAnyH_take (i := 5) (v := _) rfl (by kernel_rfl) (by kernel_rfl) (by kernel_rfl) (fun _ _ _ h => h) (Or.inl ⟨by rfl, ?hy5⟩) (by assumption) ?rest5
        case hy5 => (intro w hSw; (try dsimp only at hSw); obtain ⟨s1, s2, s3, s4⟩ := hSw; go_simp; try with_reducible rfl)
        try simp only [Act.put, List.getElem_toArray, List.getElem_cons_zero, List.getElem_cons_succ, List.setIfInBounds_toArray, List.set_cons_zero, List.set_cons_succ]
        refine' wpAnyH_take (i := 6) (v := _) rfl (by kernel_rfl) (by kernel_rfl) (by kernel_rfl) (fun _ _ _ h => h) (Or.inl ⟨by rfl, ?hy6⟩) (by assumption) ?rest6
        case hy6 => (intro w hSw; (try dsimp only at hSw); obtain ⟨s1, s2, s3, s4⟩ := hSw; go_simp; try with_reducible rfl)
        try simp only [Act.put, List.getElem_toArray, List.getElem_cons_zero, List.getElem_cons_succ, List.setIfInBounds_toArray, List.set_cons_zero, List.set_cons_succ]
        refine' wpAnyH_take (i := 7) (v := _) rfl (by kernel_rfl) (by kernel_rfl) (by kernel_rfl) (fun _ _ _ h => h) (Or.inl ⟨by rfl, ?hy7⟩) (by assumption) ?rest7
        case hy7 => (intro w hSw; (try dsimp only at hSw); obtain ⟨s1, s2, s3, s4⟩ := hSw; go_simp; try with_reducible rfl)
        try simp only [Act.put, List.getElem_toArray, List.getElem_cons_zero, List.getElem_cons_succ, List.setIfInBounds_toArray, List.set_cons_zero, List.set_cons_succ]
        refine' wpAnyH_take (i := 8) (v := _) rfl (by kernel_rfl) (by kernel_rfl) (by kernel_rfl) (fun _ _ _ h => h) (Or.inl ⟨by rfl, ?hy8⟩) (by assumption) ?rest8
        case hy8 => (intro w hSw; (try dsimp only at hSw); obtain ⟨s1, s2, s3, s4⟩ := hSw; go_simp; try with_reducible rfl)
        try simp only [Act.put, List.getElem_toArray, List.getElem_cons_zero, List.getElem_cons_succ, List.setIfInBounds_toArray, List.set_cons_zero, List.set_cons_succ]
        refine' wpAnyH_take (i := 9) (v := _) rfl (by kernel_rfl) (by kernel_rfl) (by kernel_rfl) (fun _ _ _ h => h) (Or.inl ⟨by rfl, ?hy9⟩) (by assumption) ?rest9
        case hy9 => (intro w hSw; (try dsimp only at hSw); obtain ⟨s1, s2, s3, s4⟩ := hSw; go_simp; try with_reducible rfl)
        try simp only [Act.put, List.getElem_toArray, List.getElem_cons_zero, List.getElem_cons_succ, List.setIfInBounds_toArray, List.set_cons_zero, List.set_cons_succ]
        refine' wpAnyH_take (i := 10) (v := _) rfl (by kernel_rfl) (by kernel_rfl) (by kernel_rfl) (fun _ _ _ h => h) (Or.inl ⟨by rfl, ?hy10⟩) (by assumption) ?rest10
        case hy10 => (intro w hSw; (try dsimp only at hSw); obtain ⟨s1, s2, s3, s4⟩ := hSw; go_simp; try with_reducible rfl)
        try simp only [Act.put, List.getElem_toArray, List.getElem_cons_zero, List.getElem_cons_succ, List.setIfInBounds_toArray, List.set_cons_zero, List.set_cons_succ]
        refine wpAnyH_ready (rs := [11, 12]) (by kernel_rfl) (by simp) (AllReadyH.cons rfl (fun K hK => ?_) (AllReadyH.cons rfl (fun K hK => ?_) AllReadyH.nil))
        · go_simp
          refine (HTN.out _).mono ?_
          rintro e6 w6 ⟨rfl, hb6⟩
          have HB6 := Lib.hid (HBC0.out.drew.trans hb6)
          have HBA := Lib.hid (show ∀ o, Below wc.heap.size wc (w6.alloc o) from fun o => HB6.out.alloc HB6.out.size o)
          clear hb6
          refine hK.out _ _ (HS12.out _ HB6.out) (fun hHeld => ?_)
          clear hK K
          try simp only [Act.put, List.getElem_toArray, List.getElem_cons_zero, List.getElem_cons_succ, List.setIfInBounds_toArray, List.set_cons_zero, List.set_cons_succ]
          refine wpAnyH_ready (rs := [12]) (by kernel_rfl) (by simp) (AllReadyH.cons rfl (fun K hK => ?_) AllReadyH.nil)
          go_simp
          refine hK.out _ _ (HS12.out _ (HBA.out _)) (fun hHeld => ?_)
          clear hK K
          try simp only [Act.put, List.getElem_toArray, List.getElem_cons_zero, List.getElem_cons_succ, List.setIfInBounds_toArray, List.set_cons_zero, List.set_cons_succ]
          refine wpAnyH_ready (rs := [13]) (by kernel_rfl) (by simp) (AllReadyH.cons rfl (fun K hK => ?_) AllReadyH.nil)
          go_simp
          refine hK.out _ _ (HS12.out _ (HBA.out _)) (fun hHeld => ?_)
          clear hK K
          try simp only [Act.put, List.getElem_toArray, List.getElem_cons_zero, List.getElem_cons_succ, List.setIfInBounds_toArray, List.set_cons_zero, List.set_cons_succ]
          refine wpAnyH_done (by kernel_rfl) ?_ _
          clear hHeld
          go_wp2_with fail
          go_meet
          exact ⟨w6.heap.size, rfl, HBA.out _, HB6.out.size, by simp, range_new w6 (secC s) 81⟩
        · go_simp
          have HBA := Lib.hid (HBC0.out.drew.alloc (Nat.le_refl _) (secO zeroSec))
          refine hK.out _ _ (HS12.out _ HBA.out) (fun hHeld => ?_)
          clear hK K
          try simp only [Act.put, List.getElem_toArray, List.getElem_cons_zero, List.getElem_cons_succ, List.setIfInBounds_toArray, List.set_cons_zero, List.set_cons_succ]
          refine wpAnyH_ready (rs := [11]) (by kernel_rfl) (by simp) (AllReadyH.cons rfl (fun K hK => ?_) AllReadyH.nil)
          go_simp
          refine (HTN.out _).mono ?_
          rintro e6 w6 ⟨rfl, hb6⟩
          have HB6 := Lib.hid (below_chain HBA.out hb6)
          have HT6 := Lib.hid (show w6.there wc.heap.size 0 128 from there_below (by have := there_new wc.drew (secC zeroSec) 81; rwa [secC_length] at this) hb6 (by simp))
          have hsz6 : wc.heap.size < w6.heap.size := by have := hb6.size; simp at this; omega
          have hst6 := store_sec HT6.out s
          clear hb6
          refine hK.out _ _ (HS12.out _ HB6.out) (fun hHeld => ?_)
          clear hK K
          try simp only [Act.put, List.getElem_toArray, List.getElem_cons_zero, List.getElem_cons_succ, List.setIfInBounds_toArray, List.set_cons_zero, List.set_cons_succ]
          refine wpAnyH_ready (rs := [13]) (by kernel_rfl) (by simp) (AllReadyH.cons rfl (fun K hK => ?_) AllReadyH.nil)
          go_simp
          refine hK.out _ _ (HS12.out _ (below_putSec HB6.out (Nat.le_refl _) _ _)) (fun hHeld => ?_)
          clear hK K
          try simp only [Act.put, List.getElem_toArray, List.getElem_cons_zero, List.getElem_cons_succ, List.setIfInBounds_toArray, List.set_cons_zero, List.set_cons_succ]
          refine wpAnyH_done (by kernel_rfl) ?_ _
          clear hHeld
          go_wp2_with fail
          go_meet
          exact ⟨wc.heap.size, rfl, below_putSec HB6.out (Nat.le_refl _) _ _, Nat.le_refl _, by rw [size_putSec]; exact hsz6, World.rangeAt_setCells_same _ _ 0 _ (by rw [secC_length]; exact HT6.out)⟩
      case rest =>
        obtain ⟨b9, rfl, hb9, hl9, hlt9, hr9⟩ := hcut
        rename World => w9
        have HB9 := Lib.hid hb9
        have HR9 := Lib.hid hr9
        have hld := load_secVar hr9
        clear hb9 hr9
        go_wp2_with fail
        refine (rsays_f w9 s (HL.out.below (HBR.out.trans ((HBX.out.trans (HB9.out.mono hcsz)).mono HBR.out.size)) HL.out.size)).mono ?_
        rintro e w10 ⟨pv, p, rfl, hp, hpn, hfp, hp100, hb10⟩
        obtain ⟨A9, n9, c9, rfl, hn9, hrow9⟩ := hp
        clear hpn hfp hp100 hn9 hrow9 hld
        have HB10 := Lib.hid (below_chain HB9.out hb10)
        have HR10 := Lib.hid (range_below HR9.out hb10 hlt9)
        have hs910 := hb10.size
        clear hb10
        go_wp2_with fail
        obtain ⟨w11, hw11⟩ : ∃ w11, w11 = w10.alloc (.cells #[.int .i64 p.gen, .int .i64 p.index, .int .u8 p.marks.toNat, .slice A9 n9 c9] 94) := ⟨_, rfl⟩
        rw [← hw11]
        have hba := (Below.refl w10.heap.size w10).alloc (Nat.le_refl _) (.cells #[.int .i64 p.gen, .int .i64 p.index, .int .u8 p.marks.toNat, .slice A9 n9 c9] 94)
        rw [← hw11] at hba
        have HB11 := Lib.hid (below_chain HB10.out hba)
        have HR11 := Lib.hid (range_below HR10.out hba (by omega))
        have hs1011 := hba.size
        clear hw11 hba
        have HT11 := Lib.hid (there_below HTHC.out HB11.out HGC.out)
        have HQ := Lib.hid (show ∀ m, (secVar ⟨b9, 0, none⟩).run Tryd.prog (w11.drewN m) = .ok (secV s) (w11.drewN m) ∧ (secVar ⟨b10, 1, none⟩).run Tryd.prog (w11.drewN m) = .ok (secV xk.data) (w11.drewN m) ∧ (secVar ⟨g1, at0 * 128, none⟩).run Tryd.prog (w11.drewN m) = .ok (secV so) (w11.drewN m) from fun m =>
          ⟨load_secVar (range_drewN HR11.out m), load_secVar (range_drewN (range_below HDAT.out HB11.out l2) m), by have := load_secVar (range_drewN (range_below HOLD.out HB11.out HGC.out) m); rwa [Nat.zero_add] at this⟩)
        have hat := (HB11.out.cell (p := ⟨b10, 0, none⟩) l2).trans HAT0.out
        have HGS := Lib.hid (show (says s).isSome = goodS s by unfold says; cases goodS s <;> rfl)
        have HFIN := Lib.hid (show ∀ nq, ch = Jp.chanceF fates (Dk.lands fates d.secs (d.loose.take (k + 1)) 0) (d.loose.drop (k + 1)) (k + 1) → Hid (Var (putSec (w11.drewN nq) g1 (at0 * 128) s) b4 A (some ⟨b', o', none⟩) n c n' c' f dn ∧ Below w.heap.size w (putSec (w11.drewN nq) g1 (at0 * 128) s) ∧
          (putSec (w11.drewN nq) g1 (at0 * 128) s).rangeAt g1 0 (secsC (Dk.lands fates d.secs (d.loose.take (k + 1)) 0)) ∧ (putSec (w11.drewN nq) g1 (at0 * 128) s).there g1 0 (n * 128) ∧ w2.heap.size ≤ (putSec (w11.drewN nq) g1 (at0 * 128) s).heap.size ∧ ch = if nf = 0 then false else Jp.chanceF fates (Dk.lands fates d.secs (d.loose.take (k + 1)) 0) (d.loose.drop (k + 1)) (k + 1)) from fun nq hc => by
          have hB := below_drewN HB11.out nq
          have hsz : (putSec (w11.drewN nq) g1 (at0 * 128) s).heap.size = w11.heap.size := size_putSec _ _ _ _
          have hs11 := HB11.out.size
          refine HREL.out (putSec (w11.drewN nq) g1 (at0 * 128) s) (by omega) (fun q h1 h2 => by rw [heap_putSec _ _ _ _ _ h2, hB.block q (by omega)]; exact HBC.out q h1) ?_ ?_ (there_putSec (there_below (there_below HTH.out HBX.out hgl) hB HGC.out) _) hc
          · obtain ⟨e1, e2, e3⟩ := streams_setCells g1 (secC s) (at0 * 128) (w11.drewN nq)
            exact ⟨e1.trans (hB.os.trans HBX.out.os), e2.trans (hB.tape.trans HBX.out.tape), e3.trans (hB.output.trans HBX.out.output)⟩
          · have h := range_put_row (range_below HRGC.out hB HGC.out) (j := at0) (by rw [HLEN0.out]; omega) (there_below HTHC.out hB HGC.out) s
            rw [Nat.zero_add] at h
            rw [HEQL.out]
            exact h)
        have HWEND := Lib.hid (show ∀ nq, Below w.heap.size w (w11.drewN nq) from fun nq => below_drewN (HBR.out.trans ((HBX.out.trans (HB11.out.mono hcsz)).mono HBR.out.size)) nq)
        have hstore : ∀ nq, (secSet ⟨g1, at0 * 128, none⟩ (secV s)).run Tryd.prog (w11.drewN nq) = .ok () (putSec (w11.drewN nq) g1 (at0 * 128) s) := fun nq => by
          have := store_sec (there_below HTHC.out (below_drewN HB11.out nq) HGC.out) s
          rwa [Nat.zero_add] at this
        have hq1 := fun m => (HQ.out m).1
        have hq2 := fun m => (HQ.out m).2.1
        have hq3 := fun m => (HQ.out m).2.2
        clear y1 y2 y3 y4
        cases hg : goodS s
        case false =>
          have HC := Lib.hid (fun nq => HFIN.out nq (by rw [HCH2.out, HGS.out, hg]; simp))
          clear hg
          go_quiet (fail)
          go_wp2_with fail
          go_roundw
          case rel => exact ⟨k + 1, by omega, by go_num, HC.out _⟩
          case measure => simp [intOf]; omega
        case true =>
          by_cases e1 : s = so
          case pos =>
            have HC := Lib.hid (fun nq => HFIN.out nq (by rw [HCH2.out]; simp [e1]))
            have hne1 : ∀ W, (secNeq (secV s) (secV so)).run Tryd.prog W = .ok (.bool false) W := fun W => by have := neq_secs s so W; rwa [decide_eq_true e1] at this
            clear hg e1
            go_quiet (fail)
            go_wp2_with fail
            go_roundw
            case rel => exact ⟨k + 1, by omega, by go_num, HC.out _⟩
            case measure => simp [intOf]; omega
          have hne1 : ∀ W, (secNeq (secV s) (secV so)).run Tryd.prog W = .ok (.bool true) W := fun W => by have := neq_secs s so W; rwa [decide_eq_false e1] at this
          by_cases e2 : s = xk.data
          case pos =>
            have HC := Lib.hid (fun nq => HFIN.out nq (by rw [HCH2.out]; simp [e2]))
            have hne2 : ∀ W, (secNeq (secV s) (secV xk.data)).run Tryd.prog W = .ok (.bool false) W := fun W => by have := neq_secs s xk.data W; rwa [decide_eq_true e2] at this
            clear hg e1 e2
            go_quiet (fail)
            go_wp2_with fail
            go_roundw
            case rel => exact ⟨k + 1, by omega, by go_num, HC.out _⟩
            case measure => simp [intOf]; omega
          have hne2 : ∀ W, (secNeq (secV s) (secV xk.data)).run Tryd.prog W = .ok (.bool true) W := fun W => by have := neq_secs s xk.data W; rwa [decide_eq_false e2] at this
          have HTRUE := Lib.hid (show ch = true by rw [HCH2.out, HGS.out, hg]; simp [e1, e2])
          have htrue := HTRUE.out
          subst htrue
          clear hg e1 e2
          go_quiet (fail)
          go_wp2_with fail
          go_ret
          exact ⟨rfl, HWEND.out _⟩
end Go.Proofs.YtbhjigejpdbeiaaDoor
end
