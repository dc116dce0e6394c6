import Derived.Test.YtbhjigejpdbeiaaDoorRv
import Derived.Test.YtbhjigejpdbeiaaDoorTp
import Derived.Test.YtbhjigejpdbeiaaDoorKDsk
set_option linter.unusedSimpArgs false
set_option linter.unusedVariables false

section
/-
  Size, of both sides; a side's variable; its size, and the part that stands at an index.
-/
namespace Go.Proofs.YtbhjigejpdbeiaaDoor
open Go.RowKit Go.Shelf
set_option linter.unusedVariables false
set_option maxRecDepth 8000

theorem size_f (w : World) (n : Int) (h0 : 0 ≤ n) (h1 : n ≤ 1000000000) : Calls Tryd.prog 16 #[.int .i64 n] w fun e w' => e = .returned (.int .i64 (jsize n)) ∧ w' = w := by
  have hd0 : decide (n < 0) = false := by simp; omega
  go_enter Tryd.func16, Tryd.ntmps16
  by_cases h : 4096 < n
  · have hd : decide (4096 < n) = true := by simp; omega
    have HJ := Lib.hid (show jsize n = 0 by rw [jsize, if_pos (by omega)])
    go_wp2
    go_ret
    exact ⟨by rw [HJ.out]; rfl, rfl⟩
  · have hd : decide (4096 < n) = false := by simp; omega
    have HJ := Lib.hid (show jsize n = max 1 ((n + 99) / 100) by rw [jsize, if_neg (by omega)])
    have hq : (n + 99).tdiv 100 = (n + 99) / 100 := Int.tdiv_eq_ediv_of_nonneg (by omega)
    have s1 : IntKind.i64.wrap (n + 100) = n + 100 := IntWalk.i64_in _ (by omega)
    have s2 : IntKind.i64.wrap (n + 100 - 1) = n + 99 := by rw [IntWalk.i64_in _ (by omega)]; omega
    have s3 : IntKind.i64.wrap (n + 99) = n + 99 := IntWalk.i64_in _ (by omega)
    go_wp2_with fail
    all_goals (
      go_ret
      refine ⟨?_, rfl⟩
      rw [HJ.out]
      show Ending.returned (Value.int .i64 _) = _
      congr 2
      omega)
theorem rsize_f (w : World) (n : Int) (h0 : 0 ≤ n) (h1 : n ≤ 1000000000) : Calls Tryd.prog 17 #[.int .i64 n] w fun e w' => e = .returned (.int .i64 (jsize n)) ∧ w' = w := by
  have hd0 : decide (n < 0) = false := by simp; omega
  go_enter Tryd.func17, Tryd.ntmps17
  by_cases h : 4096 < n
  · have hd : decide (4096 < n) = true := by simp; omega
    have HJ := Lib.hid (show jsize n = 0 by rw [jsize, if_pos (by omega)])
    go_wp2
    go_ret
    exact ⟨by rw [HJ.out]; rfl, rfl⟩
  · have hd : decide (4096 < n) = false := by simp; omega
    have HJ := Lib.hid (show jsize n = max 1 ((n + 99) / 100) by rw [jsize, if_neg (by omega)])
    have hq : (n + 99).tdiv 100 = (n + 99) / 100 := Int.tdiv_eq_ediv_of_nonneg (by omega)
    have s1 : IntKind.i64.wrap (n + 100) = n + 100 := IntWalk.i64_in _ (by omega)
    have s2 : IntKind.i64.wrap (n + 100 - 1) = n + 99 := by rw [IntWalk.i64_in _ (by omega)]; omega
    have s3 : IntKind.i64.wrap (n + 99) = n + 99 := IntWalk.i64_in _ (by omega)
    go_wp2_with fail
    all_goals (
      go_ret
      refine ⟨?_, rfl⟩
      rw [HJ.out]
      show Ending.returned (Value.int .i64 _) = _
      congr 2
      omega)

/-- A side's variable: a disk's four cells, and the half. -/
structure SideAt (w : World) (b : Nat) (C : Array Value) (d : Dk) (h : Nat) : Prop where
  d4 : D4 C
  range : w.rangeAt b 0 (C.toList ++ [.int .i64 (h : Int)])
  there : w.there b 0 5
  disk : DiskAt w (.agg C) d
  clear : Clear b (.agg C)
theorem SideAt.lt {w : World} {b : Nat} {C : Array Value} {d : Dk} {h : Nat} (s : SideAt w b C d h) : b < w.heap.size := range_lt s.range (by simp)
theorem SideAt.below {w w' : World} {b : Nat} {C : Array Value} {d : Dk} {h : Nat} (s : SideAt w b C d h) (hb : Below w.heap.size w w') : SideAt w' b C d h :=
  ⟨s.d4, range_below s.range hb s.lt, there_below s.there hb s.lt, s.disk.kept hb (Nat.le_refl _), s.clear⟩
theorem SideAt.load {w : World} {b : Nat} {C : Array Value} {d : Dk} {h : Nat} (s : SideAt w b C d h) : (diskVar ⟨b, 0, none⟩).run Tryd.prog w = .ok (.agg C) w := by
  have h1 : w.rangeAt b 0 C.toList := fun j v hv => s.range j v (by rw [List.getElem?_append_left (List.getElem?_eq_some_iff.1 hv).1]; exact hv)
  exact DVar.load ⟨s.lt, s.d4.size, h1⟩
theorem SideAt.half {w : World} {b : Nat} {C : Array Value} {d : Dk} {h : Nat} (s : SideAt w b C d h) : w.cell? ⟨b, 4, none⟩ = some (.int .i64 (h : Int)) := by
  have := s.range 4 (.int .i64 (h : Int)) (by rw [List.getElem?_append_right (by rw [Array.length_toList, s.d4.size]; omega), Array.length_toList, s.d4.size]; rfl)
  rwa [Nat.zero_add] at this
theorem SideAt.secs {w : World} {b : Nat} {C : Array Value} {d : Dk} {h : Nat} (s : SideAt w b C d h) : ∃ A c, w.cell? ⟨b, 0, none⟩ = some (.slice A d.secs.length c) := by
  obtain ⟨A, n, c, A', n', c', e, rfl, _⟩ := s.disk
  refine ⟨A, c, ?_⟩
  have := s.range 0 (.slice A d.secs.length c) (by injection e with e; subst e; rfl)
  rwa [Nat.zero_add] at this
theorem half_div (n : Nat) : (n : Int).tdiv 2 = ((n / 2 : Nat) : Int) := by rw [Int.tdiv_eq_ediv_of_nonneg (by omega)]; rfl
theorem sideSize_f (w : World) (b : Nat) (C : Array Value) (d : Dk) (h : Nat) (s : SideAt w b C d h) (hn : d.secs.length ≤ 1000000) : Calls Tryd.prog 33 #[.pointer (some ⟨b, 0, none⟩)] w fun e w' => e = .returned (.int .i64 (d.half : Int)) ∧ w' = w := by
  obtain ⟨A, c, hc⟩ := s.secs
  have hd : (d.secs.length : Int) / 2 = (d.half : Int) := rfl
  generalize d.half = m at *
  generalize d.secs.length = n at *
  go_enter Tryd.func33, Tryd.ntmps33
  go_wp2
  go_ret
  exact ⟨rfl, rfl⟩

/-- The part at an index of a half, and whether it stands there. -/
def PartPost (d : Dk) (h i : Nat) (w : World) (e : Ending) (w' : World) : Prop :=
  ∃ v p ok, e = .returned (.tuple #[v, .bool ok]) ∧ PartAt w' v p ∧ p.data.length ≤ 100 ∧ d.at_ h i = (if ok then some p else none) ∧ Below w.heap.size w w'
theorem at_ge {d : Dk} {h i : Nat} (hi : d.half ≤ i) : d.at_ h i = none := by rw [Dk.at_, if_neg (by omega)]
theorem at_is {d : Dk} {h i : Nat} (hi : i < d.half) {s : Sec} (hs : d.look ((h * d.half + i : Nat) : Int) = s) : d.at_ h i = if goodS s && decide ((rawP s).index = i) then some (rawP s) else none := by
  rw [Dk.at_, if_pos hi, hs, says]
  cases goodS s with
  | false => rfl
  | true =>
    by_cases q : (rawP s).index = i
    · simp [q]
    · simp [q]
theorem there_part4 (w : World) : (w.alloc (.cells #[.int .i64 0, .int .i64 0, .int .u8 0, .slice none 0 0] 100)).there w.heap.size 0 4 := there_new w (partC 0 0 0 none 0 0) 100
theorem there_sec (w : World) (s : Sec) : (w.alloc (.cells (secC zeroSec).toArray 81)).there w.heap.size 0 (secC s).length := by
  have := there_new w (secC zeroSec) 81
  rwa [secC_length] at this ⊢
set_option maxHeartbeats 4000000 in
theorem part_f (w : World) (b : Nat) (C : Array Value) (d : Dk) (h i : Nat) (s : SideAt w b C d h) (hh : h ≤ 1) (hr : d.right = true) (hdn : d.down = false) (hi : i ≤ 1000000) (hL : Laid w) :
    Calls Tryd.prog 63 #[.pointer (some ⟨b, 0, none⟩), .int .i64 (i : Int)] w fun e w' => PartPost d h i w e w' := by
  have hbd := Jp.bounds_of_right hr
  have HS := Lib.hid s
  have HL := Lib.hid hL
  obtain ⟨w1, hw1⟩ : ∃ w1, w1 = w.alloc (.cells #[.int .i64 0, .int .i64 0, .int .u8 0, .slice none 0 0] 100) := ⟨_, rfl⟩
  have HB1 := Lib.hid (show Below w.heap.size w w1 by rw [hw1]; exact (Below.refl _ _).alloc (Nat.le_refl _) _)
  have HS1 := Lib.hid (HS.out.below HB1.out)
  have HSZ := Lib.hid (sideSize_f w1 b C d h HS1.out (by omega))
  have HT1 := Lib.hid (show w1.there w.heap.size 0 4 by rw [hw1]; exact there_part4 w)
  have HW1 := Lib.hid (show w.heap.size < w1.heap.size by rw [hw1]; simp)
  have HW := Lib.hid hw1
  clear hw1 s hL
  go_enter Tryd.func63, Tryd.ntmps63
  go_wp2_with fail
  rw [← HW.out]
  clear HW
  refine HSZ.out.mono ?_
  rintro e w2 ⟨rfl, rfl⟩
  by_cases hlt : i < d.half
  case neg =>
    have hd : decide ((d.half : Int) ≤ (i : Int)) = true := by simp; omega
    have HA := Lib.hid (at_ge (d := d) (h := h) (i := i) (by omega))
    obtain ⟨⟨t0, e0⟩, ⟨t1, e1⟩, ⟨t2, e2⟩, ⟨t3, e3⟩, z0, z1, z2, z3⟩ := there4 HT1.out
    go_wp2_with fail
    refine bodyPost_ret (ret_cell_tmp rfl rfl (load_part (World.rangeAt_setCells_same w2 w.heap.size 0 (partC 0 0 0 none 0 0) HT1.out))) rfl ?_
    exact ⟨_, ⟨0, 0, 0, []⟩, false, rfl, part_zero _, by decide, HA.out, below_setCells w.heap.size (Nat.le_refl _) (partC 0 0 0 none 0 0) 0 w2 HB1.out⟩
  have hd : decide (d.half ≤ i) = false := by simp; omega
  have hl0 := HS1.out.load
  have hl1 := HS1.out.half
  have hm : h * d.half ≤ 1024 := by
    have : d.half = d.secs.length / 2 := rfl
    rcases Nat.le_one_iff_eq_zero_or_eq_one.1 hh with rfl | rfl <;> omega
  have hmul : ((h : Int) * (d.half : Int)) = ((h * d.half : Nat) : Int) := by simp
  have hwi : d.within ((h * d.half + i : Nat) : Int) = true := by
    have : d.half = d.secs.length / 2 := rfl
    rw [Dk.within, Dk.inside]
    rcases Nat.le_one_iff_eq_zero_or_eq_one.1 hh with rfl | rfl <;> simp <;> omega
  have HRD := Lib.hid (show d.read ((h * d.half + i : Nat) : Int) = (d.look ((h * d.half + i : Nat) : Int), 0) by rw [Dk.read, hr, hwi, hdn]; rfl)
  generalize hq : h * d.half = q at *
  have HQ := Lib.hid hq
  clear hq
  have hs1 : IntKind.i64.wrap ((q : Int) + (i : Int)) = (q : Int) + (i : Int) := IntWalk.i64_in _ (by omega)
  have hs0 : IntKind.i64.wrap (q : Int) = (q : Int) := IntWalk.i64_in _ (by omega)
  go_wp2_with fail
  clear hl0 hl1
  obtain ⟨sc, hsc⟩ : ∃ sc, sc = d.look ((q + i : Nat) : Int) := ⟨_, rfl⟩
  rw [← hsc] at HRD
  have HSC := Lib.hid hsc
  clear hsc
  have h1c := secC_one sc
  have hu := Tryd.underlying81
  have hinf : (Tryd.prog.info? 81).map (·.size) = some (secC sc).length := by rw [sizeSector, secC_length]
  have HK := Lib.hid (show ∀ W, Below w2.heap.size w2 W → (diskVar ⟨b, 0, none⟩).run Tryd.prog W = .ok (.agg C) W ∧ W.cell? ⟨b, 4, none⟩ = some (.int .i64 (h : Int)) from fun W hW => ⟨(HS1.out.below hW).load, (HS1.out.below hW).half⟩)
  have HSZ := Lib.hid (show ∀ W, Below w2.heap.size w2 W → Calls Tryd.prog 33 #[.pointer (some ⟨b, 0, none⟩)] W fun e w' => e = .returned (.int .i64 (d.half : Int)) ∧ w' = W from fun W hW => sideSize_f W b C d h (HS1.out.below hW) (by omega))
  have HREAD := Lib.hid (show ∀ W, Below w2.heap.size w2 W → Calls Tryd.prog 78 #[.agg C, .int .i64 ((q : Int) + (i : Int))] W fun e w' => e = .returned (.tuple #[secV sc, .int .i64 0]) ∧ Below w2.heap.size w2 w' ∧ Below W.heap.size W w' from fun W hW =>
    (read_f W (.agg C) d _ (HS1.out.below hW).disk).mono fun _ _ ⟨h1, h2⟩ => ⟨by rw [h1, ← Int.natCast_add, HRD.out], below_chain hW h2, h2⟩)
  have hb0 : Below w2.heap.size w2 w2.drew := (Below.refl _ _).drew
  have HKS := Lib.hid (show ∀ W b' cs, Below w2.heap.size w2 W → w2.heap.size ≤ b' → (diskVar ⟨b, 0, none⟩).run Tryd.prog (W.setCells b' 0 cs) = .ok (.agg C) (W.setCells b' 0 cs) ∧ (W.setCells b' 0 cs).cell? ⟨b, 4, none⟩ = some (.int .i64 (h : Int)) from fun W b' cs hW hb => HK.out _ (below_setCells b' hb cs 0 W hW))
  go_cut [6, 7] from 15 to 31 (fun s6 s7 wx => ∃ b6, s6 = .pointer (some ⟨b6, 0, none⟩) ∧ s7 = .int .i64 0 ∧ Below w2.heap.size w2 wx ∧ wx.rangeAt b6 0 (secC sc))
  case first =>
    go_region_held3 (fun W => (diskVar ⟨b, 0, none⟩).run Tryd.prog W = .ok (.agg C) W ∧ W.cell? ⟨b, 4, none⟩ = some (.int .i64 (h : Int)))
      (first | exact HK.out _ (by assumption) | exact HK.out _ (below_new (by assumption) _) | ((refine HKS.out _ _ _ ?_ ?_) <;> first | assumption | exact below_new (by assumption) _ | exact Nat.le_refl _ | exact hbc.size))
      (first
        | (go_at_call 33
           (with_reducible refine (HSZ.out _ ?_).mono ?_)
           · first | assumption | exact below_new (by assumption) _
           rintro e wa ⟨rfl, rfl⟩)
        | (go_at_call 78
           (with_reducible refine (HREAD.out _ ?_).mono ?_)
           · first | assumption | exact below_new (by assumption) _
           rintro e wc ⟨rfl, hbc, hxc⟩
           have hth1 := there_sec wc sc
           try have hth2 := there_below (there_sec w2.drew sc) hxc (by simp)))
    all_goals go_wp2_with fail
    all_goals go_meet
    · exact ⟨_, rfl, rfl, below_setCells _ hbc.size _ _ _ (below_new hbc _), World.rangeAt_setCells_same _ _ _ _ hth1⟩
    all_goals exact ⟨_, rfl, rfl, below_setCells _ (Nat.le_refl _) _ _ _ hbc, World.rangeAt_setCells_same _ _ _ _ hth2⟩
  case rest =>
    rename World => wx
    obtain ⟨b6, rfl, rfl, hbx, hr6⟩ := hcut
    have HBX := Lib.hid hbx
    have HLX := Lib.hid (HL.out.below (below_chain HB1.out hbx) HL.out.size)
    have hl6 := load_secVar hr6
    clear hbx hr6 h1c hu hinf hm hmul hwi hs1 hs0
    go_wp2_with fail
    refine (says_f wx sc HLX.out).mono ?_
    rintro e wy ⟨v, p, rfl, hp, hpn, hfp, hp100, hby⟩
    have HPN := Lib.hid hpn
    clear hpn
    have HFP := Lib.hid hfp
    clear hfp
    have HP := Lib.hid hp
    have HP1 := Lib.hid hp100
    have HBY := Lib.hid (below_chain HBX.out hby)
    obtain ⟨A, n, c, rfl, hn, hrow⟩ := hp
    clear hl6 hn hrow hp100 hby
    go_wp2_with fail
    obtain ⟨w5, hw5⟩ : ∃ w5, w5 = wy.alloc (.cells #[.int .i64 p.gen, .int .i64 p.index, .int .u8 p.marks.toNat, .slice A n c] 100) := ⟨_, rfl⟩
    obtain ⟨b8, hb8⟩ : ∃ b8, b8 = wy.heap.size := ⟨_, rfl⟩
    rw [← hw5, ← hb8]
    have HB5 := Lib.hid (show Below wy.heap.size wy w5 by rw [hw5]; exact (Below.refl _ _).alloc (Nat.le_refl _) _)
    have hR8 : w5.rangeAt b8 0 (partC p.gen p.index p.marks.toNat A n c) := by rw [hw5, hb8]; exact range_new wy (partC p.gen p.index p.marks.toNat A n c) 100
    have HN8 := Lib.hid (show w.heap.size < w2.heap.size ∧ w2.heap.size ≤ b8 from ⟨HW1.out, by rw [hb8]; exact HBY.out.size⟩)
    have HT5 := Lib.hid (show w5.drew.there w.heap.size 0 4 from there_below (there_below (there_below HT1.out HBY.out HW1.out) HB5.out (by have := HN8.out; omega)) ((Below.refl w5.heap.size w5).drew) (by have := HN8.out; have := range_lt hR8 (by simp [partC]); omega))
    have HB55 := Lib.hid (show Below w.heap.size w (w5.drew.setCells w.heap.size 0 (partC p.gen p.index p.marks.toNat A n c)) from below_setCells _ (Nat.le_refl _) _ _ _ ((below_chain HB1.out (below_chain HBY.out HB5.out)).drew))
    have hpc : ∀ W : World, W.rangeAt b8 0 (partC p.gen p.index p.marks.toNat A n c) → W.cell? ⟨b8, 0, none⟩ = some (.int .i64 p.gen) ∧ W.cell? ⟨b8, 1, none⟩ = some (.int .i64 p.index) ∧ W.cell? ⟨b8, 2, none⟩ = some (.int .u8 p.marks.toNat) ∧ W.cell? ⟨b8, 3, none⟩ = some (.slice A n c) := fun (W : World) hW => by
      have hk : ∀ j u, (partC p.gen p.index p.marks.toNat A n c)[j]? = some u → W.cell? ⟨b8, j, none⟩ = some u := fun j u hu => by have := hW j u hu; rwa [Nat.zero_add] at this
      exact ⟨hk 0 _ rfl, hk 1 _ rfl, hk 2 _ rfl, hk 3 _ rfl⟩
    have HS0 := Lib.hid (hpc w5.drew hR8)
    have HS1' := Lib.hid (hpc (w5.drew.setCells w.heap.size 0 (partC p.gen p.index p.marks.toNat A n c)) (range_keepb hR8 (heap_setCells w.heap.size b8 (by have := HN8.out; omega) _ 0 w5.drew)))
    have HOUT := Lib.hid (show ∀ ok, (goodS sc && decide (p.index = (i : Int))) = ok → PartPost d h i w (.returned (.tuple #[.agg #[.int .i64 p.gen, .int .i64 p.index, .int .u8 p.marks.toNat, .slice A n c], .bool ok])) (w5.drew.setCells w.heap.size 0 (partC p.gen p.index p.marks.toNat A n c)) from by
      intro ok hok
      refine ⟨_, p, ok, rfl, ?_, HP1.out, ?_, HB55.out⟩
      · obtain ⟨A', n', c', e, hn, hrow⟩ := HP.out
        injection e with e; injection e with e; injection e with _ e; injection e with _ e; injection e with _ e; injection e with e _
        injection e with e1 e2 e3
        subst e1; subst e2; subst e3
        refine ⟨A, n, c, rfl, hn, ((hrow.kept HB5.out (Nat.le_refl _)).drew).keep (by rw [size_setCells]; exact Nat.le_refl _) (fun x hx h0 hl => heap_setCells _ _ ?_ _ _ _)⟩
        have := HPN.out _ _ _ _ _ _ rfl x hx
        have := HBX.out.size
        have := HN8.out
        omega
      · rw [at_is hlt (show d.look ((h * d.half + i : Nat) : Int) = sc by rw [HQ.out]; exact HSC.out.symm)]
        cases hg : goodS sc with
        | false => rw [hg] at hok; rw [← hok]; rfl
        | true =>
          have hp : p = rawP sc := HFP.out (by rw [goodS, Bool.and_eq_true, Bool.and_eq_true] at hg; exact hg.1.1)
          rw [hg] at hok
          rw [← hok, ← hp])
    have hne1 : ¬ w.heap.size = b8 := by have := HN8.out; omega
    have hne2 : ¬ b8 = w.heap.size := by have := HN8.out; omega
    clear hw5 hb8 hR8 hpc
    have HTC := Lib.hid (there4 (show w5.there w.heap.size 0 4 from HT5.out))
    have HPC := Lib.hid (show w5.cell? ⟨b8, 0, none⟩ = some (.int .i64 p.gen) ∧ w5.cell? ⟨b8, 1, none⟩ = some (.int .i64 p.index) ∧ w5.cell? ⟨b8, 2, none⟩ = some (.int .u8 p.marks.toNat) ∧ w5.cell? ⟨b8, 3, none⟩ = some (.slice A n c) from HS0.out)
    generalize goodS sc = gd at *
    cases gd
    case false =>
      obtain ⟨⟨t0, e0⟩, ⟨t1, e1⟩, ⟨t2, e2⟩, ⟨t3, e3⟩, z0, z1, z2, z3⟩ := HTC.out
      obtain ⟨p0, p1, p2, p3⟩ := HPC.out
      go_region
      go_wp2_with fail
      refine bodyPost_ret (ret_cell_tmp rfl rfl (load_part (show ((w5.setCells w.heap.size 0 (partC p.gen p.index p.marks.toNat A n c)).drew).rangeAt w.heap.size 0 (partC p.gen p.index p.marks.toNat A n c) from World.rangeAt_setCells_same w5 w.heap.size 0 _ HT5.out))) rfl ?_
      exact HOUT.out _ rfl
    case true =>
      by_cases hpi : p.index = (i : Int)
      · have hd : (p.index == (i : Int)) = true := by simp [hpi]
        have HI := Lib.hid (show (true && decide (p.index = (i : Int))) = true by simp [hpi])
        clear hpi
        obtain ⟨⟨t0, e0⟩, ⟨t1, e1⟩, ⟨t2, e2⟩, ⟨t3, e3⟩, z0, z1, z2, z3⟩ := HTC.out
        obtain ⟨p0, p1, p2, p3⟩ := HPC.out
        go_region
        go_wp2_with fail
        refine bodyPost_ret (ret_cell_tmp rfl rfl (load_part (show ((w5.setCells w.heap.size 0 (partC p.gen p.index p.marks.toNat A n c)).drew).rangeAt w.heap.size 0 (partC p.gen p.index p.marks.toNat A n c) from World.rangeAt_setCells_same w5 w.heap.size 0 _ HT5.out))) rfl ?_
        exact HOUT.out _ HI.out
      · have hd : (p.index == (i : Int)) = false := by simp [hpi]
        have HI := Lib.hid (show (true && decide (p.index = (i : Int))) = false by simp [hpi])
        clear hpi
        obtain ⟨⟨t0, e0⟩, ⟨t1, e1⟩, ⟨t2, e2⟩, ⟨t3, e3⟩, z0, z1, z2, z3⟩ := HTC.out
        obtain ⟨p0, p1, p2, p3⟩ := HPC.out
        go_region
        go_wp2_with fail
        refine bodyPost_ret (ret_cell_tmp rfl rfl (load_part (show ((w5.setCells w.heap.size 0 (partC p.gen p.index p.marks.toNat A n c)).drew).rangeAt w.heap.size 0 (partC p.gen p.index p.marks.toNat A n c) from World.rangeAt_setCells_same w5 w.heap.size 0 _ HT5.out))) rfl ?_
        exact HOUT.out _ HI.out
end Go.Proofs.YtbhjigejpdbeiaaDoor
end

section
/-
  next: the record that stands at a reader's index.
-/
namespace Go.Proofs.YtbhjigejpdbeiaaDoor
open Go.RowKit Go.Shelf
set_option linter.unusedVariables false
set_option maxRecDepth 8000

/-- A reader's variable. -/
structure ReaderAt (w : World) (b sb : Nat) (gen : Int) (i : Nat) : Prop where
  range : w.rangeAt b 0 [.pointer (some ⟨sb, 0, none⟩), .int .i64 gen, .int .i64 (i : Int)]
  there : w.there b 0 3
theorem ReaderAt.lt {w : World} {b sb : Nat} {gen : Int} {i : Nat} (s : ReaderAt w b sb gen i) : b < w.heap.size := range_lt s.range (by simp)
theorem ReaderAt.below {w w' : World} {B b sb : Nat} {gen : Int} {i : Nat} (s : ReaderAt w b sb gen i) (hb : Below B w w') (h : b < B) : ReaderAt w' b sb gen i :=
  ⟨range_below s.range hb h, there_below s.there hb h⟩
theorem ReaderAt.cells {w : World} {b sb : Nat} {gen : Int} {i : Nat} (s : ReaderAt w b sb gen i) : w.cell? ⟨b, 0, none⟩ = some (.pointer (some ⟨sb, 0, none⟩)) ∧ w.cell? ⟨b, 1, none⟩ = some (.int .i64 gen) ∧ w.cell? ⟨b, 2, none⟩ = some (.int .i64 (i : Int)) ∧ w.frozen? ⟨b, 2, none⟩ = false := by
  have hk : ∀ j u, ([.pointer (some ⟨sb, 0, none⟩), .int .i64 gen, .int .i64 (i : Int)] : List Value)[j]? = some u → w.cell? ⟨b, j, none⟩ = some u := fun j u hu => by have := s.range j u hu; rwa [Nat.zero_add] at this
  exact ⟨hk 0 _ rfl, hk 1 _ rfl, hk 2 _ rfl, by have := (s.there 2 (by omega)).2; rwa [Nat.zero_add] at this⟩
theorem ReaderAt.set {w : World} {b sb : Nat} {gen : Int} {i : Nat} (s : ReaderAt w b sb gen i) (j : Nat) : ReaderAt (w.setCell ⟨b, 2, none⟩ (.int .i64 (j : Int))) b sb gen j := by
  have k := range_setCells s.range 2 [.int .i64 (j : Int)] (by simp)
  exact ⟨k, World.there_setCells s.there b 2 [.int .i64 (j : Int)]⟩
theorem and_u8 (x y : UInt8) : bits .and .u8 (x.toNat : Int) (y.toNat : Int) = ((x &&& y).toNat : Int) := by
  show IntKind.u8.wrap ((BitVec.ofInt 8 (x.toNat : Int) &&& BitVec.ofInt 8 (y.toNat : Int)).toNat : Int) = _
  rw [BitVec.ofInt_natCast, BitVec.ofInt_natCast, BitVec.toNat_and, BitVec.toNat_ofNat, BitVec.toNat_ofNat, Nat.mod_eq_of_lt (by exact x.toNat_lt), Nat.mod_eq_of_lt (by exact y.toNat_lt), UInt8.toNat_and]
  have h : x.toNat &&& y.toNat < 2 ^ 8 := Nat.and_lt_two_pow _ y.toNat_lt
  simp only [IntKind.wrap, IntKind.bits, IntKind.signed]
  simp
  omega
theorem and_ne (x y : UInt8) : (((x &&& y).toNat : Int) != 0) = (x &&& y != 0) := by
  rw [Bool.eq_iff_iff, bne_iff_ne, bne_iff_ne]
  constructor
  · intro h e; rw [e] at h; exact h rfl
  · intro h e; apply h; rw [← UInt8.toNat_inj]; have : (x &&& y).toNat = 0 := by omega
    rw [this]; rfl

theorem part_cells {W : World} {b : Nat} {g i m : Int} {A : Option Addr} {n c : Nat} (h : W.rangeAt b 0 (partC g i m A n c)) :
    W.cell? ⟨b, 0, none⟩ = some (.int .i64 g) ∧ W.cell? ⟨b, 1, none⟩ = some (.int .i64 i) ∧ W.cell? ⟨b, 2, none⟩ = some (.int .u8 m) ∧ W.cell? ⟨b, 3, none⟩ = some (.slice A n c) := by
  have hk : ∀ j u, (partC g i m A n c)[j]? = some u → W.cell? ⟨b, j, none⟩ = some u := fun j u hu => by have := h j u hu; rwa [Nat.zero_add] at this
  exact ⟨hk 0 _ rfl, hk 1 _ rfl, hk 2 _ rfl, hk 3 _ rfl⟩
/-- What next answers. -/
def NextPost (d : Dk) (h : Nat) (gen : Int) (start rb sb : Nat) (w : World) (e : Ending) (w' : World) : Prop :=
  w.grownBy w' (some rb) ∧ match d.one h gen start with
  | none => e = .returned (.tuple #[.slice none 0 0, .bool false]) ∧ ReaderAt w' rb sb gen start
  | some (r, j) => ∃ A n c, e = .returned (.tuple #[.slice A n c, .bool true]) ∧ n = r.length ∧ RowOf w' 1 A n c (Lib.byteCells r) ∧ (∀ x, A = some x → w.heap.size ≤ x.block) ∧ ReaderAt w' rb sb gen j
theorem next_none {d : Dk} {h : Nat} {gen : Int} {start rb sb : Nat} {w w' : World} (hb : Below w.heap.size w w') (hr : ReaderAt w' rb sb gen start) (ho : d.one h gen start = none) :
    NextPost d h gen start rb sb w (.returned (.tuple #[.slice none 0 0, .bool false])) w' := by
  refine ⟨⟨hb.os, hb.tape, hb.output, hb.size, fun k hk _ => hb.block k hk⟩, ?_⟩
  rw [ho]
  exact ⟨rfl, hr⟩
theorem oneStepNone {d : Dk} {h : Nat} {gen : Int} {start f k : Nat} {acc : List UInt8} (hk : d.at_ h k = none) : d.oneF h gen start f k acc = none := by
  cases f with
  | zero => rfl
  | succ f => rw [Dk.oneF, hk]
theorem oneStepSome {d : Dk} {h : Nat} {gen : Int} {start k : Nat} {acc : List UInt8} {p : Part} (hk : d.at_ h k = some p) : d.oneF h gen start (d.half + 1 - k) k acc =
    if Dk.bad p gen start k acc.length then none else if p.marks &&& 2 != 0 then some (acc ++ p.data, k + 1) else d.oneF h gen start (d.half + 1 - (k + 1)) (k + 1) (acc ++ p.data) := by
  have hlt := Dk.at_lt hk
  rw [show d.half + 1 - k = (d.half + 1 - (k + 1)) + 1 by omega, Dk.oneF, hk]
set_option maxHeartbeats 1000000 in
theorem next_f (w : World) (rb sb : Nat) (C : Array Value) (d : Dk) (h : Nat) (gen : Int) (start : Nat) (hs : SideAt w sb C d h) (hr : ReaderAt w rb sb gen start) (hh : h ≤ 1) (hrt : d.right = true) (hdn : d.down = false) (hst : start ≤ 100000) (hL : Laid w) :
    Calls Tryd.prog 66 #[.pointer (some ⟨rb, 0, none⟩)] w fun e w' => NextPost d h gen start rb sb w e w' := by
  have hbd := Jp.bounds_of_right hrt
  have HHF := Lib.hid (show d.half ≤ 1024 by have : d.half = d.secs.length / 2 := rfl; omega)
  have HS := Lib.hid hs
  have HR := Lib.hid hr
  have HL := Lib.hid hL
  have HRT := Lib.hid hrt
  have HDN := Lib.hid hdn
  obtain ⟨R, hR⟩ : ∃ R, R = d.one h gen start := ⟨_, rfl⟩
  have HONE := Lib.hid hR
  obtain ⟨p0, p1, p2, p3⟩ := hr.cells
  clear hs hr hL hbd hrt hdn hR
  go_enter Tryd.func66, Tryd.ntmps66
  go_wp2_with fail
  clear p0 p1 p2 p3
  go_loopw [4, 5] (fun v i wr => ∃ (k : Nat) (acc : List UInt8), i = .int .i64 (k : Int) ∧ start ≤ k ∧ k ≤ start + 1024 ∧ acc.length ≤ 4096 ∧ Hid (Below w.heap.size w wr) ∧ Hid (wr.ownsRow w.heap.size 5 1 v acc.length (Lib.byteCells acc)) ∧ Hid (R = d.oneF h gen start (d.half + 1 - k) k acc)) (fun v i wr => (start + 2000 - (intOf i).toNat))
  case atStart =>
    exact ⟨start, [], rfl, Nat.le_refl _, by omega, by simp, Lib.hid (Below.refl _ _), Lib.hid (World.ownsRow_nil w w.heap.size 5 1), Lib.hid HONE.out⟩
  case round =>
    obtain ⟨k, acc, rfl, hk1, hk2, hacc, HB, HOWN, HF⟩ := hrel
    have HRW := Lib.hid (HR.out.below HB.out HR.out.lt)
    have HSW := Lib.hid (HS.out.below HB.out)
    have HLW := Lib.hid (HL.out.below HB.out HL.out.size)
    obtain ⟨p0, p1, p2, p3⟩ := HRW.out.cells
    go_wp2_with fail
    refine (part_f wr sb C d h k HSW.out hh HRT.out HDN.out (by omega) HLW.out).mono ?_
    rintro e wy ⟨v, p, ok, rfl, hp, hp100, hat, hby⟩
    have HAT := Lib.hid hat
    have HBY := Lib.hid (below_chain HB.out hby)
    have HOY := Lib.hid (own_below HOWN.out hby (Nat.le_refl _))
    have HP100 := Lib.hid hp100
    obtain ⟨A, n, c, rfl, hn, hrow⟩ := hp
    have HN := Lib.hid hn
    have HROW := Lib.hid hrow
    have hn100 : n ≤ 100 := by omega
    clear p0 p1 p2 p3 hat hby hp100 hn hrow
    go_wp2_with fail
    obtain ⟨w6, hw6⟩ : ∃ w6, w6 = wy.alloc (.cells #[.int .i64 p.gen, .int .i64 p.index, .int .u8 p.marks.toNat, .slice A n c] 100) := ⟨_, rfl⟩
    obtain ⟨b6, hb6⟩ : ∃ b6, b6 = wy.heap.size := ⟨_, rfl⟩
    rw [← hw6, ← hb6]
    have HB6 := Lib.hid (show Below wy.heap.size wy w6 by rw [hw6]; exact (Below.refl _ _).alloc (Nat.le_refl _) _)
    have HR6 := Lib.hid (show w6.rangeAt b6 0 (partC p.gen p.index p.marks.toNat A n c) by rw [hw6, hb6]; exact range_new wy (partC p.gen p.index p.marks.toNat A n c) 100)
    have HBW := Lib.hid (below_chain HBY.out HB6.out)
    have HO6 := Lib.hid (own_below HOY.out HB6.out (Nat.le_refl _))
    have HROW6 := Lib.hid (HROW.out.kept HB6.out (Nat.le_refl _))
    have HRD6 := Lib.hid (HR.out.below HBW.out HR.out.lt)
    have HN6 := Lib.hid (show w.heap.size ≤ b6 by rw [hb6]; exact HBY.out.size)
    clear hw6 hb6 HOY HROW HB6 HRW HSW HLW HB HOWN
    have HNONE := Lib.hid (show R = none → ∀ W, Below w6.heap.size w6 W → NextPost d h gen start rb sb w (.returned (.tuple #[.slice none 0 0, .bool false])) W from fun hr W hW =>
      next_none (below_chain HBW.out hW) (HR.out.below (below_chain HBW.out hW) HR.out.lt) (HONE.out.symm.trans hr))
    have hA1 : bits .and .u8 (p.marks.toNat : Int) 1 = ((p.marks &&& 1).toNat : Int) := and_u8 p.marks 1
    have hA2 : bits .and .u8 (p.marks.toNat : Int) 2 = ((p.marks &&& 2).toNat : Int) := and_u8 p.marks 2
    have hB1 := and_ne p.marks 1
    have hB2 := and_ne p.marks 2
    have HBAD := Lib.hid (show Dk.bad p gen start k acc.length = (!decide (p.gen = gen) || !((p.marks &&& 1 != 0) == decide (k = start)) || (!(p.marks &&& 2 != 0) && decide (p.data.length < 100)) || (!(p.marks &&& 1 != 0) && decide (p.data.length = 0)) || decide (4096 < acc.length + p.data.length)) from rfl)
    have HSTEP := Lib.hid (fun (ha : d.at_ h k = some p) => HF.out.trans (oneStepSome (gen := gen) (start := start) (acc := acc) ha))
    generalize (p.marks &&& 1 != 0) = bg at *
    generalize (p.marks &&& 2 != 0) = en at *
    generalize (p.marks &&& 1).toNat = z1 at *
    generalize (p.marks &&& 2).toNat = z2 at *
    obtain ⟨q0, q1, q2, q3⟩ := part_cells HR6.out
    obtain ⟨p0, p1, p2, p3⟩ := HRD6.out.cells
    have hks : ((k : Int) == (start : Int)) = decide (k = start) := by
      rw [Bool.eq_iff_iff, beq_iff_eq, decide_eq_true_eq]; omega
    generalize decide (k = start) = ks at *
    go_quiet (fail)
    rename Nat => nq
    have hbq := below_drewN (Below.refl w6.heap.size w6) nq
    have HFN := Lib.hid (show ∀ W, Below (w6.drewN nq).heap.size (w6.drewN nq) W → R = none → NextPost d h gen start rb sb w (.returned (.tuple #[.slice none 0 0, .bool false])) W from fun W hW hr => HNONE.out hr W (below_chain hbq hW))
    have HR7 := Lib.hid (show (w6.drewN nq).rangeAt b6 0 (partC p.gen p.index p.marks.toNat A n c) from HR6.out)
    have HRD7 := Lib.hid (show ReaderAt (w6.drewN nq) rb sb gen start from HRD6.out.below hbq HRD6.out.lt)
    have HO7 := Lib.hid (own_below HO6.out hbq (Nat.le_refl _))
    have HROW7 := Lib.hid (HROW6.out.kept hbq (Nat.le_refl _))
    have HBW7 := Lib.hid (below_chain HBW.out hbq)
    obtain ⟨w7, hw7⟩ : ∃ w7, w7 = w6.drewN nq := ⟨_, rfl⟩
    rw [← hw7] at HFN HR7 HRD7 HO7 HROW7 HBW7 ⊢
    clear hw7 p0 p1 p2 p3 q0 q1 q2 q3 hbq HR6 HRD6 HO6 HROW6 hA1 hA2 hB1 hB2 HNONE
    go_wp2_with fail
    obtain ⟨q0, q1, q2, q3⟩ := part_cells HR7.out
    obtain ⟨p0, p1, p2, p3⟩ := HRD7.out.cells
    cases ok
    case false =>
      have HRN := Lib.hid (show R = none from HF.out.trans (oneStepNone HAT.out))
      go_quiet (fail)
      rename Nat => nr
      have hbr := below_drewN (Below.refl w7.heap.size w7) nr
      go_wp2_with fail
      go_ret2
      exact HFN.out _ hbr HRN.out
    have HST := Lib.hid (HSTEP.out HAT.out)
    have HKH := Lib.hid (Dk.at_lt (show d.at_ h k = some p from HAT.out))
    clear HSTEP HAT
    by_cases hg : p.gen = gen
    case neg =>
      have hgn : (p.gen != gen) = true := by simp [hg]
      have HRN := Lib.hid (show R = none from HST.out.trans (if_pos (by rw [HBAD.out]; simp [hg])))
      clear hg
      go_quiet (fail)
      rename Nat => nr
      have hbr := below_drewN (Below.refl w7.heap.size w7) nr
      go_wp2_with fail
      go_ret2
      exact HFN.out _ hbr HRN.out
    have hgn : (p.gen != gen) = false := by simp [hg]
    by_cases hbk : bg = ks
    case neg =>
      have hbn : (bg == ks) = false := by simp [hbk]
      have HRN := Lib.hid (show R = none from HST.out.trans (if_pos (by rw [HBAD.out]; simp [hbk])))
      clear hbk hg
      go_quiet (fail)
      rename Nat => nr
      have hbr := below_drewN (Below.refl w7.heap.size w7) nr
      go_wp2_with fail
      go_ret2
      exact HFN.out _ hbr HRN.out
    have hbn : (bg == ks) = true := by simp [hbk]
    have HG := Lib.hid hg
    have HBK := Lib.hid hbk
    clear hg hbk
    go_quiet (fail)
    rename Nat => nr
    have hbr := below_drewN (Below.refl w7.heap.size w7) nr
    have HFN8 := Lib.hid (show ∀ W, Below (w7.drewN nr).heap.size (w7.drewN nr) W → R = none → NextPost d h gen start rb sb w (.returned (.tuple #[.slice none 0 0, .bool false])) W from fun W hW hr => HFN.out W (below_chain hbr hW) hr)
    have HR8 := Lib.hid (show (w7.drewN nr).rangeAt b6 0 (partC p.gen p.index p.marks.toNat A n c) from HR7.out)
    have HRD8 := Lib.hid (show ReaderAt (w7.drewN nr) rb sb gen start from HRD7.out.below hbr HRD7.out.lt)
    have HO8 := Lib.hid (own_below HO7.out hbr (Nat.le_refl _))
    have HROW8 := Lib.hid (HROW7.out.kept hbr (Nat.le_refl _))
    have HBW8 := Lib.hid (below_chain HBW7.out hbr)
    obtain ⟨w8, hw8⟩ : ∃ w8, w8 = w7.drewN nr := ⟨_, rfl⟩
    rw [← hw8] at HFN8 HR8 HRD8 HO8 HROW8 HBW8 ⊢
    clear hw8 p0 p1 p2 p3 q0 q1 q2 q3 hbr HR7 HRD7 HO7 HROW7 HBW7 HFN hgn hbn hks
    go_upto_region 8 with fail
    obtain ⟨q0, q1, q2, q3⟩ := part_cells HR8.out
    obtain ⟨p0, p1, p2, p3⟩ := HRD8.out.cells
    go_cut [55] from 56 to 73 (fun s55 wx => s55 = .bool ((!en && decide (n < 100)) || (!bg && decide (n = 0))) ∧ wx = w8)
    case first =>
      have hz0 : ((n : Int) == 0) = decide (n = 0) := by
        rw [Bool.eq_iff_iff, beq_iff_eq, decide_eq_true_eq]; omega
      have hz1 : decide ((n : Int) < 100) = decide (n < 100) := by
        rw [Bool.eq_iff_iff, decide_eq_true_eq, decide_eq_true_eq]; omega
      by_cases q1 : n < 100 <;> by_cases q2 : n = 0
      all_goals simp only [q1, q2, decide_true, decide_false] at hz0 hz1
      all_goals have Q1 := Lib.hid q1
      all_goals have Q2 := Lib.hid q2
      all_goals clear q1 q2
      all_goals cases en <;> cases bg
      all_goals go_wp2_with fail
      all_goals go_meet
      all_goals refine ⟨?_, rfl⟩
      all_goals simp [Q1.out, Q2.out]
    case rest =>
      obtain ⟨rfl, rfl⟩ := hcut
      have HBAD3 := Lib.hid (show Dk.bad p gen start k acc.length = (((!en && decide (n < 100)) || (!bg && decide (n = 0))) || decide (4096 < acc.length + n)) by
        rw [HBAD.out, HG.out, ← HBK.out, HN.out]; simp [Bool.or_assoc])
      generalize ((!en && decide (n < 100)) || (!bg && decide (n = 0))) = bb at *
      cases bb
      case true =>
        have HRN := Lib.hid (show R = none from HST.out.trans (if_pos (by rw [HBAD3.out]; rfl)))
        go_wp2_with fail
        go_ret2
        exact HFN8.out _ (Below.refl _ _) HRN.out
      rename World => w8
      go_wp2_with (at_builtin; refine append_row rfl (.tmp 74) (.tmp 76) 28 5 rfl Tryd.underlying28 w.heap.size (.int .u8 0) 1 1 infoU8 (by rfl) (by decide) _ _ _ rfl HO8.out A n c (Lib.byteCells p.data) rfl HROW8.out (bytes_one _) (by omega) (by decide) HBW8.out.size ?_)
      intro v' w9 k1 k2
      have K2 := Lib.hid (below_owned (Below.refl w.heap.size w8) HO8.out k2 (Nat.le_refl _) HBW8.out.size)
      have HBW9 := Lib.hid (HBW8.out.trans K2.out)
      have HO9 := Lib.hid (show w9.ownsRow w.heap.size 5 1 v' (acc ++ p.data).length (Lib.byteCells (acc ++ p.data)) by
        rw [List.length_append, ← HN.out, bytes_app]; exact k1)
      obtain ⟨A9, c9, rfl, hrow9, hlo9⟩ := row_of_own k1
      have HRD9 := Lib.hid (HR.out.below HBW9.out HR.out.lt)
      have HROW9 := Lib.hid (show RowOf w9 1 A9 (acc.length + n) c9 (Lib.byteCells (acc ++ p.data)) by rw [bytes_app]; exact hrow9)
      have HLO9 := Lib.hid hlo9
      clear k1 k2 hrow9 hlo9 p0 p1 p2 p3 q0 q1 q2 q3
      obtain ⟨p0, p1, p2, p3⟩ := HRD9.out.cells
      by_cases hbig : 4096 < acc.length + n
      case pos =>
        have hd : decide ((4096 : Int) < ((acc.length + n : Nat) : Int)) = true := by simp; omega
        have HRN := Lib.hid (show R = none from HST.out.trans (if_pos (by rw [HBAD3.out]; simp [hbig])))
        go_wp2_with fail
        go_ret2
        exact next_none HBW9.out HRD9.out (HONE.out.symm.trans HRN.out)
      have hd : decide ((4096 : Int) < ((acc.length + n : Nat) : Int)) = false := by simp; omega
      have HST2 := Lib.hid (HST.out.trans (if_neg (by rw [HBAD3.out]; simp [hbig])))
      cases en
      case true =>
        have HRS := Lib.hid (show R = some (acc ++ p.data, k + 1) from HST2.out)
        go_wp2_with fail
        go_ret2
        refine (show NextPost d h gen start rb sb w (.returned (.tuple #[.slice A9 (acc.length + n) c9, .bool true])) (w9.setCell ⟨rb, 2, none⟩ (.int .i64 ((k + 1 : Nat) : Int))) from ⟨grown_set ⟨HBW9.out.os, HBW9.out.tape, HBW9.out.output, HBW9.out.size, fun q hq _ => HBW9.out.block q hq⟩ _ _, ?_⟩)
        rw [← HONE.out, HRS.out]
        exact ⟨A9, acc.length + n, c9, rfl, by rw [List.length_append, HN.out], HROW9.out.setCell _ _ (fun x hx _ => by have := HLO9.out x hx; have := HR.out.lt; show x.block ≠ rb; omega), HLO9.out, HRD9.out.set (k + 1)⟩
      case false =>
        have HRS := Lib.hid (show R = d.oneF h gen start (d.half + 1 - (k + 1)) (k + 1) (acc ++ p.data) from HST2.out)
        go_wp2_with fail
        go_roundw
        case rel =>
          exact ⟨k + 1, acc ++ p.data, rfl, by omega, by have := HKH.out; have := HHF.out; omega, by rw [List.length_append, ← HN.out]; omega, HBW9, HO9, HRS⟩
        case measure => simp [intOf]; omega
end Go.Proofs.YtbhjigejpdbeiaaDoor
end

section
/-
  The reference's look and at.
-/
namespace Go.Proofs.YtbhjigejpdbeiaaDoor
open Go.RowKit Go.Shelf
set_option linter.unusedVariables false
set_option maxRecDepth 8000

/-- A disk's box: where its sectors' slice lies. -/
theorem box_secs {w : World} {C : Array Value} {d : Dk} (h : DiskAt w (.agg C) d) : ∃ A c, C[0]? = some (.slice A d.secs.length c) := by
  obtain ⟨A, n, c, A', n', c', e, rfl, _⟩ := h
  injection e with e
  subst e
  exact ⟨A, c, rfl⟩
theorem half_mul {h m : Nat} (hh : h ≤ 1) : h * m ≤ m := by
  rcases Nat.le_one_iff_eq_zero_or_eq_one.1 hh with rfl | rfl <;> omega
set_option maxHeartbeats 1000000 in
theorem rlook15_f (w : World) (C : Array Value) (d : Dk) (h i : Nat) (hd : DiskAt w (.agg C) d) (h4 : D4 C) (hh : h ≤ 1) (hr : d.right = true) (hdn : d.down = false) (hi : i < d.half) :
    Calls Tryd.prog 67 #[.agg C, .int .i64 (h : Int), .int .i64 (i : Int)] w fun e w' => SecOut (d.look ((h * d.half + i : Nat) : Int)) w e w' := by
  have hbd := Jp.bounds_of_right hr
  obtain ⟨A, c, hc⟩ := box_secs hd
  have HH4 := Lib.hid h4
  have HD := Lib.hid hd
  obtain ⟨w1, hw1⟩ : ∃ w1, w1 = (w.alloc (.cells C 25)).alloc (secO zeroSec) := ⟨_, rfl⟩
  have HB1 := Lib.hid (show Below w.heap.size w w1 by rw [hw1]; exact below_two _ _ _)
  have hc0 : w1.cell? ⟨w.heap.size, 0, none⟩ = some (.slice A d.secs.length c) := by
    rw [hw1]
    refine (((Below.refl (w.heap.size + 1) (w.alloc (.cells C 25))).alloc (by simp) (secO zeroSec)).cell (p := ⟨w.heap.size, 0, none⟩) (by show w.heap.size < _; omega)).trans ?_
    rw [cell_of_new]; exact hc
  have HV := Lib.hid (show DVar w1 w.heap.size C by
    rw [hw1]; exact (dvar_new w h4).below ((Below.refl (w.heap.size + 1) (w.alloc (.cells C 25))).alloc (by simp) (secO zeroSec)) (by omega))
  have HT6 := Lib.hid (show w1.there (w.heap.size + 1) 0 128 by
    have := there_new (w.alloc (.cells C 25)) (secC zeroSec) 81
    rw [size_alloc, secC_length] at this
    rw [hw1]; exact this)
  have HS1 := Lib.hid (show w1.heap.size = w.heap.size + 2 by rw [hw1]; simp)
  have hl0 := HV.out.load
  have hd2 : (d.secs.length : Int) / 2 = (d.half : Int) := rfl
  have hm := half_mul (h := h) (m := d.half) hh
  have hhalf : d.half = d.secs.length / 2 := rfl
  have hq1 : d.half ≤ 1024 := by omega
  have hwi : d.within ((h * d.half + i : Nat) : Int) = true := by
    rw [Dk.within, Dk.inside]
    rcases Nat.le_one_iff_eq_zero_or_eq_one.1 hh with rfl | rfl <;> simp <;> omega
  have HRD := Lib.hid (show d.read ((h * d.half + i : Nat) : Int) = (d.look ((h * d.half + i : Nat) : Int), 0) by rw [Dk.read, hr, hwi, hdn]; rfl)
  have hmul : ((h : Int) * (d.half : Int)) = ((h * d.half : Nat) : Int) := by simp
  have hn : d.secs.length ≤ 2048 := by omega
  generalize hq : h * d.half = q at *
  generalize d.half = hf at *
  generalize d.secs.length = n at *
  obtain ⟨sc, hsc⟩ : ∃ sc, sc = d.look ((q + i : Nat) : Int) := ⟨_, rfl⟩
  rw [← hsc] at HRD ⊢
  have hs1 : IntKind.i64.wrap ((q : Int) + (i : Int)) = (q : Int) + (i : Int) := IntWalk.i64_in _ (by omega)
  have hs0 : IntKind.i64.wrap (q : Int) = (q : Int) := IntWalk.i64_in _ (by omega)
  have HW := Lib.hid hw1
  rw [hw1] at hc0 hl0
  clear hw1 hd h4 hbd hr hdn hc hhalf hwi hq hsc hm
  go_enter Tryd.func67, Tryd.ntmps67
  go_wp2_with fail
  rw [← HW.out]
  have HC := Lib.hid (show Calls Tryd.prog 62 #[.agg C, .int .i64 ((q : Int) + (i : Int))] w1 (fun e w' => e = .returned (.tuple #[secV sc, .int .i64 0]) ∧ Below w1.heap.size w1 w') from (rread_f w1 (.agg C) d ((q : Int) + (i : Int)) (HD.out.kept HB1.out (Nat.le_refl _))).mono fun _ _ ⟨h1, h2⟩ => ⟨by rw [h1, ← Int.natCast_add, HRD.out], h2⟩)
  refine HC.out.mono ?_
  rintro e w2 ⟨rfl, hb2⟩
  have HB2 := Lib.hid hb2
  clear hc0 hl0 hb2
  have HT6b := Lib.hid (show (w2.alloc (secO sc)).there (w.heap.size + 1) 0 128 from there_below (there_below HT6.out HB2.out (by have := HS1.out; omega)) ((Below.refl w2.heap.size w2).alloc (Nat.le_refl _) _) (by have := HS1.out; have := HB2.out.size; omega))
  have hst := store_sec HT6b.out sc
  have HFIN := Lib.hid (load_put HT6b.out sc)
  go_wp2_with fail
  refine bodyPost_ret (ret_cell rfl rfl (secVar_run HFIN.out)) rfl ?_
  exact ⟨rfl, below_putSec (below_chain HB1.out (below_chain HB2.out ((Below.refl w2.heap.size w2).alloc (Nat.le_refl _) _))) (by omega) _ _⟩

/-- The part at an index of a half, of a generation. -/
def RAtPost (d : Dk) (h i : Nat) (gen : Int) (w : World) (e : Ending) (w' : World) : Prop :=
  ∃ v p ok, e = .returned (.tuple #[v, .bool ok]) ∧ PartAt w' v p ∧ p.data.length ≤ 100 ∧ (if ok then d.at_ h i = some p ∧ p.gen = gen else d.at_ h i = none ∨ ∃ q, d.at_ h i = some q ∧ q.gen ≠ gen) ∧ Below w.heap.size w w'
theorem part_cells' {W : World} {b : Nat} {g i m : Int} {A : Option Addr} {n c : Nat} (h : W.rangeAt b 0 (partC g i m A n c)) :
    W.cell? ⟨b, 0, none⟩ = some (.int .i64 g) ∧ W.cell? ⟨b, 1, none⟩ = some (.int .i64 i) ∧ W.cell? ⟨b, 2, none⟩ = some (.int .u8 m) ∧ W.cell? ⟨b, 3, none⟩ = some (.slice A n c) := by
  have hk : ∀ j u, (partC g i m A n c)[j]? = some u → W.cell? ⟨b, j, none⟩ = some u := fun j u hu => by have := h j u hu; rwa [Nat.zero_add] at this
  exact ⟨hk 0 _ rfl, hk 1 _ rfl, hk 2 _ rfl, hk 3 _ rfl⟩
set_option maxHeartbeats 4000000 in
theorem rat_f (w : World) (C : Array Value) (d : Dk) (h i : Nat) (gen : Int) (hd : DiskAt w (.agg C) d) (h4 : D4 C) (hh : h ≤ 1) (hr : d.right = true) (hdn : d.down = false) (hi : i ≤ 1000000) (hL : LaidR w) :
    Calls Tryd.prog 83 #[.agg C, .int .i64 (h : Int), .int .i64 (i : Int), .int .i64 gen] w fun e w' => RAtPost d h i gen w e w' := by
  have hbd := Jp.bounds_of_right hr
  obtain ⟨A, c, hc⟩ := box_secs hd
  have HH4 := Lib.hid h4
  have HD := Lib.hid hd
  have HL := Lib.hid hL
  obtain ⟨w1, hw1⟩ : ∃ w1, w1 = (w.alloc (.cells C 25)).alloc (.cells #[.int .i64 0, .int .i64 0, .int .u8 0, .slice none 0 0] 94) := ⟨_, rfl⟩
  have HB1 := Lib.hid (show Below w.heap.size w w1 by rw [hw1]; exact below_two _ _ _)
  have hc0 : w1.cell? ⟨w.heap.size, 0, none⟩ = some (.slice A d.secs.length c) := by
    rw [hw1]
    refine (((Below.refl (w.heap.size + 1) (w.alloc (.cells C 25))).alloc (by simp) _).cell (p := ⟨w.heap.size, 0, none⟩) (by show w.heap.size < _; omega)).trans ?_
    rw [cell_of_new]; exact hc
  have HV := Lib.hid (show DVar w1 w.heap.size C by
    rw [hw1]; exact (dvar_new w h4).below ((Below.refl (w.heap.size + 1) (w.alloc (.cells C 25))).alloc (by simp) _) (by omega))
  have HT1 := Lib.hid (show w1.there (w.heap.size + 1) 0 4 by
    have := there_new (w.alloc (.cells C 25)) (partC 0 0 0 none 0 0) 94
    rw [size_alloc] at this
    rw [hw1]; exact this)
  have HS1 := Lib.hid (show w1.heap.size = w.heap.size + 2 by rw [hw1]; simp)
  have hl0 := HV.out.load
  have hd2 : (d.secs.length : Int) / 2 = (d.half : Int) := rfl
  have hhalf : d.half = d.secs.length / 2 := rfl
  have hq1 : d.half ≤ 1024 := by omega
  have hn : d.secs.length ≤ 2048 := by omega
  have HR := Lib.hid hr
  have HDN := Lib.hid hdn
  have HW := Lib.hid hw1
  generalize d.secs.length = n at *
  generalize hhf : d.half = hf at *
  have HHF := Lib.hid hhf
  rw [hw1] at hc0 hl0
  clear hw1 hd h4 hbd hr hdn hc hhalf hL hhf
  go_enter Tryd.func83, Tryd.ntmps83
  by_cases hlt : i < hf
  case neg =>
    have hdd : decide ((hf : Int) ≤ (i : Int)) = true := by simp; omega
    have HA := Lib.hid (at_ge (d := d) (h := h) (i := i) (by rw [HHF.out]; omega))
    go_wp2_with fail
    rw [← HW.out]
    have HR1 := Lib.hid (show w1.rangeAt (w.heap.size + 1) 0 (partC 0 0 0 none 0 0) by
      have := range_new (w.alloc (.cells C 25)) (partC 0 0 0 none 0 0) 94
      rw [size_alloc] at this
      rw [HW.out]; exact this)
    refine bodyPost_ret (ret_cell_tmp rfl rfl (load_Part HR1.out)) rfl ?_
    exact ⟨_, ⟨0, 0, 0, []⟩, false, rfl, part_zero _, by decide, .inl HA.out, HB1.out⟩
  have hdd : decide (hf ≤ i) = false := by simp; omega
  have HLT := Lib.hid hlt
  clear hlt
  go_wp2_with fail
  rw [← HW.out]
  have HC := Lib.hid (rlook15_f w1 C d h i (HD.out.kept HB1.out (Nat.le_refl _)) HH4.out hh HR.out HDN.out (by rw [HHF.out]; exact HLT.out))
  refine HC.out.mono ?_
  rintro e w2 ⟨rfl, hb2⟩
  obtain ⟨sc, hsc⟩ : ∃ sc, sc = d.look ((h * d.half + i : Nat) : Int) := ⟨_, rfl⟩
  rw [← hsc]
  have HSC := Lib.hid hsc
  have HB2 := Lib.hid hb2
  clear hsc hb2 hc0 hl0
  go_wp2_with fail
  refine (rsays_f w2 sc (HL.out.below (below_chain HB1.out HB2.out) HL.out.size)).mono ?_
  rintro e w3 ⟨v, p, rfl, hp, hpn, hfp, hp100, hb3⟩
  have HFP := Lib.hid hfp
  have HP := Lib.hid hp
  have HP1 := Lib.hid hp100
  have HB3 := Lib.hid hb3
  obtain ⟨A', n', c', rfl, hn', hrow⟩ := hp
  have HPN := Lib.hid (hpn _ _ _ _ _ _ rfl)
  have HN' := Lib.hid hn'
  have HROW := Lib.hid hrow
  clear hfp hpn hp100 hb3 hn' hrow
  go_wp2_with fail
  obtain ⟨w5, hw5⟩ : ∃ w5, w5 = w3.alloc (.cells #[.int .i64 p.gen, .int .i64 p.index, .int .u8 p.marks.toNat, .slice A' n' c'] 94) := ⟨_, rfl⟩
  obtain ⟨b8, hb8⟩ : ∃ b8, b8 = w3.heap.size := ⟨_, rfl⟩
  rw [← hw5, ← hb8]
  have HB5 := Lib.hid (show Below w3.heap.size w3 w5 by rw [hw5]; exact (Below.refl _ _).alloc (Nat.le_refl _) _)
  have hR8 : w5.rangeAt b8 0 (partC p.gen p.index p.marks.toNat A' n' c') := by rw [hw5, hb8]; exact range_new w3 (partC p.gen p.index p.marks.toNat A' n' c') 94
  have HN8 := Lib.hid (show w.heap.size + 1 < w1.heap.size ∧ w1.heap.size ≤ w2.heap.size ∧ w2.heap.size ≤ w3.heap.size ∧ w3.heap.size = b8 from ⟨by have := HS1.out; omega, HB2.out.size, HB3.out.size, hb8.symm⟩)
  have HT5 := Lib.hid (show w5.there (w.heap.size + 1) 0 4 from there_below (there_below (there_below HT1.out HB2.out HN8.out.1) HB3.out (by have := HN8.out; omega)) HB5.out (by have := HN8.out; omega))
  have HB55 := Lib.hid (show Below w.heap.size w ((w5.setCells (w.heap.size + 1) 0 (partC p.gen p.index p.marks.toNat A' n' c')).drew) from (below_setCells _ (Nat.le_succ _) _ _ _ (below_chain HB1.out (below_chain HB2.out (below_chain HB3.out HB5.out)))).drew)
  have HPC := Lib.hid (part_cells' hR8)
  have HOUT := Lib.hid (show ∀ ok, (goodS sc && decide (p.index = (i : Int)) && decide (p.gen = gen)) = ok → RAtPost d h i gen w (.returned (.tuple #[.agg #[.int .i64 p.gen, .int .i64 p.index, .int .u8 p.marks.toNat, .slice A' n' c'], .bool ok])) ((w5.setCells (w.heap.size + 1) 0 (partC p.gen p.index p.marks.toNat A' n' c')).drew) from by
    intro ok hok
    refine ⟨_, p, ok, rfl, ⟨A', n', c', rfl, HN'.out, ?_⟩, HP1.out, ?_, HB55.out⟩
    · refine ((HROW.out.kept HB5.out (Nat.le_refl _)).keep (by rw [size_setCells]; exact Nat.le_refl _) (fun x hx h0 hl => heap_setCells _ _ ?_ _ _ _)).drew
      have := HPN.out x hx
      have := HN8.out
      omega
    · have hat := at_is (h := h) (i := i) (d := d) (by rw [HHF.out]; exact HLT.out) (show d.look ((h * d.half + i : Nat) : Int) = sc from HSC.out.symm)
      rw [hat]
      cases hg : goodS sc with
      | false => rw [hg] at hok; rw [← hok]; exact .inl rfl
      | true =>
        have hp : p = rawP sc := HFP.out hg
        rw [hg] at hok
        rw [← hp]
        by_cases q1 : p.index = (i : Int)
        · by_cases q2 : p.gen = gen
          · rw [← hok]; simp [q1, q2]
          · rw [← hok]; simp [q1, q2]
        · rw [← hok]; simp [q1])
  have hne1 : ¬ w.heap.size + 1 = b8 := by have := HN8.out; omega
  have hne2 : ¬ b8 = w.heap.size + 1 := by have := HN8.out; omega
  clear hw5 hb8 hR8
  have HTC := Lib.hid (there4 HT5.out)
  generalize goodS sc = gd at *
  cases gd
  case false =>
    obtain ⟨⟨t0, e0⟩, ⟨t1, e1⟩, ⟨t2, e2⟩, ⟨t3, e3⟩, z0, z1, z2, z3⟩ := HTC.out
    obtain ⟨p0, p1, p2, p3⟩ := HPC.out
    go_region
    go_wp2_with fail
    refine bodyPost_ret (ret_cell_tmp rfl rfl (load_Part (show ((w5.setCells (w.heap.size + 1) 0 (partC p.gen p.index p.marks.toNat A' n' c')).drew).rangeAt (w.heap.size + 1) 0 (partC p.gen p.index p.marks.toNat A' n' c') from World.rangeAt_setCells_same w5 (w.heap.size + 1) 0 _ HT5.out))) rfl ?_
    exact HOUT.out _ rfl
  case true =>
    by_cases hpi : p.index = (i : Int)
    · have hd5 : (p.index == (i : Int)) = true := by simp [hpi]
      by_cases hpg : p.gen = gen
      · have hd6 : (p.gen == gen) = true := by simp [hpg]
        have HI := Lib.hid (show (true && decide (p.index = (i : Int)) && decide (p.gen = gen)) = true by simp [hpi, hpg])
        clear hpi hpg
        obtain ⟨⟨t0, e0⟩, ⟨t1, e1⟩, ⟨t2, e2⟩, ⟨t3, e3⟩, z0, z1, z2, z3⟩ := HTC.out
        obtain ⟨p0, p1, p2, p3⟩ := HPC.out
        go_region
        go_wp2_with fail
        refine bodyPost_ret (ret_cell_tmp rfl rfl (load_Part (show ((w5.setCells (w.heap.size + 1) 0 (partC p.gen p.index p.marks.toNat A' n' c')).drew).rangeAt (w.heap.size + 1) 0 (partC p.gen p.index p.marks.toNat A' n' c') from World.rangeAt_setCells_same w5 (w.heap.size + 1) 0 _ HT5.out))) rfl ?_
        exact HOUT.out _ HI.out
      · have hd6 : (p.gen == gen) = false := by simp [hpg]
        have HI := Lib.hid (show (true && decide (p.index = (i : Int)) && decide (p.gen = gen)) = false by simp [hpg])
        clear hpi hpg
        obtain ⟨⟨t0, e0⟩, ⟨t1, e1⟩, ⟨t2, e2⟩, ⟨t3, e3⟩, z0, z1, z2, z3⟩ := HTC.out
        obtain ⟨p0, p1, p2, p3⟩ := HPC.out
        go_region
        go_wp2_with fail
        refine bodyPost_ret (ret_cell_tmp rfl rfl (load_Part (show ((w5.setCells (w.heap.size + 1) 0 (partC p.gen p.index p.marks.toNat A' n' c')).drew).rangeAt (w.heap.size + 1) 0 (partC p.gen p.index p.marks.toNat A' n' c') from World.rangeAt_setCells_same w5 (w.heap.size + 1) 0 _ HT5.out))) rfl ?_
        exact HOUT.out _ HI.out
    · have hd5 : (p.index == (i : Int)) = false := by simp [hpi]
      have HI := Lib.hid (show (true && decide (p.index = (i : Int)) && decide (p.gen = gen)) = false by simp [hpi])
      clear hpi
      obtain ⟨⟨t0, e0⟩, ⟨t1, e1⟩, ⟨t2, e2⟩, ⟨t3, e3⟩, z0, z1, z2, z3⟩ := HTC.out
      obtain ⟨p0, p1, p2, p3⟩ := HPC.out
      go_region
      go_wp2_with fail
      refine bodyPost_ret (ret_cell_tmp rfl rfl (load_Part (show ((w5.setCells (w.heap.size + 1) 0 (partC p.gen p.index p.marks.toNat A' n' c')).drew).rangeAt (w.heap.size + 1) 0 (partC p.gen p.index p.marks.toNat A' n' c') from World.rangeAt_setCells_same w5 (w.heap.size + 1) 0 _ HT5.out))) rfl ?_
      exact HOUT.out _ HI.out
end Go.Proofs.YtbhjigejpdbeiaaDoor
end

section
/-
  The reference's one: the record whose first sector stands at an index.
-/
namespace Go.Proofs.YtbhjigejpdbeiaaDoor
open Go.RowKit Go.Shelf
set_option linter.unusedVariables false
set_option maxRecDepth 8000

/-- What one answers. -/
def OnePost (d : Dk) (h : Nat) (gen : Int) (start : Nat) (w : World) (e : Ending) (w' : World) : Prop :=
  Below w.heap.size w w' ∧ match d.one h gen start with
  | none => e = .returned (.tuple #[.slice none 0 0, .int .i64 (-1)])
  | some (r, j) => ∃ A n c, e = .returned (.tuple #[.slice A n c, .int .i64 (j : Int)]) ∧ n = r.length ∧ RowOf w' 1 A n c (Lib.byteCells r) ∧ (∀ x, A = some x → w.heap.size ≤ x.block)
theorem one_nil {d : Dk} {h : Nat} {gen : Int} {start : Nat} {w w' : World} (hb : Below w.heap.size w w') (ho : d.one h gen start = none) : OnePost d h gen start w (.returned (.tuple #[.slice none 0 0, .int .i64 (-1)])) w' := by
  refine ⟨hb, ?_⟩
  rw [ho]
theorem rem_first (m : UInt8) : (((m.toNat : Int) % 2) == 1) = (m &&& 1 != 0) := by
  have h1 : (m &&& 1).toNat = m.toNat % 2 := by rw [UInt8.toNat_and]; exact Nat.and_one_is_mod _
  rw [Bool.eq_iff_iff, beq_iff_eq, bne_iff_ne, ne_eq, ← UInt8.toNat_inj, h1]
  show _ ↔ ¬ m.toNat % 2 = 0
  omega
theorem ge_last {m : UInt8} (h : m.toNat ≤ 3) : decide (2 ≤ (m.toNat : Int)) = (m &&& 2 != 0) := by
  have key : ∀ a : Fin 4, decide (2 ≤ (a.val : Int)) = (UInt8.ofNat a.val &&& 2 != 0) := by decide
  have e1 : UInt8.ofNat m.toNat = m := UInt8.ofNat_toNat
  have := key ⟨m.toNat, by omega⟩
  rw [e1] at this
  exact this
set_option maxHeartbeats 2000000 in
theorem rone_f (w : World) (C : Array Value) (d : Dk) (h : Nat) (gen : Int) (start : Nat) (hd : DiskAt w (.agg C) d) (h4 : D4 C) (hh : h ≤ 1) (hrt : d.right = true) (hdn : d.down = false) (hst : start ≤ 100000) (hL : LaidR w) :
    Calls Tryd.prog 68 #[.agg C, .int .i64 (h : Int), .int .i64 (start : Int), .int .i64 gen] w fun e w' => OnePost d h gen start w e w' := by
  have hbd := Jp.bounds_of_right hrt
  have HHF := Lib.hid (show d.half ≤ 1024 by have : d.half = d.secs.length / 2 := rfl; omega)
  have HD := Lib.hid hd
  have HL := Lib.hid hL
  have HRT := Lib.hid hrt
  have HDN := Lib.hid hdn
  have HH4 := Lib.hid h4
  obtain ⟨w1, hw1⟩ : ∃ w1, w1 = w.alloc (.cells C 25) := ⟨_, rfl⟩
  have HB1 := Lib.hid (show Below w.heap.size w w1 by rw [hw1]; exact (Below.refl _ _).alloc (Nat.le_refl _) _)
  have HV := Lib.hid (show DVar w1 w.heap.size C by rw [hw1]; exact dvar_new w h4)
  obtain ⟨R, hR⟩ : ∃ R, R = d.one h gen start := ⟨_, rfl⟩
  have HONE := Lib.hid hR
  have HW := Lib.hid hw1
  clear hd hL hbd hrt hdn hR h4 hw1
  go_enter Tryd.func68, Tryd.ntmps68
  go_wp2_with fail
  rw [← HW.out]
  go_loopw [10, 11] (fun v i wr => ∃ (k : Nat) (acc : List UInt8), i = .int .i64 (k : Int) ∧ start ≤ k ∧ k ≤ start + 1024 ∧ acc.length ≤ 4096 ∧ Hid (Below w1.heap.size w1 wr) ∧ Hid (wr.ownsRow w1.heap.size 5 1 v acc.length (Lib.byteCells acc)) ∧ Hid (R = d.oneF h gen start (d.half + 1 - k) k acc)) (fun v i wr => (start + 2000 - (intOf i).toNat))
  case atStart =>
    exact ⟨start, [], rfl, Nat.le_refl _, by omega, by simp, Lib.hid (Below.refl _ _), Lib.hid (World.ownsRow_nil w1 w1.heap.size 5 1), Lib.hid HONE.out⟩
  case round =>
    obtain ⟨k, acc, rfl, hk1, hk2, hacc, HB, HOWN, HF⟩ := hrel
    obtain ⟨Ao, co, rfl, hrowo, hloo⟩ := row_of_own HOWN.out
    clear hrowo hloo
    obtain ⟨L, hL⟩ : ∃ L, L = acc.length := ⟨_, rfl⟩
    rw [← hL] at hacc HOWN
    have HLEN := Lib.hid hL
    rw [← hL]
    clear hL
    have HLW := Lib.hid (HL.out.below (below_chain HB1.out HB.out) HL.out.size)
    have hl0 := (HV.out.below HB.out HV.out.lt).load
    go_wp2_with fail
    refine (rat_f wr C d h k gen (HD.out.kept (below_chain HB1.out HB.out) (Nat.le_refl _)) HH4.out hh HRT.out HDN.out (by omega) HLW.out).mono ?_
    rintro e wy ⟨v, p, ok, rfl, hp, hp100, hat, hby⟩
    have HAT := Lib.hid hat
    have HBY := Lib.hid (below_chain HB.out hby)
    have HOY := Lib.hid (own_below HOWN.out hby (Nat.le_refl _))
    have HP100 := Lib.hid hp100
    obtain ⟨A, n, c, rfl, hn, hrow⟩ := hp
    have HN := Lib.hid hn
    have HROW := Lib.hid hrow
    have hn100 : n ≤ 100 := by omega
    clear hl0 hat hby hp100 hn hrow
    go_wp2_with fail
    obtain ⟨w6, hw6⟩ : ∃ w6, w6 = wy.alloc (.cells #[.int .i64 p.gen, .int .i64 p.index, .int .u8 p.marks.toNat, .slice A n c] 94) := ⟨_, rfl⟩
    obtain ⟨b6, hb6⟩ : ∃ b6, b6 = wy.heap.size := ⟨_, rfl⟩
    rw [← hw6, ← hb6]
    have HB6 := Lib.hid (show Below wy.heap.size wy w6 by rw [hw6]; exact (Below.refl _ _).alloc (Nat.le_refl _) _)
    have HR6 := Lib.hid (show w6.rangeAt b6 0 (partC p.gen p.index p.marks.toNat A n c) by rw [hw6, hb6]; exact range_new wy (partC p.gen p.index p.marks.toNat A n c) 94)
    have HBW := Lib.hid (below_chain HBY.out HB6.out)
    have HO6 := Lib.hid (own_below HOY.out HB6.out (Nat.le_refl _))
    have HROW6 := Lib.hid (HROW.out.kept HB6.out (Nat.le_refl _))
    clear hw6 hb6 HOY HROW HB6 HLW HB HOWN
    have HNONE := Lib.hid (show R = none → ∀ W, Below w6.heap.size w6 W → OnePost d h gen start w (.returned (.tuple #[.slice none 0 0, .int .i64 (-1)])) W from fun hr W hW =>
      one_nil (below_chain HB1.out (below_chain HBW.out hW)) (HONE.out.symm.trans hr))
    have hB1 := rem_first p.marks
    obtain ⟨lb, hlb⟩ : ∃ lb, decide (2 ≤ (p.marks.toNat : Int)) = lb := ⟨_, rfl⟩
    have HOKL := Lib.hid (show ok = true → lb = (p.marks &&& 2 != 0) ∧ d.at_ h k = some p ∧ p.gen = gen from fun e => by
      have hat := HAT.out
      rw [e] at hat
      exact ⟨hlb.symm.trans (ge_last (Jp.at_good hat.1).2.1.marks), hat.1, hat.2⟩)
    have HNOK := Lib.hid (show ok = false → R = none from fun e => by
      have hat := HAT.out
      rw [e] at hat
      rcases hat with hat | ⟨q, hq, hg⟩
      · exact HF.out.trans (Jp.step_none hat)
      · refine HF.out.trans ((Jp.step_at hq).trans (if_pos ?_))
        unfold Dk.bad; simp [hg])
    have HBAD := Lib.hid (show Dk.bad p gen start k acc.length = (!decide (p.gen = gen) || !((p.marks &&& 1 != 0) == decide (k = start)) || (!(p.marks &&& 2 != 0) && decide (p.data.length < 100)) || (!(p.marks &&& 1 != 0) && decide (p.data.length = 0)) || decide (4096 < acc.length + p.data.length)) from rfl)
    have HSTEP := Lib.hid (fun (ha : d.at_ h k = some p) => HF.out.trans (Jp.step_at (gen := gen) (start := start) (acc := acc) ha))
    generalize (p.marks &&& 1 != 0) = bg at *
    generalize (p.marks &&& 2 != 0) = en at *
    have hks : ((k : Int) == (start : Int)) = decide (k = start) := by
      rw [Bool.eq_iff_iff, beq_iff_eq, decide_eq_true_eq]; omega
    have hkg : decide (start < k) = !decide (k = start) := by
      rw [Bool.eq_iff_iff, decide_eq_true_eq, Bool.not_eq_true', decide_eq_false_iff_not]; omega
    generalize decide (k = start) = ks at *
    obtain ⟨q0, q1, q2, q3⟩ := part_cells HR6.out
    go_quiet (fail)
    rename Nat => nq
    have hbq := below_drewN (Below.refl w6.heap.size w6) nq
    have HFN := Lib.hid (show ∀ W, Below (w6.drewN nq).heap.size (w6.drewN nq) W → R = none → OnePost d h gen start w (.returned (.tuple #[.slice none 0 0, .int .i64 (-1)])) W from fun W hW hr => HNONE.out hr W (below_chain hbq hW))
    have HR7 := Lib.hid (show (w6.drewN nq).rangeAt b6 0 (partC p.gen p.index p.marks.toNat A n c) from HR6.out)
    have HO7 := Lib.hid (own_below HO6.out hbq (Nat.le_refl _))
    have HROW7 := Lib.hid (HROW6.out.kept hbq (Nat.le_refl _))
    have HBW7 := Lib.hid (below_chain HBW.out hbq)
    obtain ⟨w7, hw7⟩ : ∃ w7, w7 = w6.drewN nq := ⟨_, rfl⟩
    rw [← hw7] at HFN HR7 HO7 HROW7 HBW7 ⊢
    clear hw7 q0 q1 q2 q3 hbq HR6 HO6 HROW6 hB1 HNONE hlb
    go_upto_region 6 with fail
    obtain ⟨q0, q1, q2, q3⟩ := part_cells HR7.out
    cases ok
    case false =>
      have HRN := Lib.hid (HNOK.out rfl)
      go_wp2_with fail
      go_ret2
      exact HFN.out _ (Below.refl _ _) HRN.out
    obtain ⟨hlb, hat, hg⟩ := HOKL.out rfl
    have HKH := Lib.hid (Dk.at_lt hat)
    have HST := Lib.hid (HSTEP.out hat)
    have HBAD3 := Lib.hid (show Dk.bad p gen start k acc.length = (!(bg == ks) || (!en && decide (n < 100)) || (!bg && decide (n = 0)) || decide (4096 < L + n)) by
      rw [HBAD.out, hg, ← HN.out, ← HLEN.out]; simp)
    clear hat hg HSTEP HNOK HOKL HAT HBAD
    rw [hlb]
    clear hlb
    by_cases hbk : bg = ks
    case neg =>
      have hbn : (bg == ks) = false := by simp [hbk]
      have HRN := Lib.hid (show R = none from HST.out.trans (if_pos (by rw [HBAD3.out, hbn]; rfl)))
      clear hbk
      go_wp2_with fail
      go_ret2
      exact HFN.out _ (Below.refl _ _) HRN.out
    have hbn : (bg == ks) = true := by simp [hbk]
    by_cases h100 : en = false ∧ n ≠ 100
    case pos =>
      obtain ⟨rfl, h100⟩ := h100
      have hd1 : ((n : Int) != 100) = true := by rw [bne_iff_ne]; omega
      have HRN := Lib.hid (show R = none from HST.out.trans (if_pos (by rw [HBAD3.out]; simp; omega)))
      clear hbk h100
      go_wp2_with fail
      go_ret2
      exact HFN.out _ (Below.refl _ _) HRN.out
    by_cases h0 : ks = false ∧ n = 0
    case pos =>
      obtain ⟨rfl, h0⟩ := h0
      have hen : en = true := by
        cases en
        · exact absurd ⟨rfl, by omega⟩ h100
        · rfl
      subst hen
      have hd1 : ((n : Int) == 0) = true := by rw [beq_iff_eq]; omega
      have HRN := Lib.hid (show R = none from HST.out.trans (if_pos (by rw [HBAD3.out, hbk]; simp [h0])))
      clear hbk h0 h100
      go_wp2_with fail
      go_ret2
      exact HFN.out _ (Below.refl _ _) HRN.out
    have hsum : IntKind.i64.wrap ((L : Int) + (n : Int)) = (L : Int) + (n : Int) := IntWalk.i64_in _ (by omega)
    have HFACT := Lib.hid (show (en = false → n = 100) ∧ (ks = false → n ≠ 0) from ⟨fun e => Decidable.byContradiction fun q => h100 ⟨e, q⟩, fun e q => h0 ⟨e, q⟩⟩)
    have HBK := Lib.hid hbk
    clear h100 h0 hbk
    by_cases hbig : 4096 < L + n
    case pos =>
      have hd2 : decide ((4096 : Int) < (L : Int) + (n : Int)) = true := by simp; omega
      have HRN := Lib.hid (show R = none from HST.out.trans (if_pos (by rw [HBAD3.out]; simp [hbig])))
      clear hbig
      cases en
      case false =>
        have hd1 : ((n : Int) != 100) = false := by have := HFACT.out.1 rfl; rw [this]; rfl
        cases ks
        case false =>
          have hd0 : ((n : Int) == 0) = false := by have := HFACT.out.2 rfl; rw [beq_eq_false_iff_ne]; omega
          go_wp2_with fail
          go_ret2
          exact HFN.out _ (Below.refl _ _) HRN.out
        case true =>
          go_wp2_with fail
          go_ret2
          exact HFN.out _ (Below.refl _ _) HRN.out
      case true =>
        cases ks
        case false =>
          have hd0 : ((n : Int) == 0) = false := by have := HFACT.out.2 rfl; rw [beq_eq_false_iff_ne]; omega
          go_wp2_with fail
          go_ret2
          exact HFN.out _ (Below.refl _ _) HRN.out
        case true =>
          go_wp2_with fail
          go_ret2
          exact HFN.out _ (Below.refl _ _) HRN.out
    have hd2 : decide ((4096 : Int) < (L : Int) + (n : Int)) = false := by simp; omega
    have HST2 := Lib.hid (HST.out.trans (if_neg (by
      rw [HBAD3.out, hbn]
      have f1 := HFACT.out.1
      have f2 := HFACT.out.2
      have f3 := HBK.out
      subst f3
      cases en <;> cases bg <;> simp <;> simp at f1 f2 <;> omega)))
    cases en
    case false =>
      have hd1 : ((n : Int) != 100) = false := by have := HFACT.out.1 rfl; rw [this]; rfl
      cases ks
      case false =>
        have hd0 : ((n : Int) == 0) = false := by have := HFACT.out.2 rfl; rw [beq_eq_false_iff_ne]; omega
        go_wp2_with (at_builtin; refine append_row rfl (.tmp 73) (.tmp 75) 28 5 rfl Tryd.underlying28 w1.heap.size (.int .u8 0) 1 1 infoU8 (by rfl) (by decide) _ _ _ rfl HO7.out A n c (Lib.byteCells p.data) rfl HROW7.out (bytes_one _) (by omega) (by decide) HBW7.out.size ?_)
        intro v' w9 k1 k2
        have K2 := Lib.hid (below_owned (Below.refl w1.heap.size w7) HO7.out k2 (Nat.le_refl _) HBW7.out.size)
        have HBW9 := Lib.hid (HBW7.out.trans K2.out)
        have HO9 := Lib.hid (show w9.ownsRow w1.heap.size 5 1 v' (acc ++ p.data).length (Lib.byteCells (acc ++ p.data)) by
          rw [List.length_append, ← HN.out, bytes_app, ← HLEN.out]; exact k1)
        obtain ⟨A9, c9, rfl, hrow9, hlo9⟩ := row_of_own k1
        have HROW9 := Lib.hid (show RowOf w9 1 A9 (L + n) c9 (Lib.byteCells (acc ++ p.data)) by rw [bytes_app]; exact hrow9)
        have HLO9 := Lib.hid hlo9
        clear k1 k2 hrow9 hlo9 q0 q1 q2 q3
        have HRS := Lib.hid (show R = d.oneF h gen start (d.half + 1 - (k + 1)) (k + 1) (acc ++ p.data) from HST2.out)
        go_wp2_with fail
        go_roundw
        case rel =>
          exact ⟨k + 1, acc ++ p.data, rfl, by omega, by have := HKH.out; have := HHF.out; omega, by rw [List.length_append, ← HN.out, ← HLEN.out]; omega, HBW9, HO9, HRS⟩
        case measure => simp [intOf]; omega
      case true =>
        go_wp2_with (at_builtin; refine append_row rfl (.tmp 73) (.tmp 75) 28 5 rfl Tryd.underlying28 w1.heap.size (.int .u8 0) 1 1 infoU8 (by rfl) (by decide) _ _ _ rfl HO7.out A n c (Lib.byteCells p.data) rfl HROW7.out (bytes_one _) (by omega) (by decide) HBW7.out.size ?_)
        intro v' w9 k1 k2
        have K2 := Lib.hid (below_owned (Below.refl w1.heap.size w7) HO7.out k2 (Nat.le_refl _) HBW7.out.size)
        have HBW9 := Lib.hid (HBW7.out.trans K2.out)
        have HO9 := Lib.hid (show w9.ownsRow w1.heap.size 5 1 v' (acc ++ p.data).length (Lib.byteCells (acc ++ p.data)) by
          rw [List.length_append, ← HN.out, bytes_app, ← HLEN.out]; exact k1)
        obtain ⟨A9, c9, rfl, hrow9, hlo9⟩ := row_of_own k1
        have HROW9 := Lib.hid (show RowOf w9 1 A9 (L + n) c9 (Lib.byteCells (acc ++ p.data)) by rw [bytes_app]; exact hrow9)
        have HLO9 := Lib.hid hlo9
        clear k1 k2 hrow9 hlo9 q0 q1 q2 q3
        have HRS := Lib.hid (show R = d.oneF h gen start (d.half + 1 - (k + 1)) (k + 1) (acc ++ p.data) from HST2.out)
        go_wp2_with fail
        go_roundw
        case rel =>
          exact ⟨k + 1, acc ++ p.data, rfl, by omega, by have := HKH.out; have := HHF.out; omega, by rw [List.length_append, ← HN.out, ← HLEN.out]; omega, HBW9, HO9, HRS⟩
        case measure => simp [intOf]; omega
    case true =>
      cases ks
      case false =>
        have hd0 : ((n : Int) == 0) = false := by have := HFACT.out.2 rfl; rw [beq_eq_false_iff_ne]; omega
        go_wp2_with (at_builtin; refine append_row rfl (.tmp 73) (.tmp 75) 28 5 rfl Tryd.underlying28 w1.heap.size (.int .u8 0) 1 1 infoU8 (by rfl) (by decide) _ _ _ rfl HO7.out A n c (Lib.byteCells p.data) rfl HROW7.out (bytes_one _) (by omega) (by decide) HBW7.out.size ?_)
        intro v' w9 k1 k2
        have K2 := Lib.hid (below_owned (Below.refl w1.heap.size w7) HO7.out k2 (Nat.le_refl _) HBW7.out.size)
        have HBW9 := Lib.hid (HBW7.out.trans K2.out)
        have HO9 := Lib.hid (show w9.ownsRow w1.heap.size 5 1 v' (acc ++ p.data).length (Lib.byteCells (acc ++ p.data)) by
          rw [List.length_append, ← HN.out, bytes_app, ← HLEN.out]; exact k1)
        obtain ⟨A9, c9, rfl, hrow9, hlo9⟩ := row_of_own k1
        have HROW9 := Lib.hid (show RowOf w9 1 A9 (L + n) c9 (Lib.byteCells (acc ++ p.data)) by rw [bytes_app]; exact hrow9)
        have HLO9 := Lib.hid hlo9
        clear k1 k2 hrow9 hlo9 q0 q1 q2 q3
        have HRS := Lib.hid (show R = some (acc ++ p.data, k + 1) from HST2.out)
        go_wp2_with fail
        go_ret2
        refine (show OnePost d h gen start w (.returned (.tuple #[.slice A9 (L + n) c9, .int .i64 ((k + 1 : Nat) : Int)])) w9 from ⟨below_chain HB1.out HBW9.out, ?_⟩)
        rw [← HONE.out, HRS.out]
        exact ⟨A9, L + n, c9, rfl, by rw [List.length_append, HN.out, HLEN.out], HROW9.out, fun x hx => Nat.le_trans HB1.out.size (HLO9.out x hx)⟩
      case true =>
        go_wp2_with (at_builtin; refine append_row rfl (.tmp 73) (.tmp 75) 28 5 rfl Tryd.underlying28 w1.heap.size (.int .u8 0) 1 1 infoU8 (by rfl) (by decide) _ _ _ rfl HO7.out A n c (Lib.byteCells p.data) rfl HROW7.out (bytes_one _) (by omega) (by decide) HBW7.out.size ?_)
        intro v' w9 k1 k2
        have K2 := Lib.hid (below_owned (Below.refl w1.heap.size w7) HO7.out k2 (Nat.le_refl _) HBW7.out.size)
        have HBW9 := Lib.hid (HBW7.out.trans K2.out)
        have HO9 := Lib.hid (show w9.ownsRow w1.heap.size 5 1 v' (acc ++ p.data).length (Lib.byteCells (acc ++ p.data)) by
          rw [List.length_append, ← HN.out, bytes_app, ← HLEN.out]; exact k1)
        obtain ⟨A9, c9, rfl, hrow9, hlo9⟩ := row_of_own k1
        have HROW9 := Lib.hid (show RowOf w9 1 A9 (L + n) c9 (Lib.byteCells (acc ++ p.data)) by rw [bytes_app]; exact hrow9)
        have HLO9 := Lib.hid hlo9
        clear k1 k2 hrow9 hlo9 q0 q1 q2 q3
        have HRS := Lib.hid (show R = some (acc ++ p.data, k + 1) from HST2.out)
        go_wp2_with fail
        go_ret2
        refine (show OnePost d h gen start w (.returned (.tuple #[.slice A9 (L + n) c9, .int .i64 ((k + 1 : Nat) : Int)])) w9 from ⟨below_chain HB1.out HBW9.out, ?_⟩)
        rw [← HONE.out, HRS.out]
        exact ⟨A9, L + n, c9, rfl, by rw [List.length_append, HN.out, HLEN.out], HROW9.out, fun x hx => Nat.le_trans HB1.out.size (HLO9.out x hx)⟩
end Go.Proofs.YtbhjigejpdbeiaaDoor
end
