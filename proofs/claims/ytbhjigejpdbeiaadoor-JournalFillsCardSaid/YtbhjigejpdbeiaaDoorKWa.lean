import Derived.Test.YtbhjigejpdbeiaaDoorKAv
import Derived.Test.YtbhjigejpdbeiaaDoorOq
set_option linter.unusedSimpArgs false
set_option linter.unusedVariables false

section
/-
  JournalAppends, walked: what the program appends and formats is what the reference does.
-/
namespace Go.Proofs.YtbhjigejpdbeiaaDoor
open Go.RowKit Go.Shelf
set_option linter.unusedVariables false
set_option maxRecDepth 8000

/-- A disk and a log that a call answered go into two new variables. -/
theorem two_new {wa : World} {C : Array Value} {x : Dk} (hc : D4 C) (hd : DiskAt wa (.agg C) x) (l : Dk.Log) :
    ∃ wz, (diskSet ⟨wa.heap.size, 0, none⟩ (.agg C)).run Tryd.prog ((wa.alloc (.cells #[.slice none 0 0, .slice none 0 0, .int .i64 0, .bool false] 25)).alloc (.cells #[.int .i64 0, .int .i64 0, .int .i64 0] 27)) = .ok () (putDisk ((wa.alloc (.cells #[.slice none 0 0, .slice none 0 0, .int .i64 0, .bool false] 25)).alloc (.cells #[.int .i64 0, .int .i64 0, .int .i64 0] 27)) wa.heap.size C) ∧
      (logSet ⟨wa.heap.size + 1, 0, none⟩ (logV l)).run Tryd.prog (putDisk ((wa.alloc (.cells #[.slice none 0 0, .slice none 0 0, .int .i64 0, .bool false] 25)).alloc (.cells #[.int .i64 0, .int .i64 0, .int .i64 0] 27)) wa.heap.size C) = .ok () wz ∧
      DVar wz wa.heap.size C ∧ LogAt wz (wa.heap.size + 1) l ∧ DiskAt wz (.agg C) x ∧ Below wa.heap.size wa wz := by
  have ht1 : ((wa.alloc (.cells #[.slice none 0 0, .slice none 0 0, .int .i64 0, .bool false] 25)).alloc (.cells #[.int .i64 0, .int .i64 0, .int .i64 0] 27)).there wa.heap.size 0 4 := there_disk_alloc (there_disk _ zeroD4) _
  have ht2 : ((wa.alloc (.cells #[.slice none 0 0, .slice none 0 0, .int .i64 0, .bool false] 25)).alloc (.cells #[.int .i64 0, .int .i64 0, .int .i64 0] 27)).there (wa.heap.size + 1) 0 3 := there_log_at _ (by simp)
  have hb := below_putLog (below_putDisk (below_two wa (.cells #[.slice none 0 0, .slice none 0 0, .int .i64 0, .bool false] 25) (.cells #[.int .i64 0, .int .i64 0, .int .i64 0] 27)) (Nat.le_refl _) C) (Nat.le_succ _) l
  refine ⟨_, store_disk ht1 hc, store_log (there_putDisk ht2 _ C) l, ?_, logAt_put (there_putDisk ht2 _ C) l, hd.kept hb (Nat.le_refl _), hb⟩
  exact (dvar_put (there_lt ht1 (by decide)) ht1 hc).grown grown_log (by omega)
set_option maxHeartbeats 4000000 in
theorem law_appends (w : World) (v : Value) (d : Dk) (hd : DiskAt w v d) (l : Dk.Log) (v2 : Value) (r : List UInt8) (hr : BytesAt w v2 r) (hL : LaidR w) :
    Calls Tryd.prog 3 #[v, logV l, v2] w fun e w' => e = .returned (.bool true) ∧ Below w.heap.size w w' := by
  obtain ⟨C, rfl, h4⟩ := hd.agg
  obtain ⟨⟨A, n, c, rfl, hn, hrow⟩⟩ := hr
  obtain ⟨w1, hw1⟩ : ∃ w1, w1 = (w.alloc (.cells C 25)).alloc (.cells #[.int .i64 l.half, .int .i64 l.gen, .int .i64 l.used] 27) := ⟨_, rfl⟩
  obtain ⟨bb, hbb⟩ : ∃ bb, bb = w.heap.size := ⟨_, rfl⟩
  have HB1 := Lib.hid (show Below w.heap.size w w1 by rw [hw1]; exact below_two _ _ _)
  have HV1 := Lib.hid (show DVar w1 bb C by rw [hw1, hbb]; exact (dvar_new w h4).below ((Below.refl (w.heap.size + 1) _).alloc (by simp) _) (by omega))
  have HG1 := Lib.hid (show LogAt w1 (bb + 1) l by
    have := logAt_new (w.alloc (.cells C 25)) l
    rw [size_alloc, ← hbb] at this
    rw [hw1]; exact this)
  have HD := Lib.hid hd
  have HN := Lib.hid hn
  have HROW := Lib.hid hrow
  have HL := Lib.hid hL
  have HW := Lib.hid hw1
  have HBB := Lib.hid hbb
  clear hd hn hrow hL hw1 hbb
  go_enter Tryd.func3, Tryd.ntmps3
  go_upto_region 1 with fail
  rw [← HW.out, ← HBB.out]
  go_wp2_with fail
  refine (alive15_f w1 (HL.out.toLaid.below HB1.out HL.out.size)).mono ?_
  rintro e w2 ⟨rfl, hb2⟩
  have HB2 := Lib.hid (below_chain HB1.out hb2)
  have HV2 := Lib.hid (HV1.out.below hb2 HV1.out.lt)
  have HG2 := Lib.hid (HG1.out.on hb2 HG1.out.lt)
  clear hb2
  have hl2 := HV2.out.load
  go_wp2_with fail
  refine (great15_f w2 (.agg C) d (HD.out.kept HB2.out (Nat.le_refl _))).mono ?_
  rintro e w3 ⟨rfl, hb3⟩
  have HB3 := Lib.hid (below_chain HB2.out hb3)
  have HV3 := Lib.hid (HV2.out.below hb3 HV2.out.lt)
  have HG3 := Lib.hid (HG2.out.on hb3 HG2.out.lt)
  obtain ⟨gr, hgr⟩ : ∃ gr, gr = (decide (60 < d.secs.length) || decide (60 < d.loose.length)) := ⟨_, rfl⟩
  rw [← hgr]
  have HGR := Lib.hid hgr
  clear hb3 hl2 hgr
  cases gr
  case true =>
    go_wp2_with fail
    go_ret
    exact ⟨rfl, HB3.out⟩
  have HSM := Lib.hid (show d.secs.length ≤ 60 ∧ d.loose.length ≤ 60 by
    have := HGR.out
    simp at this
    omega)
  by_cases h5 : 5000 < n
  case pos =>
    have hd5 : decide (5000 < (n : Int)) = true := by simp; omega
    go_wp2_with fail
    go_ret
    exact ⟨rfl, HB3.out⟩
  have hd5 : decide (5000 < (n : Int)) = false := by simp; omega
  have hl3 := HV3.out.load
  have hg3 := HG3.out.load
  go_wp2_with fail
  refine (append_f w3 (.agg C) d l A n c r (HD.out.kept HB3.out (Nat.le_refl _)) (HL.out.toLaid.below HB3.out HL.out.size) (by have := HSM.out; omega) HN.out (by omega) (HROW.out.kept HB3.out (Nat.le_refl _))).mono ?_
  rintro e w4 ⟨⟨u4, rfl, hgt4⟩, hb4⟩
  obtain ⟨C4, rfl, hc4⟩ := hgt4.1.agg
  obtain ⟨X, m, er, hX⟩ : ∃ X m er, d.append l r = (X, m, er) := ⟨_, _, _, rfl⟩
  have HX := Lib.hid hX
  rw [hX] at hgt4 ⊢
  clear hX hl3 hg3
  obtain ⟨w5, o1, o2, hv5, hl5, hd5', hb5⟩ := two_new hc4 hgt4.1 m
  have HB4 := Lib.hid hb4
  have HB5 := Lib.hid (below_chain hb4 hb5)
  clear hgt4 hb4 hb5
  have HV5 := Lib.hid hv5
  have HL5 := Lib.hid hl5
  have HD5 := Lib.hid hd5'
  clear hv5 hl5 hd5'
  go_upto_region 6 with fail
  clear o1 o2
  obtain ⟨b7, hb7⟩ : ∃ b7, b7 = w4.heap.size := ⟨_, rfl⟩
  rw [← hb7] at HV5 HL5 ⊢
  have HBW5 := Lib.hid (below_chain HB3.out HB5.out)
  have HS5 := Lib.hid (show w3.heap.size ≤ b7 by rw [hb7]; exact HB4.out.size)
  have HVB5 := Lib.hid (HV3.out.below HB5.out HV3.out.lt)
  have HGB5 := Lib.hid (HG3.out.on HB5.out HG3.out.lt)
  clear hb7
  have hl5 := HVB5.out.load
  have hg5 := HGB5.out.load
  go_wp2_with fail
  refine (rappend_f w5 (.agg C) d l A n c r (HD.out.kept HBW5.out (Nat.le_refl _)) (HL.out.below HBW5.out HL.out.size) (by have := HSM.out; omega) HN.out (by omega) (HROW.out.kept HBW5.out (Nat.le_refl _))).mono ?_
  rintro e w6 ⟨⟨u6, rfl, hgt6⟩, hb6⟩
  obtain ⟨C6, rfl, hc6⟩ := hgt6.1.agg
  rw [HX.out] at hgt6 ⊢
  clear hl5 hg5
  obtain ⟨w7, o1, o2, hv7, hl7, hd7, hb7⟩ := two_new hc6 hgt6.1 m
  have HB7 := Lib.hid (below_chain hb6 hb7)
  have HSZ7 := Lib.hid hb6.size
  clear hgt6 hb6 hb7
  have HV7 := Lib.hid hv7
  have HL7 := Lib.hid hl7
  have HD7 := Lib.hid hd7
  clear hv7 hl7 hd7
  go_upto_region 7 with fail
  clear o1 o2
  obtain ⟨b10, hb10⟩ : ∃ b10, b10 = w6.heap.size := ⟨_, rfl⟩
  rw [← hb10] at HV7 HL7 ⊢
  have HBW7 := Lib.hid (below_chain HBW5.out HB7.out)
  have HVB7 := Lib.hid (HVB5.out.below HB7.out HVB5.out.lt)
  have HV5b := Lib.hid (HV5.out.below HB7.out HV5.out.lt)
  have HL5b := Lib.hid (HL5.out.on HB7.out HL5.out.lt)
  have HD5b := Lib.hid (HD5.out.kept HB7.out (Nat.le_refl _))
  clear hb10
  have hl7 := HVB7.out.load
  go_wp2_with fail
  refine (format_f w7 (.agg C) d (HD.out.kept HBW7.out (Nat.le_refl _)) (HL.out.toLaid.below HBW7.out HL.out.size)).mono ?_
  rintro e w8 ⟨⟨u8, rfl, hgt8⟩, hb8⟩
  obtain ⟨C8, rfl, hc8⟩ := hgt8.1.agg
  obtain ⟨Y, m2, er2, hY⟩ : ∃ Y m er, d.format = (Y, m, er) := ⟨_, _, _, rfl⟩
  have HY := Lib.hid hY
  rw [hY] at hgt8 ⊢
  clear hl7 hY
  obtain ⟨w9, o1, o2, hv9, hl9, hd9, hb9⟩ := two_new hc8 hgt8.1 m2
  have HB9 := Lib.hid (below_chain hb8 hb9)
  clear hgt8 hb8 hb9
  have HV9 := Lib.hid hv9
  have HL9 := Lib.hid hl9
  have HD9 := Lib.hid hd9
  clear hv9 hl9 hd9
  go_upto_region 8 with fail
  clear o1 o2
  obtain ⟨b13, hb13⟩ : ∃ b13, b13 = w8.heap.size := ⟨_, rfl⟩
  rw [← hb13] at HV9 HL9 ⊢
  have HBW9 := Lib.hid (below_chain HBW7.out HB9.out)
  have HVB9 := Lib.hid (HVB7.out.below HB9.out HVB7.out.lt)
  have HV5c := Lib.hid (HV5b.out.below HB9.out HV5b.out.lt)
  have HL5c := Lib.hid (HL5b.out.on HB9.out HL5b.out.lt)
  have HD5c := Lib.hid (HD5b.out.kept HB9.out (Nat.le_refl _))
  have HV7b := Lib.hid (HV7.out.below HB9.out HV7.out.lt)
  have HL7b := Lib.hid (HL7.out.on HB9.out HL7.out.lt)
  have HD7b := Lib.hid (HD7.out.kept HB9.out (Nat.le_refl _))
  clear hb13
  have hl9 := HVB9.out.load
  go_wp2_with fail
  refine (rformat_f w9 (.agg C) d (HD.out.kept HBW9.out (Nat.le_refl _)) (HL.out.below HBW9.out HL.out.size)).mono ?_
  rintro e wa ⟨⟨ua, rfl, hgta⟩, hba⟩
  obtain ⟨Ca, rfl, hca⟩ := hgta.1.agg
  rw [HY.out] at hgta ⊢
  clear hl9
  obtain ⟨wb, o1, o2, hvb, hlb, hdb, hbb⟩ := two_new hca hgta.1 m2
  have HBB2 := Lib.hid (below_chain hba hbb)
  clear hgta hba hbb
  have HVb := Lib.hid hvb
  have HLb := Lib.hid hlb
  have HDb := Lib.hid hdb
  clear hvb hlb hdb
  go_upto_region 9 with fail
  clear o1 o2
  obtain ⟨b16, hb16⟩ : ∃ b16, b16 = wa.heap.size := ⟨_, rfl⟩
  rw [← hb16] at HVb HLb ⊢
  clear hb16
  have HBWb := Lib.hid (below_chain HBW9.out HBB2.out)
  have HK := Lib.hid (show ∀ W, Below wb.heap.size wb W → ((diskVar ⟨b7, 0, none⟩).run Tryd.prog W = .ok (.agg C4) W ∧ (diskVar ⟨b10, 0, none⟩).run Tryd.prog W = .ok (.agg C6) W ∧ (diskVar ⟨b13, 0, none⟩).run Tryd.prog W = .ok (.agg C8) W ∧ (diskVar ⟨b16, 0, none⟩).run Tryd.prog W = .ok (.agg Ca) W) ∧
      ((logVar ⟨b7 + 1, 0, none⟩).run Tryd.prog W = .ok (logV m) W ∧ (logVar ⟨b10 + 1, 0, none⟩).run Tryd.prog W = .ok (logV m) W ∧ (logVar ⟨b13 + 1, 0, none⟩).run Tryd.prog W = .ok (logV m2) W ∧ (logVar ⟨b16 + 1, 0, none⟩).run Tryd.prog W = .ok (logV m2) W) ∧
      (DiskAt W (.agg C4) X ∧ DiskAt W (.agg C6) X ∧ DiskAt W (.agg C8) Y ∧ DiskAt W (.agg Ca) Y) ∧ Below w.heap.size w W from fun W hW => by
    have k1 := HV5c.out.below HBB2.out HV5c.out.lt
    have k2 := HV7b.out.below HBB2.out HV7b.out.lt
    have k3 := HV9.out.below HBB2.out HV9.out.lt
    have g1 := HL5c.out.on HBB2.out HL5c.out.lt
    have g2 := HL7b.out.on HBB2.out HL7b.out.lt
    have g3 := HL9.out.on HBB2.out HL9.out.lt
    have d1 := HD5c.out.kept HBB2.out (Nat.le_refl _)
    have d2 := HD7b.out.kept HBB2.out (Nat.le_refl _)
    have d3 := HD9.out.kept HBB2.out (Nat.le_refl _)
    exact ⟨⟨(k1.below hW k1.lt).load, (k2.below hW k2.lt).load, (k3.below hW k3.lt).load, (HVb.out.below hW HVb.out.lt).load⟩,
      ⟨(g1.on hW g1.lt).load, (g2.on hW g2.lt).load, (g3.on hW g3.lt).load, (HLb.out.on hW HLb.out.lt).load⟩,
      ⟨d1.kept hW (Nat.le_refl _), d2.kept hW (Nat.le_refl _), d3.kept hW (Nat.le_refl _), HDb.out.kept hW (Nat.le_refl _)⟩, below_chain HBWb.out hW⟩)
  have HLX := Lib.hid (show X.secs.length ≤ 1000000 ∧ X.loose.length ≤ 1000000 by
    have := append_Len d l r
    rw [HX.out] at this
    have h1 := this.secs
    have h2 := this.loose
    have := HSM.out
    simp at h1 h2
    omega)
  have HLY := Lib.hid (show Y.secs.length ≤ 1000000 ∧ Y.loose.length ≤ 1000000 by
    have := format_Len d
    rw [HY.out] at this
    have h1 := this.secs
    have h2 := this.loose
    have := HSM.out
    simp at h1 h2
    omega)
  obtain ⟨⟨a1, a2, a3, a4⟩, ⟨a5, a6, a7, a8⟩, ⟨a9, aa, ab, ac⟩, _⟩ := HK.out wb (Below.refl _ _)
  have HS1 := Lib.hid (same_f wb (.agg C4) (.agg C6) X a9 aa HLX.out.1 HLX.out.2)
  clear a9 aa ab ac
  go_wp2_with fail
  refine HS1.out.mono ?_
  rintro e wc ⟨rfl, hbc⟩
  have HBC := Lib.hid hbc
  clear a1 a2 a3 a4 a5 a6 a7 a8 hbc
  obtain ⟨⟨a1, a2, a3, a4⟩, ⟨a5, a6, a7, a8⟩, ⟨a9, aa, ab, ac⟩, _⟩ := HK.out wc HBC.out
  have HS2 := Lib.hid (same_f wc (.agg C8) (.agg Ca) Y ab ac HLY.out.1 HLY.out.2)
  clear a9 aa ab ac
  have her : (er == er) = true := by simp
  go_wp2_with fail
  refine HS2.out.mono ?_
  rintro e wd ⟨rfl, hbd⟩
  have HBD := Lib.hid (below_chain HBC.out hbd)
  clear a1 a2 a3 a4 a5 a6 a7 a8 hbd
  obtain ⟨⟨a1, a2, a3, a4⟩, ⟨a5, a6, a7, a8⟩, _, hbw⟩ := HK.out wd HBD.out
  have HBWD := Lib.hid hbw
  have her2 : (er2 == er2) = true := by simp
  have HZ1 := Lib.hid (size_f wd (n : Int) (by omega) (by omega))
  have HZ2 := Lib.hid (rsize_f wd (n : Int) (by omega) (by omega))
  clear hbw
  go_wp2_with fail
  refine HZ1.out.mono ?_
  rintro e wd' ⟨rfl, rfl⟩
  go_wp2_with fail
  refine HZ2.out.mono ?_
  rintro e wd'' ⟨rfl, rfl⟩
  have hz : (jsize (n : Int) == jsize (n : Int)) = true := by simp
  go_wp2_with fail
  go_ret
  exact ⟨rfl, HBWD.out⟩
end Go.Proofs.YtbhjigejpdbeiaaDoor
end

section
/-
  JournalAgain, walked: what is opened, and opened again, has the same records.
-/
namespace Go.Proofs.YtbhjigejpdbeiaaDoor
open Go.RowKit Go.Shelf
set_option linter.unusedVariables false
set_option maxRecDepth 8000

set_option maxHeartbeats 4000000 in
theorem law_again (w : World) (v : Value) (d : Dk) (hd : DiskAt w v d) (hL : Laid w) :
    Calls Tryd.prog 4 #[v] w fun e w' => e = .returned (.bool true) ∧ Below w.heap.size w w' := by
  obtain ⟨C, rfl, h4⟩ := hd.agg
  obtain ⟨w1, hw1⟩ : ∃ w1, w1 = w.alloc (.cells C 25) := ⟨_, rfl⟩
  obtain ⟨bb, hbb⟩ : ∃ bb, bb = w.heap.size := ⟨_, rfl⟩
  have HB1 := Lib.hid (show Below w.heap.size w w1 by rw [hw1]; exact (Below.refl _ _).alloc (Nat.le_refl _) _)
  have HV1 := Lib.hid (show DVar w1 bb C by rw [hw1, hbb]; exact dvar_new w h4)
  have HD := Lib.hid hd
  have HL := Lib.hid hL
  have HW := Lib.hid hw1
  have HBB := Lib.hid hbb
  clear hd hL hw1 hbb
  go_enter Tryd.func4, Tryd.ntmps4
  go_upto_region 1 with fail
  rw [← HW.out, ← HBB.out]
  go_wp2_with fail
  refine (alive15_f w1 (HL.out.below HB1.out HL.out.size)).mono ?_
  rintro e w2 ⟨rfl, hb2⟩
  have HB2 := Lib.hid (below_chain HB1.out hb2)
  have HV2 := Lib.hid (HV1.out.below hb2 HV1.out.lt)
  clear hb2
  have hl2 := HV2.out.load
  go_wp2_with fail
  refine (great15_f w2 (.agg C) d (HD.out.kept HB2.out (Nat.le_refl _))).mono ?_
  rintro e w3 ⟨rfl, hb3⟩
  have HB3 := Lib.hid (below_chain HB2.out hb3)
  have HV3 := Lib.hid (HV2.out.below hb3 HV2.out.lt)
  obtain ⟨gr, hgr⟩ : ∃ gr, gr = (decide (60 < d.secs.length) || decide (60 < d.loose.length)) := ⟨_, rfl⟩
  rw [← hgr]
  have HGR := Lib.hid hgr
  clear hb3 hl2 hgr
  cases gr
  case true =>
    go_wp2_with fail
    go_ret
    exact ⟨rfl, HB3.out⟩
  have HSM := Lib.hid (show d.secs.length ≤ 60 ∧ d.loose.length ≤ 60 by
    have := HGR.out
    simp at this
    omega)
  have hl3 := HV3.out.load
  go_wp2_with fail
  refine (arm_f w3 (.agg C) d (-1) (by omega) (by omega) (HD.out.kept HB3.out (Nat.le_refl _))).mono ?_
  rintro e w4 ⟨⟨u4, rfl, hg4⟩, hb4⟩
  obtain ⟨C4, rfl, hc4⟩ := hg4.1.agg
  have HD4 := Lib.hid hg4.1
  have HB4 := Lib.hid (below_chain HB3.out hb4)
  clear hg4 hb4 hl3
  obtain ⟨a, ha⟩ : ∃ a, a = d.arm (-1) := ⟨_, rfl⟩
  rw [← ha] at HD4
  have HA := Lib.hid (show a.secs.length ≤ 2000 ∧ a.loose.length ≤ 1000 ∧ a.fuse < 0 by
    have h1 : a.secs = d.secs := by rw [ha]; rfl
    have h2 : a.loose = d.loose := by rw [ha]; rfl
    have h3 : a.fuse = -1 := by rw [ha]; rfl
    have := HSM.out
    rw [h1, h2, h3]
    omega)
  clear ha
  go_wp2_with fail
  refine (open_f w4 (.agg C4) a HD4.out (HL.out.below HB4.out HL.out.size)).mono ?_
  rintro e w5 ⟨⟨u5, vr, he5, hg5, hr5⟩, hb5⟩
  have hr5 := hr5.at
  obtain ⟨x, l0, r, er, ho⟩ : ∃ x l r e, a.open_ = (x, l, r, e) := ⟨_, _, _, _, rfl⟩
  have HO := Lib.hid (Jp.again HA.out.1 HA.out.2.1 HA.out.2.2 ho)
  rw [ho] at he5 hg5 hr5
  obtain ⟨C5, rfl, hc5⟩ := hg5.1.agg
  have he5 : e = .returned (.tuple #[.agg C5, logV l0, vr, .int .i64 er]) := he5
  subst he5
  have HR5 := Lib.hid (show RecsAt w5 vr r from hr5)
  obtain ⟨A5, n5, c5, vs5, rfl, x1, x2, x3⟩ := hr5
  have HN5 := Lib.hid x1
  clear x1 x2 x3 ho
  obtain ⟨w6, o1, o2, hv6, hl6, hd6, hb6⟩ := two_new hc5 (show DiskAt w5 (.agg C5) x from hg5.1) l0
  have HB6 := Lib.hid (below_chain HB4.out (below_chain hb5 hb6))
  have HR6 := Lib.hid (HR5.out.kept hb6 (Nat.le_refl _))
  have HV6 := Lib.hid hv6
  have HD6 := Lib.hid hd6
  clear hg5 hb5 hb6 hv6 hl6 hd6
  go_upto_region 6 with fail
  clear o1 o2
  obtain ⟨b3, hb3⟩ : ∃ b3, b3 = w5.heap.size := ⟨_, rfl⟩
  rw [← hb3] at HV6 ⊢
  clear hb3
  by_cases her : er = 0
  case neg =>
    have hne : (er != 0) = true := by rw [bne_iff_ne]; exact her
    have hr0 : n5 = 0 := by rw [HN5.out, HO.out.1 her]; rfl
    subst hr0
    clear her
    go_wp2_with fail
    go_ret
    exact ⟨rfl, HB6.out⟩
  subst her
  obtain ⟨h, g, hpo, h8, hsl, hfu⟩ := HO.out.2 rfl
  have HPO := Lib.hid hpo
  have HX := Lib.hid (And.intro h8 hfu)
  have HAG := Lib.hid (Jp.again2 hpo h8 hfu)
  clear hpo h8 hsl hfu
  have hl6 := HV6.out.load
  go_wp2_with fail
  refine (open_f w6 (.agg C5) x HD6.out (HL.out.below HB6.out HL.out.size)).mono ?_
  rintro e w7 ⟨⟨u7, vs, he7, hg7, hr7⟩, hb7⟩
  have hr7 := hr7.at
  obtain ⟨C7, rfl, hc7⟩ := hg7.1.agg
  rcases HAG.out with hs | ⟨y, g', hs, hgg, hpo, hsl, hfu⟩
  · rw [hs] at he7 hg7 hr7
    have he7 : e = .returned (.tuple #[.agg C7, .agg #[.int .i64 0, .int .i64 0, .int .i64 0], vs, .int .i64 5]) := he7
    subst he7
    obtain ⟨A7, n7, c7, vs7, rfl, x1, x2, x3⟩ := hr7
    clear x1 x2 x3 hs
    obtain ⟨w8, o1, o2, hv8, hl8, hd8, hb8⟩ := two_new hc7 hg7.1 .zero
    have o2 : (logSet ⟨w7.heap.size + 1, 0, none⟩ (.agg #[.int .i64 0, .int .i64 0, .int .i64 0])).run Tryd.prog (putDisk ((w7.alloc (.cells #[.slice none 0 0, .slice none 0 0, .int .i64 0, .bool false] 25)).alloc (.cells #[.int .i64 0, .int .i64 0, .int .i64 0] 27)) w7.heap.size C7) = .ok () w8 := o2
    have HB8 := Lib.hid (below_chain HB6.out (below_chain hb7 hb8))
    clear hl6 hg7 hb7 hb8 hv8 hl8 hd8
    go_wp2_with fail
    go_ret
    exact ⟨rfl, HB8.out⟩
  rw [hs] at he7 hg7 hr7
  obtain ⟨l7, hl7⟩ : ∃ l7, l7 = Jp.logOf (1 - h) g' r := ⟨_, rfl⟩
  rw [← hl7] at he7
  have HL7 := Lib.hid hl7
  have he7 : e = .returned (.tuple #[.agg C7, logV l7, vs, .int .i64 0]) := he7
  subst he7
  have HR7 := Lib.hid (show RecsAt w7 vs r from hr7)
  obtain ⟨A7, n7, c7, vs7, rfl, x1, x2, x3⟩ := hr7
  have HAG2 := Lib.hid (Jp.again2 hpo (by rw [hsl]; exact HX.out.1) hfu)
  have HGG := Lib.hid hgg
  clear x1 x2 x3 hs hl7 hpo hsl hfu hgg
  obtain ⟨w8, o1, o2, hv8, hl8, hd8, hb8⟩ := two_new hc7 (show DiskAt w7 (.agg C7) y from hg7.1) l7
  have HB8 := Lib.hid (below_chain HB6.out (below_chain hb7 hb8))
  have HB68 := Lib.hid (below_chain hb7 hb8)
  have HR8 := Lib.hid (HR7.out.kept hb8 (Nat.le_refl _))
  have HV8 := Lib.hid hv8
  have HL8 := Lib.hid hl8
  have HD8 := Lib.hid hd8
  have HR68 := Lib.hid (HR6.out.kept HB68.out (Nat.le_refl _))
  clear hl6 hg7 hb7 hb8 hv8 hl8 hd8
  go_upto_region 11 with fail
  clear o1 o2
  obtain ⟨b7, hb7⟩ : ∃ b7, b7 = w7.heap.size := ⟨_, rfl⟩
  rw [← hb7] at HV8 HL8 ⊢
  clear hb7
  have hl8 := HV8.out.load
  go_wp2_with fail
  refine (open_f w8 (.agg C7) y HD8.out (HL.out.below HB8.out HL.out.size)).mono ?_
  rintro e w9 ⟨⟨u9, ts, he9, hg9, hr9⟩, hb9⟩
  have hr9 := hr9.at
  obtain ⟨C9, rfl, hc9⟩ := hg9.1.agg
  rcases HAG2.out with hs | ⟨z, g2, hs, hgg, hpo, hsl, hfu⟩
  · rw [hs] at he9 hg9 hr9
    have he9 : e = .returned (.tuple #[.agg C9, .agg #[.int .i64 0, .int .i64 0, .int .i64 0], ts, .int .i64 5]) := he9
    subst he9
    obtain ⟨A9, n9, c9, vs9, rfl, x1, x2, x3⟩ := hr9
    clear x1 x2 x3 hs
    obtain ⟨wa, o1, o2, hva, hla, hda, hba⟩ := two_new hc9 hg9.1 .zero
    have o2 : (logSet ⟨w9.heap.size + 1, 0, none⟩ (.agg #[.int .i64 0, .int .i64 0, .int .i64 0])).run Tryd.prog (putDisk ((w9.alloc (.cells #[.slice none 0 0, .slice none 0 0, .int .i64 0, .bool false] 25)).alloc (.cells #[.int .i64 0, .int .i64 0, .int .i64 0] 27)) w9.heap.size C9) = .ok () wa := o2
    have HBa := Lib.hid (below_chain HB8.out (below_chain hb9 hba))
    clear hl8 hg9 hb9 hba hva hla hda
    go_wp2_with fail
    go_ret
    exact ⟨rfl, HBa.out⟩
  rw [hs] at he9 hg9 hr9
  obtain ⟨l9, hl9⟩ : ∃ l9, l9 = Jp.logOf (1 - (1 - h)) g2 r := ⟨_, rfl⟩
  rw [← hl9] at he9
  have HL9 := Lib.hid hl9
  have he9 : e = .returned (.tuple #[.agg C9, logV l9, ts, .int .i64 0]) := he9
  subst he9
  have HR9 := Lib.hid (show RecsAt w9 ts r from hr9)
  obtain ⟨A9, n9, c9, vs9, rfl, x1, x2, x3⟩ := hr9
  have HGG2 := Lib.hid hgg
  have hh1 := HPO.out.half
  clear x1 x2 x3 hs hl9 hpo hsl hfu hgg
  obtain ⟨wa, o1, o2, hva, hla, hda, hba⟩ := two_new hc9 (show DiskAt w9 (.agg C9) z from hg9.1) l9
  have HB89 := Lib.hid (below_chain hb9 hba)
  have HBa := Lib.hid (below_chain HB8.out HB89.out)
  have HRA := Lib.hid (HR9.out.kept hba (Nat.le_refl _))
  have HLA := Lib.hid hla
  have HR7a := Lib.hid (HR8.out.kept HB89.out (Nat.le_refl _))
  have HR5a := Lib.hid (HR68.out.kept HB89.out (Nat.le_refl _))
  have HL8a := Lib.hid (HL8.out.on HB89.out HL8.out.lt)
  clear hl8 hg9 hb9 hba hva hla hda
  go_upto_region 14 with fail
  clear o1 o2
  obtain ⟨b9, hb9⟩ : ∃ b9, b9 = w9.heap.size := ⟨_, rfl⟩
  rw [← hb9] at HLA ⊢
  clear hb9
  have HS1 := Lib.hid (rsame15_f wa (.slice A5 n5 c5) (.slice A7 n7 c7) r r HR5a.out HR7a.out)
  have HDE := Lib.hid (show decide (r = r) = true by simp)
  go_wp2_with fail
  refine HS1.out.mono ?_
  rintro e wb ⟨rfl, hbb⟩
  rw [HDE.out]
  have HBb := Lib.hid (below_chain HBa.out hbb)
  have HLAb := Lib.hid (HLA.out.on hbb HLA.out.lt)
  have HL8b := Lib.hid (HL8a.out.on hbb HL8a.out.lt)
  have HS2 := Lib.hid (rsame15_f wb (.slice A7 n7 c7) (.slice A9 n9 c9) r r (HR7a.out.kept hbb (Nat.le_refl _)) (HRA.out.kept hbb (Nat.le_refl _)))
  clear hbb
  go_wp2_with fail
  refine HS2.out.mono ?_
  rintro e wc ⟨rfl, hbc⟩
  rw [HDE.out]
  have HBc := Lib.hid (below_chain HBb.out hbc)
  have HLAc := Lib.hid (HLAb.out.on hbc HLAb.out.lt)
  have HL8c := Lib.hid (HL8b.out.on hbc HL8b.out.lt)
  clear hbc
  obtain ⟨p0, p1, p2⟩ := HL8c.out.cells
  obtain ⟨q0, q1, q2⟩ := HLAc.out.cells
  have e0 : (l7.half != l9.half) = true := by
    rw [bne_iff_ne, HL7.out, HL9.out]
    simp only [Jp.logOf]
    omega
  have e1 : decide (l7.gen < l9.gen) = true := by
    rw [HL7.out, HL9.out]
    exact decide_eq_true HGG2.out
  have e2 : (l7.used == l9.used) = true := by
    rw [beq_iff_eq, HL7.out, HL9.out]
    rfl
  go_wp2_with fail
  go_ret
  exact ⟨rfl, HBc.out⟩
end Go.Proofs.YtbhjigejpdbeiaaDoor
end

section
/-
  JournalCompacts, walked: what the program compacts is what the reference does.
-/
namespace Go.Proofs.YtbhjigejpdbeiaaDoor
open Go.RowKit Go.Shelf
set_option linter.unusedVariables false
set_option maxRecDepth 8000

set_option maxHeartbeats 4000000 in
theorem law_compacts (w : World) (v : Value) (d : Dk) (hd : DiskAt w v d) (l : Dk.Log) (v2 : Value) (rs : List (List UInt8)) (hr : RecsAt w v2 rs) (hL : LaidR w) :
    Calls Tryd.prog 7 #[v, logV l, v2] w fun e w' => e = .returned (.bool true) ∧ Below w.heap.size w w' := by
  obtain ⟨C, rfl, h4⟩ := hd.agg
  have HRECS := Lib.hid hr
  obtain ⟨A, n, c, vs, rfl, hn, hrow, hset⟩ := hr
  have HSET := Lib.hid hset
  clear hset
  obtain ⟨w1, hw1⟩ : ∃ w1, w1 = (w.alloc (.cells C 25)).alloc (.cells #[.int .i64 l.half, .int .i64 l.gen, .int .i64 l.used] 27) := ⟨_, rfl⟩
  obtain ⟨bb, hbb⟩ : ∃ bb, bb = w.heap.size := ⟨_, rfl⟩
  have HB1 := Lib.hid (show Below w.heap.size w w1 by rw [hw1]; exact below_two _ _ _)
  have HV1 := Lib.hid (show DVar w1 bb C by rw [hw1, hbb]; exact (dvar_new w h4).below ((Below.refl (w.heap.size + 1) _).alloc (by simp) _) (by omega))
  have HG1 := Lib.hid (show LogAt w1 (bb + 1) l by
    have := logAt_new (w.alloc (.cells C 25)) l
    rw [size_alloc, ← hbb] at this
    rw [hw1]; exact this)
  have HD := Lib.hid hd
  have HN := Lib.hid hn
  have HROW := Lib.hid hrow
  have HL := Lib.hid hL
  have HW := Lib.hid hw1
  have HBB := Lib.hid hbb
  clear hd hn hrow hL hw1 hbb
  go_enter Tryd.func7, Tryd.ntmps7
  go_upto_region 1 with fail
  rw [← HW.out, ← HBB.out]
  go_wp2_with fail
  refine (alive15_f w1 (HL.out.toLaid.below HB1.out HL.out.size)).mono ?_
  rintro e w2 ⟨rfl, hb2⟩
  have HB2 := Lib.hid (below_chain HB1.out hb2)
  have HV2 := Lib.hid (HV1.out.below hb2 HV1.out.lt)
  have HG2 := Lib.hid (HG1.out.on hb2 HG1.out.lt)
  clear hb2
  have hN63 : (n : Int) ≤ 9223372036854775807 := by have := HROW.out.2.1; have := HROW.out.2.2.1; omega
  go_wp2_with fail
  go_loopw [7, 8] (fun us ix wr => ∃ k q : Nat, us = .int .i64 (q : Int) ∧ ix = .int .i64 (k : Int) ∧ k ≤ n ∧ n ≤ q ∧ (q ≤ n ∨ q ≤ 19000) ∧ Hid (q ≤ 9000 → ∀ i r, i < k → rs[i]? = some r → r.length ≤ 9000) ∧ wr = w2) (fun us ix wr => n - (intOf ix).toNat)
  case atStart => exact ⟨0, n, rfl, rfl, by omega, by omega, by omega, Lib.hid (fun _ i r hi => by omega), rfl⟩
  case round =>
    obtain ⟨k, q, rfl, rfl, hk, hnq, hq, HALL, rfl⟩ := hrel
    by_cases hlt : k < n ∧ q ≤ 9000
    case pos =>
      have hdn : decide (k < n) = true := by simp; omega
      have hdq : decide ((q : Int) ≤ 9000) = true := by simp; omega
      have hkl : k < rs.length := by have := HN.out; omega
      obtain ⟨r, hr⟩ : ∃ r, r = rs[k] := ⟨_, rfl⟩
      have HRK := Lib.hid (show rs[k]? = some r by rw [hr]; exact List.getElem?_eq_getElem hkl)
      clear hr
      obtain ⟨B, m, kk, hck, hm, hrowB, _⟩ := HSET.out.row k r HRK.out
      have HM := Lib.hid hm
      obtain ⟨b, o, rfl, hb, hX⟩ := row_at HROW.out (by omega)
      have hc0 : wr.cell? ⟨b, o + k, none⟩ = some (.slice B m kk) := by
        have := range_below hX HB2.out hb
        exact this k _ hck
      have hm63 : (m : Int) ≤ 9223372036854775807 := by have := hrowB.2.1; have := hrowB.2.2.1; omega
      clear hck hm hrowB hb hX
      by_cases hlong : m < 10000
      case pos =>
        have hdl : decide ((m : Int) < 10000) = true := by simp; omega
        have hmin : min (m : Int) 10000 = (m : Int) := by omega
        have hs2 : IntKind.i64.wrap ((q : Int) + (m : Int)) = (q : Int) + (m : Int) := IntWalk.i64_in _ (by omega)
        have hs3 : IntKind.i64.wrap ((k : Int) + 1) = (k : Int) + 1 := IntWalk.i64_in _ (by omega)
        go_wp2_with fail
        refine ⟨⟨k + 1, q + m, by simp, by simp, by omega, by omega, by omega, Lib.hid (fun h9 i r' hi hr' => ?_), trivial⟩, by simp [intOf]; omega⟩
        by_cases hik : i = k
        · subst hik
          rw [HRK.out] at hr'
          injection hr' with hr'
          rw [← hr', ← HM.out]; omega
        · exact HALL.out (by omega) i r' (by omega) hr'
      case neg =>
        have hdl : decide ((m : Int) < 10000) = false := by simp; omega
        have hmin : min (m : Int) 10000 = 10000 := by omega
        have hs2 : IntKind.i64.wrap ((q : Int) + 10000) = (q : Int) + 10000 := IntWalk.i64_in _ (by omega)
        have hs3 : IntKind.i64.wrap ((k : Int) + 1) = (k : Int) + 1 := IntWalk.i64_in _ (by omega)
        go_wp2_with fail
        have e : (if (10000 : Int) < (m : Int) then 10000 else (m : Int)) = 10000 := by split <;> omega
        rw [e]
        exact ⟨⟨k + 1, q + 10000, by simp, by simp, by omega, by omega, by omega, Lib.hid (fun h9 => by omega), trivial⟩, by simp [intOf]; omega⟩
    have HALLF := Lib.hid (show q ≤ 9000 → ∀ r ∈ rs, r.length ≤ 9000 from fun h9 r hr => by
      obtain ⟨i, hi⟩ := List.getElem?_of_mem hr
      have hlt2 := (List.getElem?_eq_some_iff.1 hi).1
      exact HALL.out h9 i r (by have := HN.out; omega) hi)
    have hl2 := HV2.out.load
    obtain ⟨kb, hkb⟩ : ∃ kb, kb = decide (k < n) := ⟨_, rfl⟩
    have HNQ := Lib.hid (And.intro hnq hq)
    cases kb
    case true =>
      have hkn : k < n := by simpa using hkb.symm
      have hdn : decide (k < n) = true := hkb.symm
      have hdq : decide ((q : Int) ≤ 9000) = false := by simp; omega
      have hdq2 : decide (9000 < (q : Int)) = true := by simp; omega
      clear hkb
      go_wp2_with fail
      refine (great15_f wr (.agg C) d (HD.out.kept HB2.out (Nat.le_refl _))).mono ?_
      rintro e w3 ⟨rfl, hb3⟩
      have HB3 := Lib.hid (below_chain HB2.out hb3)
      obtain ⟨gr, hgr⟩ : ∃ gr, gr = (decide (60 < d.secs.length) || decide (60 < d.loose.length)) := ⟨_, rfl⟩
      rw [← hgr]
      clear hb3 hgr
      cases gr
      all_goals
        go_wp2_with fail
        go_ret
        exact ⟨rfl, HB3.out⟩
    have hkn : ¬ k < n := by simpa using hkb.symm
    have hdn : decide (k < n) = false := hkb.symm
    clear hkb
    go_wp2_with fail
    refine (great15_f wr (.agg C) d (HD.out.kept HB2.out (Nat.le_refl _))).mono ?_
    rintro e w3 ⟨rfl, hb3⟩
    have HB3 := Lib.hid (below_chain HB2.out hb3)
    have HV3 := Lib.hid (HV2.out.below hb3 HV2.out.lt)
    have HG3 := Lib.hid (HG2.out.on hb3 HG2.out.lt)
    obtain ⟨gr, hgr⟩ : ∃ gr, gr = (decide (60 < d.secs.length) || decide (60 < d.loose.length)) := ⟨_, rfl⟩
    rw [← hgr]
    have HGR := Lib.hid hgr
    clear hb3 hl2 hgr
    cases gr
    case true =>
      go_wp2_with fail
      go_ret
      exact ⟨rfl, HB3.out⟩
    have HSM := Lib.hid (show d.secs.length ≤ 60 ∧ d.loose.length ≤ 60 by
      have := HGR.out
      simp at this
      omega)
    by_cases h9 : 9000 < q
    case pos =>
      have hdq2 : decide (9000 < (q : Int)) = true := by simp; omega
      go_wp2_with fail
      go_ret
      exact ⟨rfl, HB3.out⟩
    have hdq2 : decide (9000 < (q : Int)) = false := by simp; omega
    have HRL := Lib.hid (show rs.length ≤ 100000 ∧ ∀ r ∈ rs, r.length ≤ 100000000 from ⟨by have := HN.out; have := HNQ.out; omega, fun r hr => by have := HALLF.out (by omega) r hr; omega⟩)
    have hl3 := HV3.out.load
    have hg3 := HG3.out.load
    go_wp2_with fail
    refine (compact_f w3 (.agg C) d l (.slice A n c) rs (HD.out.kept HB3.out (Nat.le_refl _)) (HL.out.toLaid.below HB3.out HL.out.size) (by have := HSM.out; omega) HRL.out.1 HRL.out.2 (HRECS.out.kept HB3.out (Nat.le_refl _))).mono ?_
    rintro e w4 ⟨⟨u4, rfl, hgt4⟩, hb4⟩
    obtain ⟨C4, rfl, hc4⟩ := hgt4.1.agg
    obtain ⟨X, m, er, hX⟩ : ∃ X m er, d.compact l rs = (X, m, er) := ⟨_, _, _, rfl⟩
    have HX := Lib.hid hX
    rw [hX] at hgt4 ⊢
    clear hX hl3 hg3
    obtain ⟨w5, o1, o2, hv5, hl5, hd5', hb5⟩ := two_new hc4 hgt4.1 m
    have HB4 := Lib.hid hb4
    have HB5 := Lib.hid (below_chain hb4 hb5)
    clear hgt4 hb4 hb5
    have HV5 := Lib.hid hv5
    have HL5 := Lib.hid hl5
    have HD5 := Lib.hid hd5'
    clear hv5 hl5 hd5'
    go_upto_region 11 with fail
    clear o1 o2
    obtain ⟨b7, hb7⟩ : ∃ b7, b7 = w4.heap.size := ⟨_, rfl⟩
    rw [← hb7] at HV5 HL5 ⊢
    have HBW5 := Lib.hid (below_chain HB3.out HB5.out)
    have HVB5 := Lib.hid (HV3.out.below HB5.out HV3.out.lt)
    have HGB5 := Lib.hid (HG3.out.on HB5.out HG3.out.lt)
    clear hb7
    have hl5 := HVB5.out.load
    have hg5 := HGB5.out.load
    go_wp2_with fail
    refine (rcompact_f w5 (.agg C) d l (.slice A n c) rs (HD.out.kept HBW5.out (Nat.le_refl _)) (HL.out.below HBW5.out HL.out.size) (by have := HSM.out; omega) HRL.out.1 HRL.out.2 (HRECS.out.kept HBW5.out (Nat.le_refl _))).mono ?_
    rintro e w6 ⟨⟨u6, rfl, hgt6⟩, hb6⟩
    obtain ⟨C6, rfl, hc6⟩ := hgt6.1.agg
    rw [HX.out] at hgt6 ⊢
    clear hl5 hg5
    obtain ⟨w7, o1, o2, hv7, hl7, hd7, hb7⟩ := two_new hc6 hgt6.1 m
    have HB7 := Lib.hid (below_chain hb6 hb7)
    clear hgt6 hb6 hb7
    have HV7 := Lib.hid hv7
    have HL7 := Lib.hid hl7
    have HD7 := Lib.hid hd7
    clear hv7 hl7 hd7
    go_upto_region 12 with fail
    clear o1 o2
    obtain ⟨b10, hb10⟩ : ∃ b10, b10 = w6.heap.size := ⟨_, rfl⟩
    rw [← hb10] at HV7 HL7 ⊢
    have HBW7 := Lib.hid (below_chain HBW5.out HB7.out)
    have HV5b := Lib.hid (HV5.out.below HB7.out HV5.out.lt)
    have HL5b := Lib.hid (HL5.out.on HB7.out HL5.out.lt)
    have HD5b := Lib.hid (HD5.out.kept HB7.out (Nat.le_refl _))
    clear hb10
    have HLX := Lib.hid (show X.secs.length ≤ 1000000 ∧ X.loose.length ≤ 1000000 by
      have := compact_Len d l rs
      rw [HX.out] at this
      have h1 := this.secs
      have h2 := this.loose
      have := HSM.out
      have h3 : d.half = d.secs.length / 2 := rfl
      simp at h1 h2
      omega)
    have a1 := HV5b.out.load
    have a2 := HV7.out.load
    have HS1 := Lib.hid (same_f w7 (.agg C4) (.agg C6) X HD5b.out HD7.out HLX.out.1 HLX.out.2)
    go_wp2_with fail
    refine HS1.out.mono ?_
    rintro e wc ⟨rfl, hbc⟩
    have HBWC := Lib.hid (below_chain HBW7.out hbc)
    have g1 := (HL5b.out.on hbc HL5b.out.lt).load
    have g2 := (HL7.out.on hbc HL7.out.lt).load
    have her : (er == er) = true := by simp
    clear a1 a2 hbc
    go_wp2_with fail
    go_ret
    exact ⟨rfl, HBWC.out⟩
end Go.Proofs.YtbhjigejpdbeiaaDoor
end
