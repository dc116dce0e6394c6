/-
  JournalOpens, walked: what the program opens and reads back is what the reference does.
-/
import Derived.Test.YtbhjigejpdbeiaaDoorKWa
import Derived.Test.YtbhjigejpdbeiaaDoorOr
set_option linter.unusedSimpArgs false
set_option linter.unusedVariables false
namespace Go.Proofs.YtbhjigejpdbeiaaDoor
open Go.RowKit Go.Shelf
set_option linter.unusedVariables false
set_option maxRecDepth 8000

/-- What Records answers: records, generation, is there one. -/
def recO (d : Dk) (half : Int) : List (List UInt8) × Int × Bool := match d.records half with | none => ([], 0, false) | some (rs, g) => (rs, g, true)
theorem rec_any {d : Dk} {half : Int} {w w' : World} {e : Ending} (k : RecPost d half w e w') : ∃ v, e = .returned (.tuple #[v, .int .i64 (recO d half).2.1, .bool (recO d half).2.2]) ∧ Below w.heap.size w w' ∧ RecsAt w' v (recO d half).1 := by
  obtain ⟨hb, k⟩ := k
  unfold recO
  cases hu : d.records half with
  | none =>
    rw [hu] at k
    exact ⟨_, k, hb, recs_nil _⟩
  | some x =>
    obtain ⟨rs, g⟩ := x
    rw [hu] at k
    obtain ⟨v, rfl, hf⟩ := k
    exact ⟨v, rfl, hb, hf⟩
set_option maxHeartbeats 4000000 in
theorem law_opens (w : World) (v : Value) (d : Dk) (hd : DiskAt w v d) (half : Int) (hlo : -9223372036854775808 ≤ half) (hhi : half < 9223372036854775808) (hL : LaidR w) :
    Calls Tryd.prog 5 #[v, .int .i64 half] w fun e w' => e = .returned (.bool true) ∧ Below w.heap.size w w' := by
  obtain ⟨C, rfl, h4⟩ := hd.agg
  obtain ⟨w1, hw1⟩ : ∃ w1, w1 = w.alloc (.cells C 25) := ⟨_, rfl⟩
  obtain ⟨bb, hbb⟩ : ∃ bb, bb = w.heap.size := ⟨_, rfl⟩
  have HB1 := Lib.hid (show Below w.heap.size w w1 by rw [hw1]; exact (Below.refl _ _).alloc (Nat.le_refl _) _)
  have HV1 := Lib.hid (show DVar w1 bb C by rw [hw1, hbb]; exact dvar_new w h4)
  have HD := Lib.hid hd
  have HL := Lib.hid hL
  have HW := Lib.hid hw1
  have HBB := Lib.hid hbb
  clear hd hL hw1 hbb
  go_enter Tryd.func5, Tryd.ntmps5
  go_upto_region 1 with fail
  rw [← HW.out, ← HBB.out]
  go_wp2_with fail
  refine (alive15_f w1 (HL.out.toLaid.below HB1.out HL.out.size)).mono ?_
  rintro e w2 ⟨rfl, hb2⟩
  have HB2 := Lib.hid (below_chain HB1.out hb2)
  have HV2 := Lib.hid (HV1.out.below hb2 HV1.out.lt)
  clear hb2
  have hl2 := HV2.out.load
  go_wp2_with fail
  refine (great15_f w2 (.agg C) d (HD.out.kept HB2.out (Nat.le_refl _))).mono ?_
  rintro e w3 ⟨rfl, hb3⟩
  have HB3 := Lib.hid (below_chain HB2.out hb3)
  have HV3 := Lib.hid (HV2.out.below hb3 HV2.out.lt)
  obtain ⟨gr, hgr⟩ : ∃ gr, gr = (decide (60 < d.secs.length) || decide (60 < d.loose.length)) := ⟨_, rfl⟩
  rw [← hgr]
  have HGR := Lib.hid hgr
  clear hb3 hl2 hgr
  cases gr
  case true =>
    go_wp2_with fail
    go_ret
    exact ⟨rfl, HB3.out⟩
  have HSM := Lib.hid (show d.secs.length ≤ 60 ∧ d.loose.length ≤ 60 by
    have := HGR.out
    simp at this
    omega)
  have hl3 := HV3.out.load
  have HCP := Lib.hid (copy_disk w3 (.agg C) d (HD.out.kept HB3.out (Nat.le_refl _)) (by have := HSM.out; omega) (by have := HSM.out; omega))
  go_wp2_with fail
  refine HCP.out.mono ?_
  rintro e w4 ⟨⟨u4, rfl, hgt4⟩, hb4⟩
  obtain ⟨C4, rfl, hc4⟩ := hgt4.1.agg
  have hwn := (Below.refl w4.heap.size w4).alloc (Nat.le_refl _) (.cells C4 25)
  have hdv := dvar_new w4 hc4
  have hdk := hgt4.1.kept hwn (Nat.le_refl _)
  have hst := store_disk_new w4 C4 hc4
  obtain ⟨w5, hw5⟩ : ∃ w5, w5 = w4.alloc (.cells C4 25) := ⟨_, rfl⟩
  rw [← hw5] at hwn hdv hdk hst
  have HB5 := Lib.hid (below_chain hb4 hwn)
  have HV5 := Lib.hid hdv
  have HD5 := Lib.hid hdk
  have HW5 := Lib.hid hw5
  clear hgt4 hb4 hwn hdv hdk hl3 hw5
  go_upto_region 6 with fail
  try rw [← HW5.out]
  clear hst
  obtain ⟨b5, hb5⟩ : ∃ b5, b5 = w4.heap.size := ⟨_, rfl⟩
  rw [← hb5] at HV5 ⊢
  clear hb5
  have HBW5 := Lib.hid (below_chain HB3.out HB5.out)
  have HVB5 := Lib.hid (HV3.out.below HB5.out HV3.out.lt)
  have hl5 := HV5.out.load
  have HOP := Lib.hid (open_f w5 (.agg C4) d HD5.out (HL.out.toLaid.below HBW5.out HL.out.size))
  obtain ⟨X, m, rs, er, hX⟩ : ∃ X m rs er, d.open_ = (X, m, rs, er) := ⟨_, _, _, _, rfl⟩
  have HX := Lib.hid hX
  rw [hX] at HOP
  clear hX
  go_wp2_with fail
  refine HOP.out.mono ?_
  rintro e w6 ⟨⟨u6, vr, rfl, hgt6, hr6⟩, hb6⟩
  have hr6 := hr6.at
  obtain ⟨C6, rfl, hc6⟩ := hgt6.1.agg
  clear hl5
  obtain ⟨w7, o1, o2, hv7, hl7, hd7, hb7⟩ := two_new hc6 hgt6.1 m
  have HB7 := Lib.hid (below_chain hb6 hb7)
  have HR7 := Lib.hid (hr6.kept hb7 (Nat.le_refl _))
  clear hgt6 hb6 hb7 hr6
  have HV7 := Lib.hid hv7
  have HL7 := Lib.hid hl7
  have HD7 := Lib.hid hd7
  clear hv7 hl7 hd7
  go_upto_region 7 with fail
  clear o1 o2
  obtain ⟨b7, hb7⟩ : ∃ b7, b7 = w6.heap.size := ⟨_, rfl⟩
  rw [← hb7] at HV7 HL7 ⊢
  clear hb7
  have HBW7 := Lib.hid (below_chain HBW5.out HB7.out)
  have HVB7 := Lib.hid (HVB5.out.below HB7.out HVB5.out.lt)
  have HV5b := Lib.hid (HV5.out.below HB7.out HV5.out.lt)
  have HD5b := Lib.hid (HD5.out.kept HB7.out (Nat.le_refl _))
  have hl7 := HVB7.out.load
  have HRO := Lib.hid (ropen_f w7 (.agg C) d (HD.out.kept HBW7.out (Nat.le_refl _)) (HL.out.below HBW7.out HL.out.size))
  rw [HX.out] at HRO
  go_wp2_with fail
  refine HRO.out.mono ?_
  rintro e w8 ⟨⟨u8, vs, rfl, hgt8, hr8⟩, hb8⟩
  have hr8 := hr8.at
  obtain ⟨C8, rfl, hc8⟩ := hgt8.1.agg
  clear hl7
  obtain ⟨w9, o1, o2, hv9, hl9, hd9, hb9⟩ := two_new hc8 hgt8.1 m
  have HB9 := Lib.hid (below_chain hb8 hb9)
  have HR9 := Lib.hid (hr8.kept hb9 (Nat.le_refl _))
  clear hgt8 hb8 hb9 hr8
  have HV9 := Lib.hid hv9
  have HL9 := Lib.hid hl9
  have HD9 := Lib.hid hd9
  clear hv9 hl9 hd9
  go_upto_region 8 with fail
  clear o1 o2
  obtain ⟨b9, hb9⟩ : ∃ b9, b9 = w8.heap.size := ⟨_, rfl⟩
  rw [← hb9] at HV9 HL9 ⊢
  clear hb9
  have HBW9 := Lib.hid (below_chain HBW7.out HB9.out)
  have HK := Lib.hid (show ∀ W, Below w9.heap.size w9 W → ((diskVar ⟨bb, 0, none⟩).run Tryd.prog W = .ok (.agg C) W ∧ (diskVar ⟨b5, 0, none⟩).run Tryd.prog W = .ok (.agg C4) W ∧ (diskVar ⟨b7, 0, none⟩).run Tryd.prog W = .ok (.agg C6) W ∧ (diskVar ⟨b9, 0, none⟩).run Tryd.prog W = .ok (.agg C8) W) ∧
      ((logVar ⟨b7 + 1, 0, none⟩).run Tryd.prog W = .ok (logV m) W ∧ (logVar ⟨b9 + 1, 0, none⟩).run Tryd.prog W = .ok (logV m) W) ∧
      (DiskAt W (.agg C) d ∧ DiskAt W (.agg C4) d ∧ DiskAt W (.agg C6) X ∧ DiskAt W (.agg C8) X) ∧ (RecsAt W vr rs ∧ RecsAt W vs rs) ∧ Below w.heap.size w W from fun W hW => by
    have k0 := HVB7.out.below HB9.out HVB7.out.lt
    have k1 := HV5b.out.below HB9.out HV5b.out.lt
    have k2 := HV7.out.below HB9.out HV7.out.lt
    have g1 := HL7.out.on HB9.out HL7.out.lt
    have d1 := HD5b.out.kept HB9.out (Nat.le_refl _)
    have d2 := HD7.out.kept HB9.out (Nat.le_refl _)
    have r1 := HR7.out.kept HB9.out (Nat.le_refl _)
    exact ⟨⟨(k0.below hW k0.lt).load, (k1.below hW k1.lt).load, (k2.below hW k2.lt).load, (HV9.out.below hW HV9.out.lt).load⟩,
      ⟨(g1.on hW g1.lt).load, (HL9.out.on hW HL9.out.lt).load⟩,
      ⟨(HD.out.kept HBW9.out (Nat.le_refl _)).kept hW (Nat.le_refl _), d1.kept hW (Nat.le_refl _), d2.kept hW (Nat.le_refl _), HD9.out.kept hW (Nat.le_refl _)⟩,
      ⟨r1.kept hW (Nat.le_refl _), HR9.out.kept hW (Nat.le_refl _)⟩, below_chain HBW9.out hW⟩)
  have HLX := Lib.hid (show X.secs.length ≤ 1000000 ∧ X.loose.length ≤ 1000000 by
    have := open_Len d
    rw [HX.out] at this
    have h1 := this.secs
    have h2 := this.loose
    have h3 : d.half = d.secs.length / 2 := rfl
    have := HSM.out
    simp at h1 h2
    omega)
  have HLD := Lib.hid (show d.secs.length ≤ 1000000 ∧ d.loose.length ≤ 1000000 by have := HSM.out; omega)
  obtain ⟨rx, gx, ox, hrx⟩ : ∃ a b c, recO d half = (a, b, c) := ⟨_, _, _, rfl⟩
  have HRX := Lib.hid hrx
  clear hrx
  obtain ⟨⟨a1, a2, a3, a4⟩, _, ⟨a7, a8, _, _⟩, _, a9⟩ := HK.out w9 (Below.refl _ _)
  have HS1 := Lib.hid (records_f w9 (.agg C4) d half a8 (HL.out.toLaid.below a9 HL.out.size))
  clear a7 a8 a9
  go_wp2_with fail
  refine HS1.out.mono ?_
  rintro e wa hp
  obtain ⟨va, rfl, hba, hra⟩ := rec_any hp
  rw [HRX.out] at hra ⊢
  have HBA := Lib.hid hba
  have HRA := Lib.hid hra
  clear a1 a2 a3 a4 hba hra hp
  obtain ⟨⟨a1, a2, a3, a4⟩, _, ⟨a7, a8, _, _⟩, _, a9⟩ := HK.out wa HBA.out
  have HS2 := Lib.hid (rrecords_f wa (.agg C) d half a7 (HL.out.below a9 HL.out.size))
  clear a7 a8 a9
  go_wp2_with fail
  refine HS2.out.mono ?_
  rintro e wb hp
  obtain ⟨vb, rfl, hbb, hrb⟩ := rec_any hp
  rw [HRX.out] at hrb ⊢
  have HBB2 := Lib.hid (below_chain HBA.out hbb)
  have HRB := Lib.hid hrb
  have HRA2 := Lib.hid (HRA.out.kept hbb (Nat.le_refl _))
  clear a1 a2 a3 a4 hbb hrb hp
  obtain ⟨⟨a1, a2, a3, a4⟩, ⟨a5, a6⟩, ⟨_, _, a7, a8⟩, _, _⟩ := HK.out wb HBB2.out
  have HS3 := Lib.hid (same_f wb (.agg C6) (.agg C8) X a7 a8 HLX.out.1 HLX.out.2)
  clear a7 a8
  go_wp2_with fail
  refine HS3.out.mono ?_
  rintro e wc ⟨rfl, hbc⟩
  have HBC := Lib.hid (below_chain HBB2.out hbc)
  have HRB3 := Lib.hid (HRB.out.kept hbc (Nat.le_refl _))
  have HRA3 := Lib.hid (HRA2.out.kept hbc (Nat.le_refl _))
  clear a1 a2 a3 a4 a5 a6 hbc
  obtain ⟨⟨a1, a2, a3, a4⟩, ⟨a5, a6⟩, _, ⟨a7, a8⟩, _⟩ := HK.out wc HBC.out
  have HS4 := Lib.hid (show Calls Tryd.prog 20 #[vr, vs] wc fun e w' => e = .returned (.bool true) ∧ Below wc.heap.size wc w' by
    have := rsame15_f wc vr vs rs rs a7 a8
    rwa [decide_eq_true rfl] at this)
  clear a7 a8
  go_wp2_with fail
  refine HS4.out.mono ?_
  rintro e wd ⟨rfl, hbd⟩
  have HBD := Lib.hid (below_chain HBC.out hbd)
  have HRB4 := Lib.hid (HRB3.out.kept hbd (Nat.le_refl _))
  have HRA4 := Lib.hid (HRA3.out.kept hbd (Nat.le_refl _))
  clear a1 a2 a3 a4 a5 a6 hbd
  have her : (er == er) = true := by simp
  have HS5 := Lib.hid (show Calls Tryd.prog 20 #[va, vb] wd fun e w' => e = .returned (.bool true) ∧ Below wd.heap.size wd w' by
    have := rsame15_f wd va vb rx rx HRA4.out HRB4.out
    rwa [decide_eq_true rfl] at this)
  go_wp2_with fail
  refine HS5.out.mono ?_
  rintro e we ⟨rfl, hbe⟩
  have HBE := Lib.hid (below_chain HBD.out hbe)
  clear hbe
  obtain ⟨⟨a1, a2, a3, a4⟩, ⟨a5, a6⟩, ⟨a7, a8, _, _⟩, _, _⟩ := HK.out we HBE.out
  have HS6 := Lib.hid (same_f we (.agg C4) (.agg C) d a8 a7 HLD.out.1 HLD.out.2)
  have hgx : (gx == gx) = true := by simp
  have hox : (ox == ox) = true := by simp
  clear a7 a8
  go_wp2_with fail
  refine HS6.out.mono ?_
  rintro e wf ⟨rfl, hbf⟩
  have HBF := Lib.hid (below_chain HBE.out hbf)
  obtain ⟨_, _, _, _, a9⟩ := HK.out wf HBF.out
  have HBW := Lib.hid a9
  clear a1 a2 a3 a4 a5 a6 a9 hbf
  go_wp2_with fail
  go_ret
  exact ⟨rfl, HBW.out⟩
end Go.Proofs.YtbhjigejpdbeiaaDoor
