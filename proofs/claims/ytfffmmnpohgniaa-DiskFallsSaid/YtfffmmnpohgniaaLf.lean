/-
  DiskFalls, walked.
-/
import Derived.Test.YtfffmmnpohgniaaLb
import Derived.Deep.RegionHeld3
namespace Go.Proofs.Ytfffmmnpohgniaa
open Go.RowKit
set_option linter.unusedVariables false

set_option maxHeartbeats 1000000 in
theorem law_falls (w : World) (v : Value) (d : Dk) (h : DiskAt w v d) (u : Value) (fates : List (UInt8 × UInt8)) (hu : FatesAt w u fates) (f : Int) (f0 : -9223372036854775808 ≤ f) (f1 : f < 9223372036854775808) :
    Calls Try.prog 6 #[v, u, .int .i64 f] w fun e w' => e = .returned (.bool true) ∧ Below w.heap.size w w' := by
  obtain ⟨C, rfl, hc⟩ := h.agg
  obtain ⟨AF, nf, cf, rfl, hnf, hrf⟩ := hu
  have HF0 := Lib.hid (show FatesAt w (.slice AF nf cf) fates from ⟨AF, nf, cf, rfl, hnf, hrf⟩)
  have HNF := Lib.hid hnf
  clear hnf hrf
  have HBa := Lib.hid (below_new w (Obj.cells C 25))
  have HDa := Lib.hid (h.step HBa.out)
  have HVa := Lib.hid (dvar_new w hc)
  have HFa := Lib.hid (HF0.out.kept HBa.out (Nat.le_refl _))
  clear h
  go_enter Try.func6, Try.ntmps6
  go_wp2_with fail
  refine (alive_f _).mono ?_
  rintro e w1 ⟨rfl, hb1⟩
  have HB1 := Lib.hid hb1
  clear hb1
  have hl := (HVa.out.step HB1.out).load
  go_wp2_with fail
  clear hl
  refine (great_d w1 _ d (HDa.out.step HB1.out)).mono ?_
  rintro e w2 ⟨rfl, hb2⟩
  have HB2 := Lib.hid (below_chain HB1.out hb2)
  clear hb2
  cases hgr : (decide (100 < d.secs.length) || decide (100 < d.loose.length)) with
  | true =>
    clear hgr
    go_wp2
    go_ret
    exact ⟨rfl, below_chain HBa.out HB2.out⟩
  | false =>
  have HL := Lib.hid (show d.secs.length ≤ 100 ∧ d.loose.length ≤ 100 by simpa using hgr)
  clear hgr
  by_cases hn2 : 200 < nf
  · go_wp2
    go_ret
    exact ⟨rfl, below_chain HBa.out HB2.out⟩
  have HFL := Lib.hid (show fates.length ≤ 1000000 by have := HNF.out; omega)
  have HV2 := Lib.hid (HVa.out.step HB2.out)
  have HD2 := Lib.hid (HDa.out.step HB2.out)
  have HF2 := Lib.hid (HFa.out.kept HB2.out (Nat.le_refl _))
  have HBw2 := Lib.hid (below_chain HBa.out HB2.out)
  clear HVa HDa HFa HF0
  have hl := HV2.out.load
  go_wp2_with fail
  clear hl
  refine (copy_disk w2 _ d HD2.out (by have := HL.out; omega) (by have := HL.out; omega)).mono ?_
  rintro e w3 ⟨⟨u, rfl, hg⟩, hb3⟩
  obtain ⟨C7, rfl, hc7, hd7⟩ := disk_step hg
  have hx := below_new w3 (Obj.cells C7 25)
  have hxx := below_chain hb3 hx
  have HD7 := Lib.hid (hd7.step hx)
  have HV7 := Lib.hid (dvar_new w3 hc7)
  have HV3 := Lib.hid (HV2.out.step hxx)
  have HD3 := Lib.hid (HD2.out.step hxx)
  have HF3 := Lib.hid (HF2.out.kept hxx (Nat.le_refl _))
  have HBw3 := Lib.hid (below_chain HBw2.out hxx)
  clear hg hb3 hd7 hx hxx HV2 HD2 HF2
  go_wp2_with fail
  refine (fall_f _ (.agg C7) (.slice AF nf cf) d fates f f0 f1 HFL.out HD7.out HF3.out).mono ?_
  rintro e w4 ⟨⟨u, rfl, hg⟩, hb4⟩
  obtain ⟨C8, rfl, hc8, hd8⟩ := disk_step hg
  have hx := below_new w4 (Obj.cells C8 25)
  have hxx := below_chain hb4 hx
  have HD8 := Lib.hid (hd8.step hx)
  have HV8 := Lib.hid (dvar_new w4 hc8)
  have HV4 := Lib.hid (HV3.out.step hxx)
  have HD4 := Lib.hid (HD3.out.step hxx)
  have HF4 := Lib.hid (HF3.out.kept hxx (Nat.le_refl _))
  have HV74 := Lib.hid (HV7.out.step hxx)
  have HD74 := Lib.hid (HD7.out.step hxx)
  have HBw4 := Lib.hid (below_chain HBw3.out hxx)
  clear hg hb4 hd8 hx hxx HV3 HD3 HF3 HV7 HD7
  have hl := HV4.out.load
  go_wp2_with fail
  clear hl
  refine (rfall_f _ (.agg C) (.slice AF nf cf) d fates f f0 f1 HFL.out HD4.out HF4.out).mono ?_
  rintro e w5 ⟨⟨u, rfl, hg⟩, hb5⟩
  obtain ⟨C10, rfl, hc10, hd10⟩ := disk_step hg
  have hx := below_new w5 (Obj.cells C10 25)
  have hxx := below_chain hb5 hx
  have HD10 := Lib.hid (hd10.step hx)
  have HV10 := Lib.hid (dvar_new w5 hc10)
  have HV5 := Lib.hid (HV4.out.step hxx)
  have HD5 := Lib.hid (HD4.out.step hxx)
  have HV75 := Lib.hid (HV74.out.step hxx)
  have HD75 := Lib.hid (HD74.out.step hxx)
  have HV85 := Lib.hid (HV8.out.step hxx)
  have HD85 := Lib.hid (HD8.out.step hxx)
  have HBw5 := Lib.hid (below_chain HBw4.out hxx)
  clear hg hb5 hd10 hx hxx HV4 HD4 HF4 HV74 HD74 HV8 HD8
  have hl := HV75.out.load
  go_wp2_with fail
  clear hl
  refine (sync_f _ (.agg C7) d HD75.out).mono ?_
  rintro e w6 ⟨⟨u, rfl, hg⟩, hb6⟩
  obtain ⟨C12, rfl, hc12, hd12⟩ := disk_step hg
  have hx := below_new w6 (Obj.cells C12 25)
  have hxx := below_chain hb6 hx
  have HD12 := Lib.hid (hd12.step hx)
  have HV12 := Lib.hid (dvar_new w6 hc12)
  have HV6 := Lib.hid (HV5.out.step hxx)
  have HD6 := Lib.hid (HD5.out.step hxx)
  have HV76 := Lib.hid (HV75.out.step hxx)
  have HD76 := Lib.hid (HD75.out.step hxx)
  have HV86 := Lib.hid (HV85.out.step hxx)
  have HD86 := Lib.hid (HD85.out.step hxx)
  have HV106 := Lib.hid (HV10.out.step hxx)
  have HD106 := Lib.hid (HD10.out.step hxx)
  have HBw6 := Lib.hid (below_chain HBw5.out hxx)
  clear hg hb6 hd12 hx hxx HV5 HD5 HV75 HD75 HV85 HD85 HV10 HD10
  have hl := HV6.out.load
  go_wp2_with fail
  clear hl
  refine (rsync_f _ (.agg C) d HD6.out).mono ?_
  rintro e w7 ⟨⟨u, rfl, hg⟩, hb7⟩
  obtain ⟨C14, rfl, hc14, hd14⟩ := disk_step hg
  obtain ⟨W7, hW7⟩ : ∃ W7, W7 = w7.alloc (Obj.cells C14 25) := ⟨_, rfl⟩
  have hx : Below w7.heap.size w7 W7 := by rw [hW7]; exact below_new w7 _
  have hxx := below_chain hb7 hx
  have HD14 := Lib.hid (hd14.step hx)
  have HV14 := Lib.hid (show DVar W7 w7.heap.size C14 by rw [hW7]; exact dvar_new w7 hc14)
  have HV7 := Lib.hid (HV6.out.step hxx)
  have HD7 := Lib.hid (HD6.out.step hxx)
  have HV77 := Lib.hid (HV76.out.step hxx)
  have HD77 := Lib.hid (HD76.out.step hxx)
  have HV87 := Lib.hid (HV86.out.step hxx)
  have HD87 := Lib.hid (HD86.out.step hxx)
  have HV107 := Lib.hid (HV106.out.step hxx)
  have HD107 := Lib.hid (HD106.out.step hxx)
  have HV127 := Lib.hid (HV12.out.step hxx)
  have HD127 := Lib.hid (HD12.out.step hxx)
  have HBw7 := Lib.hid (below_chain HBw6.out hxx)
  have HW7 := Lib.hid hW7
  have HLF := Lib.hid (fall_len d fates f)
  have HLS := Lib.hid (sync_len d)
  clear hg hb7 hd14 hx hxx HV6 HD6 HV76 HD76 HV86 HD86 HV106 HD106 HV12 HD12 hW7
  generalize (d.fall fates f).2 = q at *
  generalize (d.fall fates f).1 = df at *
  generalize d.sync.2 = r at *
  generalize d.sync.1 = ds at *
  go_wp2_with fail
  rw [← HW7.out]
  clear HW7
  have HK := Lib.hid (show ∀ W, Below W7.heap.size W7 W → (diskVar ⟨w4.heap.size, 0, none⟩).run Try.prog W = .ok (.agg C8) W ∧ (diskVar ⟨w5.heap.size, 0, none⟩).run Try.prog W = .ok (.agg C10) W ∧ (diskVar ⟨w6.heap.size, 0, none⟩).run Try.prog W = .ok (.agg C12) W ∧ (diskVar ⟨w7.heap.size, 0, none⟩).run Try.prog W = .ok (.agg C14) W ∧ (diskVar ⟨w3.heap.size, 0, none⟩).run Try.prog W = .ok (.agg C7) W ∧ (diskVar ⟨w.heap.size, 0, none⟩).run Try.prog W = .ok (.agg C) W from
    fun W hW => ⟨(HV87.out.step hW).load, (HV107.out.step hW).load, (HV127.out.step hW).load, (HV14.out.step hW).load, (HV77.out.step hW).load, (HV7.out.step hW).load⟩)
  have hb0 : Below W7.heap.size W7 W7.drew := (Below.refl _ _).drew
  have hqq : (q == q) = true := by simp
  have hrr : (r == r) = true := by simp
  refine wp_region_held_drew (S := fun W => (diskVar ⟨w4.heap.size, 0, none⟩).run Try.prog W = .ok (.agg C8) W ∧ (diskVar ⟨w5.heap.size, 0, none⟩).run Try.prog W = .ok (.agg C10) W ∧ (diskVar ⟨w6.heap.size, 0, none⟩).run Try.prog W = .ok (.agg C12) W ∧ (diskVar ⟨w7.heap.size, 0, none⟩).run Try.prog W = .ok (.agg C14) W ∧ (diskVar ⟨w3.heap.size, 0, none⟩).run Try.prog W = .ok (.agg C7) W ∧ (diskVar ⟨w.heap.size, 0, none⟩).run Try.prog W = .ok (.agg C) W) (by kernel_rfl) (HK.out _ hb0) (fun hHeld => ?_)
  refine' wpAnyH_take (i := 0) (v := _) rfl (by kernel_rfl) (by kernel_rfl) (by kernel_rfl) (fun _ _ _ h => h) (Or.inl ⟨by rfl, ?hy0⟩) (by assumption) ?rest0
  case hy0 => (intro w hSw; (try dsimp only at hSw); go_simp; try with_reducible rfl)
  try simp only [Act.put, List.getElem_toArray, List.getElem_cons_zero, List.getElem_cons_succ, List.setIfInBounds_toArray, List.set_cons_zero, List.set_cons_succ]
  refine' wpAnyH_take (i := 1) (v := _) rfl (by kernel_rfl) (by kernel_rfl) (by kernel_rfl) (fun _ _ _ h => h) (Or.inl ⟨by rfl, ?hy1⟩) (by assumption) ?rest1
  case hy1 => (intro w hSw; (try dsimp only at hSw); go_simp; try with_reducible rfl)
  try simp only [Act.put, List.getElem_toArray, List.getElem_cons_zero, List.getElem_cons_succ, List.setIfInBounds_toArray, List.set_cons_zero, List.set_cons_succ]
  refine wpAnyH_ready (rs := [2]) (by kernel_rfl) (by simp) (AllReadyH.cons rfl (fun K hK => ?_) AllReadyH.nil)
  go_simp
  refine (same_b (v := .agg C8) (v' := .agg C10) (W0 := W7) (by assumption) HD87.out HD107.out (by have := HLF.out; have := HL.out; omega) (by have := HLF.out; have := HL.out; omega)).mono ?_
  rintro e w' ⟨rfl, hbb⟩
  refine hK.out _ _ (HK.out _ (by assumption)) (fun hHeld => ?_)
  clear hK K
  try simp only [Act.put, List.getElem_toArray, List.getElem_cons_zero, List.getElem_cons_succ, List.setIfInBounds_toArray, List.set_cons_zero, List.set_cons_succ]
  refine' wpAnyH_take (i := 3) (v := _) rfl (by kernel_rfl) (by kernel_rfl) (by kernel_rfl) (fun _ _ _ h => h) (Or.inl ⟨by rfl, ?hy3⟩) (by assumption) ?rest3
  case hy3 => (intro w hSw; (try dsimp only at hSw); go_simp; try with_reducible rfl)
  try simp only [Act.put, List.getElem_toArray, List.getElem_cons_zero, List.getElem_cons_succ, List.setIfInBounds_toArray, List.set_cons_zero, List.set_cons_succ]
  refine' wpAnyH_take (i := 4) (v := _) rfl (by kernel_rfl) (by kernel_rfl) (by kernel_rfl) (fun _ _ _ h => h) (Or.inl ⟨by rfl, ?hy4⟩) (by assumption) ?rest4
  case hy4 => (intro w hSw; (try dsimp only at hSw); go_simp; try with_reducible rfl)
  try simp only [Act.put, List.getElem_toArray, List.getElem_cons_zero, List.getElem_cons_succ, List.setIfInBounds_toArray, List.set_cons_zero, List.set_cons_succ]
  refine' wpAnyH_take (i := 5) (v := _) rfl (by kernel_rfl) (by kernel_rfl) (by kernel_rfl) (fun _ _ _ h => h) (Or.inl ⟨by rfl, ?hy5⟩) (by assumption) ?rest5
  case hy5 => (intro w hSw; (try dsimp only at hSw); go_simp; try with_reducible rfl)
  try simp only [Act.put, List.getElem_toArray, List.getElem_cons_zero, List.getElem_cons_succ, List.setIfInBounds_toArray, List.set_cons_zero, List.set_cons_succ]
  refine' wpAnyH_take (i := 6) (v := _) rfl (by kernel_rfl) (by kernel_rfl) (by kernel_rfl) (fun _ _ _ h => h) (Or.inl ⟨by rfl, ?hy6⟩) (by assumption) ?rest6
  case hy6 => (intro w hSw; (try dsimp only at hSw); go_simp; try with_reducible rfl)
  try simp only [Act.put, List.getElem_toArray, List.getElem_cons_zero, List.getElem_cons_succ, List.setIfInBounds_toArray, List.set_cons_zero, List.set_cons_succ]
  refine' wpAnyH_take (i := 7) (v := _) rfl (by kernel_rfl) (by kernel_rfl) (by kernel_rfl) (fun _ _ _ h => h) (Or.inl ⟨by rfl, ?hy7⟩) (by assumption) ?rest7
  case hy7 => (intro w hSw; (try dsimp only at hSw); go_simp; try with_reducible rfl)
  try simp only [Act.put, List.getElem_toArray, List.getElem_cons_zero, List.getElem_cons_succ, List.setIfInBounds_toArray, List.set_cons_zero, List.set_cons_succ]
  refine' wpAnyH_take (i := 8) (v := _) rfl (by kernel_rfl) (by kernel_rfl) (by kernel_rfl) (fun _ _ _ h => h) (Or.inl ⟨by rfl, ?hy8⟩) (by assumption) ?rest8
  case hy8 => (intro w hSw; (try dsimp only at hSw); go_simp; try with_reducible rfl)
  try simp only [Act.put, List.getElem_toArray, List.getElem_cons_zero, List.getElem_cons_succ, List.setIfInBounds_toArray, List.set_cons_zero, List.set_cons_succ]
  refine' wpAnyH_take (i := 9) (v := _) rfl (by kernel_rfl) (by kernel_rfl) (by kernel_rfl) (fun _ _ _ h => h) (Or.inl ⟨by rfl, ?hy9⟩) (by assumption) ?rest9
  case hy9 => (intro w hSw; (try dsimp only at hSw); go_simp; try with_reducible rfl)
  try simp only [Act.put, List.getElem_toArray, List.getElem_cons_zero, List.getElem_cons_succ, List.setIfInBounds_toArray, List.set_cons_zero, List.set_cons_succ]
  refine' wpAnyH_take (i := 10) (v := _) rfl (by kernel_rfl) (by kernel_rfl) (by kernel_rfl) (fun _ _ _ h => h) (Or.inl ⟨by rfl, ?hy10⟩) (by assumption) ?rest10
  case hy10 => (intro w hSw; (try dsimp only at hSw); go_simp; try with_reducible rfl)
  try simp only [Act.put, List.getElem_toArray, List.getElem_cons_zero, List.getElem_cons_succ, List.setIfInBounds_toArray, List.set_cons_zero, List.set_cons_succ]
  refine wpAnyH_ready (rs := [11]) (by kernel_rfl) (by simp) (AllReadyH.cons rfl (fun K hK => ?_) AllReadyH.nil)
  go_simp
  refine (same_b (v := .agg C12) (v' := .agg C14) (W0 := W7) (by assumption) HD127.out HD14.out (by have := HLS.out; have := HL.out; omega) (by have := HLS.out; have := HL.out; omega)).mono ?_
  rintro e w' ⟨rfl, hbb⟩
  refine hK.out _ _ (HK.out _ (by assumption)) (fun hHeld => ?_)
  clear hK K
  try simp only [Act.put, List.getElem_toArray, List.getElem_cons_zero, List.getElem_cons_succ, List.setIfInBounds_toArray, List.set_cons_zero, List.set_cons_succ]
  refine' wpAnyH_take (i := 12) (v := _) rfl (by kernel_rfl) (by kernel_rfl) (by kernel_rfl) (fun _ _ _ h => h) (Or.inl ⟨by rfl, ?hy12⟩) (by assumption) ?rest12
  case hy12 => (intro w hSw; (try dsimp only at hSw); go_simp; try with_reducible rfl)
  try simp only [Act.put, List.getElem_toArray, List.getElem_cons_zero, List.getElem_cons_succ, List.setIfInBounds_toArray, List.set_cons_zero, List.set_cons_succ]
  refine' wpAnyH_take (i := 13) (v := _) rfl (by kernel_rfl) (by kernel_rfl) (by kernel_rfl) (fun _ _ _ h => h) (Or.inl ⟨by rfl, ?hy13⟩) (by assumption) ?rest13
  case hy13 => (intro w hSw; (try dsimp only at hSw); go_simp; try with_reducible rfl)
  try simp only [Act.put, List.getElem_toArray, List.getElem_cons_zero, List.getElem_cons_succ, List.setIfInBounds_toArray, List.set_cons_zero, List.set_cons_succ]
  refine' wpAnyH_take (i := 14) (v := _) rfl (by kernel_rfl) (by kernel_rfl) (by kernel_rfl) (fun _ _ _ h => h) (Or.inl ⟨by rfl, ?hy14⟩) (by assumption) ?rest14
  case hy14 => (intro w hSw; (try dsimp only at hSw); go_simp; try with_reducible rfl)
  try simp only [Act.put, List.getElem_toArray, List.getElem_cons_zero, List.getElem_cons_succ, List.setIfInBounds_toArray, List.set_cons_zero, List.set_cons_succ]
  refine' wpAnyH_take (i := 15) (v := _) rfl (by kernel_rfl) (by kernel_rfl) (by kernel_rfl) (fun _ _ _ h => h) (Or.inl ⟨by rfl, ?hy15⟩) (by assumption) ?rest15
  case hy15 => (intro w hSw; (try dsimp only at hSw); go_simp; try with_reducible rfl)
  try simp only [Act.put, List.getElem_toArray, List.getElem_cons_zero, List.getElem_cons_succ, List.setIfInBounds_toArray, List.set_cons_zero, List.set_cons_succ]
  refine' wpAnyH_take (i := 16) (v := _) rfl (by kernel_rfl) (by kernel_rfl) (by kernel_rfl) (fun _ _ _ h => h) (Or.inl ⟨by rfl, ?hy16⟩) (by assumption) ?rest16
  case hy16 => (intro w hSw; (try dsimp only at hSw); go_simp; try with_reducible rfl)
  try simp only [Act.put, List.getElem_toArray, List.getElem_cons_zero, List.getElem_cons_succ, List.setIfInBounds_toArray, List.set_cons_zero, List.set_cons_succ]
  refine' wpAnyH_take (i := 17) (v := _) rfl (by kernel_rfl) (by kernel_rfl) (by kernel_rfl) (fun _ _ _ h => h) (Or.inl ⟨by rfl, ?hy17⟩) (by assumption) ?rest17
  case hy17 => (intro w hSw; (try dsimp only at hSw); go_simp; try with_reducible rfl)
  try simp only [Act.put, List.getElem_toArray, List.getElem_cons_zero, List.getElem_cons_succ, List.setIfInBounds_toArray, List.set_cons_zero, List.set_cons_succ]
  refine' wpAnyH_take (i := 18) (v := _) rfl (by kernel_rfl) (by kernel_rfl) (by kernel_rfl) (fun _ _ _ h => h) (Or.inl ⟨by rfl, ?hy18⟩) (by assumption) ?rest18
  case hy18 => (intro w hSw; (try dsimp only at hSw); go_simp; try with_reducible rfl)
  try simp only [Act.put, List.getElem_toArray, List.getElem_cons_zero, List.getElem_cons_succ, List.setIfInBounds_toArray, List.set_cons_zero, List.set_cons_succ]
  refine' wpAnyH_take (i := 19) (v := _) rfl (by kernel_rfl) (by kernel_rfl) (by kernel_rfl) (fun _ _ _ h => h) (Or.inl ⟨by rfl, ?hy19⟩) (by assumption) ?rest19
  case hy19 => (intro w hSw; (try dsimp only at hSw); go_simp; try with_reducible rfl)
  try simp only [Act.put, List.getElem_toArray, List.getElem_cons_zero, List.getElem_cons_succ, List.setIfInBounds_toArray, List.set_cons_zero, List.set_cons_succ]
  refine' wpAnyH_take (i := 20) (v := _) rfl (by kernel_rfl) (by kernel_rfl) (by kernel_rfl) (fun _ _ _ h => h) (Or.inl ⟨by rfl, ?hy20⟩) (by assumption) ?rest20
  case hy20 => (intro w hSw; (try dsimp only at hSw); go_simp; try with_reducible rfl)
  try simp only [Act.put, List.getElem_toArray, List.getElem_cons_zero, List.getElem_cons_succ, List.setIfInBounds_toArray, List.set_cons_zero, List.set_cons_succ]
  refine' wpAnyH_take (i := 22) (v := _) rfl (by kernel_rfl) (by kernel_rfl) (by kernel_rfl) (fun _ _ _ h => h) (Or.inl ⟨by rfl, ?hy22⟩) (by assumption) ?rest22
  case hy22 => (intro w hSw; (try dsimp only at hSw); go_simp; try with_reducible rfl)
  try simp only [Act.put, List.getElem_toArray, List.getElem_cons_zero, List.getElem_cons_succ, List.setIfInBounds_toArray, List.set_cons_zero, List.set_cons_succ]
  refine' wpAnyH_take (i := 23) (v := _) rfl (by kernel_rfl) (by kernel_rfl) (by kernel_rfl) (fun _ _ _ h => h) (Or.inl ⟨by rfl, ?hy23⟩) (by assumption) ?rest23
  case hy23 => (intro w hSw; (try dsimp only at hSw); go_simp; try with_reducible rfl)
  try simp only [Act.put, List.getElem_toArray, List.getElem_cons_zero, List.getElem_cons_succ, List.setIfInBounds_toArray, List.set_cons_zero, List.set_cons_succ]
  refine wpAnyH_ready (rs := [21]) (by kernel_rfl) (by simp) (AllReadyH.cons rfl (fun K hK => ?_) AllReadyH.nil)
  go_simp
  refine (arm_b (W0 := W7) (by assumption) HD77.out f0 f1).mono ?_
  rintro e wA ⟨⟨u, rfl, hdA⟩, hbA⟩
  obtain ⟨CA, rfl, hcA⟩ := hdA.agg
  have HDA := Lib.hid hdA
  have HZA := Lib.hid (Below.refl wA.heap.size wA)
  clear hdA
  refine hK.out _ _ (HK.out _ (by assumption)) (fun hHeld => ?_)
  clear hK K
  try simp only [Act.put, List.getElem_toArray, List.getElem_cons_zero, List.getElem_cons_succ, List.setIfInBounds_toArray, List.set_cons_zero, List.set_cons_succ]
  refine wpAnyH_ready (rs := [24]) (by kernel_rfl) (by simp) (AllReadyH.cons rfl (fun K hK => ?_) AllReadyH.nil)
  go_simp
  refine (rarm_b (W0 := W7) (by assumption) HD7.out f0 f1).mono ?_
  rintro e wB ⟨⟨u, rfl, hdB⟩, hbB, hbAB⟩
  obtain ⟨CB, rfl, hcB⟩ := hdB.agg
  have HDB := Lib.hid hdB
  have HDA2 := Lib.hid (HDA.out.step hbAB)
  clear hdB hbAB
  refine hK.out _ _ (HK.out _ (by assumption)) (fun hHeld => ?_)
  clear hK K
  try simp only [Act.put, List.getElem_toArray, List.getElem_cons_zero, List.getElem_cons_succ, List.setIfInBounds_toArray, List.set_cons_zero, List.set_cons_succ]
  refine wpAnyH_ready (rs := [25]) (by kernel_rfl) (by simp) (AllReadyH.cons rfl (fun K hK => ?_) AllReadyH.nil)
  go_simp
  refine (same_c (v := .agg CA) (v' := .agg CB) (W0 := W7) (by assumption) HDA2.out HDB.out (by have := HL.out; exact Nat.le_trans this.1 (by omega)) (by have := HL.out; exact Nat.le_trans this.2 (by omega))).mono ?_
  rintro e w' ⟨rfl, hbb⟩
  refine hK.out _ _ (HK.out _ (by assumption)) (fun hHeld => ?_)
  clear hK K
  try simp only [Act.put, List.getElem_toArray, List.getElem_cons_zero, List.getElem_cons_succ, List.setIfInBounds_toArray, List.set_cons_zero, List.set_cons_succ]
  refine' wpAnyH_take (i := 26) (v := _) rfl (by kernel_rfl) (by kernel_rfl) (by kernel_rfl) (fun _ _ _ h => h) (Or.inl ⟨by rfl, ?hy26⟩) (by assumption) ?rest26
  case hy26 => (intro w hSw; (try dsimp only at hSw); go_simp; try with_reducible rfl)
  try simp only [Act.put, List.getElem_toArray, List.getElem_cons_zero, List.getElem_cons_succ, List.setIfInBounds_toArray, List.set_cons_zero, List.set_cons_succ]
  refine' wpAnyH_take (i := 27) (v := _) rfl (by kernel_rfl) (by kernel_rfl) (by kernel_rfl) (fun _ _ _ h => h) (Or.inl ⟨by rfl, ?hy27⟩) (by assumption) ?rest27
  case hy27 => (intro w hSw; (try dsimp only at hSw); go_simp; try with_reducible rfl)
  try simp only [Act.put, List.getElem_toArray, List.getElem_cons_zero, List.getElem_cons_succ, List.setIfInBounds_toArray, List.set_cons_zero, List.set_cons_succ]
  refine' wpAnyH_take (i := 28) (v := _) rfl (by kernel_rfl) (by kernel_rfl) (by kernel_rfl) (fun _ _ _ h => h) (Or.inl ⟨by rfl, ?hy28⟩) (by assumption) ?rest28
  case hy28 => (intro w hSw; (try dsimp only at hSw); go_simp; try with_reducible rfl)
  try simp only [Act.put, List.getElem_toArray, List.getElem_cons_zero, List.getElem_cons_succ, List.setIfInBounds_toArray, List.set_cons_zero, List.set_cons_succ]
  refine' wpAnyH_take (i := 29) (v := _) rfl (by kernel_rfl) (by kernel_rfl) (by kernel_rfl) (fun _ _ _ h => h) (Or.inl ⟨by rfl, ?hy29⟩) (by assumption) ?rest29
  case hy29 => (intro w hSw; (try dsimp only at hSw); go_simp; try with_reducible rfl)
  try simp only [Act.put, List.getElem_toArray, List.getElem_cons_zero, List.getElem_cons_succ, List.setIfInBounds_toArray, List.set_cons_zero, List.set_cons_succ]
  refine wpAnyH_ready (rs := [30]) (by kernel_rfl) (by simp) (AllReadyH.cons rfl (fun K hK => ?_) AllReadyH.nil)
  go_simp
  refine (same_b (v := .agg C7) (v' := .agg C) (W0 := W7) (by assumption) HD77.out HD7.out (by have := HL.out; omega) (by have := HL.out; omega)).mono ?_
  rintro e w' ⟨rfl, hbb⟩
  refine hK.out _ _ (HK.out _ (by assumption)) (fun hHeld => ?_)
  clear hK K
  try simp only [Act.put, List.getElem_toArray, List.getElem_cons_zero, List.getElem_cons_succ, List.setIfInBounds_toArray, List.set_cons_zero, List.set_cons_succ]
  refine' wpAnyH_take (i := 31) (v := _) rfl (by kernel_rfl) (by kernel_rfl) (by kernel_rfl) (fun _ _ _ h => h) (Or.inl ⟨by rfl, ?hy31⟩) (by assumption) ?rest31
  case hy31 => (intro w hSw; (try dsimp only at hSw); go_simp; try with_reducible rfl)
  try simp only [Act.put, List.getElem_toArray, List.getElem_cons_zero, List.getElem_cons_succ, List.setIfInBounds_toArray, List.set_cons_zero, List.set_cons_succ]
  refine' wpAnyH_take (i := 32) (v := _) rfl (by kernel_rfl) (by kernel_rfl) (by kernel_rfl) (fun _ _ _ h => h) (Or.inl ⟨by rfl, ?hy32⟩) (by assumption) ?rest32
  case hy32 => (intro w hSw; (try dsimp only at hSw); go_simp; try with_reducible rfl)
  try simp only [Act.put, List.getElem_toArray, List.getElem_cons_zero, List.getElem_cons_succ, List.setIfInBounds_toArray, List.set_cons_zero, List.set_cons_succ]
  refine wpAnyH_done (by kernel_rfl) ?_ _
  clear hHeld
  go_wp2
  go_ret
  exact ⟨rfl, below_chain HBw7.out (by assumption)⟩
end Go.Proofs.Ytfffmmnpohgniaa
