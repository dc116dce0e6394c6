/-
  The fixed fact of each law: alive.
-/
import Derived.Test.YtbhjigejpdbeiaaDoorZSa
set_option linter.unusedSimpArgs false
set_option linter.unusedVariables false
namespace Go.Proofs.YtbhjigejpdbeiaaDoor
open Go.RowKit Go.Shelf
set_option linter.unusedVariables false
set_option maxRecDepth 8000

@[irreducible] def mk150 (a b : Value) : Sem Value := Instr.makeSlice 28 a b
theorem mk150_def (a b : Value) : Instr.makeSlice 28 a b = mk150 a b := by unfold mk150; rfl
attribute [local go_sem ↓] mk150_def
set_option maxHeartbeats 2000000 in
theorem alive15_f (w : World) (hL : Laid w) : Calls Tryd.prog 9 #[] w fun e w' => e = .returned (.bool true) ∧ Below w.heap.size w w' := by
  obtain ⟨d0, d1, d2, d3, r, hp1, hp2, hp3, hp4, hp5, hp6⟩ := Jp.alive_plain
  have HSEC := Lib.hid (show d1.secs.length ≤ 1000000 by rw [hp6]; omega)
  have HP1 := Lib.hid hp1
  have HP2 := Lib.hid hp2
  have HP3 := Lib.hid hp3
  have HP4 := Lib.hid hp4
  have HP5 := Lib.hid hp5
  have HL := Lib.hid hL
  clear hp1 hp2 hp3 hp4 hp5 hp6 hL
  go_enter Tryd.func9, Tryd.ntmps9
  go_wp2_with fail
  refine (new_f 8 w).mono ?_
  rintro e w1 ⟨⟨u1, rfl, hd1, _⟩, hb1⟩
  rw [HP1.out] at hd1 ⊢
  obtain ⟨C1, rfl, hc1⟩ := hd1.agg
  have HD1 := Lib.hid hd1
  have HC1 := Lib.hid hc1
  have HB1 := Lib.hid hb1
  clear hd1 hb1
  go_upto_region 2 with fail
  obtain ⟨w2, hw2⟩ : ∃ w2, w2 = w1.alloc (.cells C1 25) := ⟨_, rfl⟩
  obtain ⟨b1, hb1⟩ : ∃ b1, b1 = w1.heap.size := ⟨_, rfl⟩
  rw [← hw2, ← hb1]
  have HB2 := Lib.hid (show Below w1.heap.size w1 w2 by rw [hw2]; exact (Below.refl _ _).alloc (Nat.le_refl _) _)
  have HBX2 := Lib.hid (show BoxAt w2 b1 C1 d0 by rw [hw2, hb1]; exact box_new HD1.out HC1.out)
  have HT2 := Lib.hid (show w2.there b1 0 4 by rw [hw2, hb1]; exact there_disk w1 HC1.out)
  have HBB := Lib.hid (show w.heap.size ≤ b1 by rw [hb1]; exact HB1.out.size)
  have HS2 := Lib.hid (show b1 < w2.heap.size by rw [hw2, hb1]; simp)
  have HB1S := Lib.hid (show w1.heap.size ≤ b1 by rw [hb1]; exact Nat.le_refl _)
  clear hw2 hb1
  have hl2 := HBX2.out.load
  have HBW2 := Lib.hid (below_chain HB1.out HB2.out)
  go_wp2_with fail
  refine (format_f w2 (.agg C1) d0 HBX2.out.disk (HL.out.below HBW2.out HL.out.size)).mono ?_
  rintro e w3 ⟨⟨u3, he3, hg3⟩, hb3⟩
  rw [HP2.out] at he3 hg3
  obtain ⟨C3, rfl, hc3⟩ := hg3.1.agg
  have he3 : e = .returned (.tuple #[.agg C3, .agg #[.int .i64 0, .int .i64 1, .int .i64 1], .int .i64 0]) := he3
  subst he3
  have HC3 := Lib.hid hc3
  have HG3 := Lib.hid hg3.1
  have HCB := Lib.hid (show Clear b1 (.agg C3) from hg3.2 b1 HS2.out (HD1.out.clear HB1S.out))
  have HCN := Lib.hid (show Clear w3.heap.size (.agg C3) from hg3.1.clear (Nat.le_refl _))
  have HB3 := Lib.hid (below_chain HBW2.out hb3)
  have HT3 := Lib.hid (there_below HT2.out hb3 HS2.out)
  have HS3 := Lib.hid (show b1 < w3.heap.size from Nat.lt_of_lt_of_le HS2.out hb3.size)
  clear hg3 hb3 hl2
  obtain ⟨w5, hw5⟩ : ∃ w5, w5 = w3.alloc (.cells #[.int .i64 0, .int .i64 0, .int .i64 0] 27) := ⟨_, rfl⟩
  have hb45 : Below w3.heap.size w3 w5 := by rw [hw5]; exact (Below.refl _ _).alloc (Nat.le_refl _) _
  have hs5 : w5.heap.size = w3.heap.size + 1 := by rw [hw5]; simp
  have ht5 : w5.there b1 0 4 := there_below HT3.out hb45 HS3.out
  have ho1 := store_disk ht5 HC3.out
  have hn5 : w5.there w3.heap.size 0 3 := by rw [hw5]; exact size_log3 w3
  have ho2 := store_log (World.there_setCells hn5 b1 0 C3.toList) ⟨0, 1, 1⟩
  have ho2 : (logSet ⟨w3.heap.size, 0, none⟩ (.agg #[.int .i64 0, .int .i64 1, .int .i64 1])).run Tryd.prog (putDisk w5 b1 C3) = .ok () (putLog (putDisk w5 b1 C3) w3.heap.size ⟨0, 1, 1⟩) := ho2
  obtain ⟨b2, hb2⟩ : ∃ b2, b2 = w3.heap.size := ⟨_, rfl⟩
  obtain ⟨w4, hw4⟩ : ∃ w4, w4 = putLog (putDisk w5 b1 C3) b2 ⟨0, 1, 1⟩ := ⟨_, rfl⟩
  have hg6 : w5.grownBy (putDisk w5 b1 C3) (some b1) := grown_put
  have hg7 : (putDisk w5 b1 C3).grownBy w4 (some b2) := by rw [hw4]; exact grown_log
  have HLT := Lib.hid (show b1 < b2 by rw [hb2]; exact HS3.out)
  have HV4 := Lib.hid (show DVar w4 b1 C3 from (dvar_put (by have := HLT.out; omega) ht5 HC3.out).grown hg7 (by have := HLT.out; omega))
  have HL4 := Lib.hid (show LogAt w4 b2 ⟨0, 1, 1⟩ by rw [hw4]; exact logAt_put (World.there_setCells (by rw [hb2]; exact hn5) b1 0 C3.toList) _)
  have HD4 := Lib.hid (show DiskAt w4 (.agg C3) d1 from ((HG3.out.kept hb45 (Nat.le_refl _)).keep HCB.out hg6.size (fun q hq hne => hg6.block q hq (fun e => by injection e with e; omega))).keep (b := b2) (by rw [hb2]; exact HCN.out) hg7.size (fun q hq hne => hg7.block q hq (fun e => by injection e with e; omega)))
  have HT4 := Lib.hid (show w4.there b1 0 4 from there_keepb (World.there_setCells ht5 b1 0 C3.toList) (hg7.block b1 (by rw [size_putDisk]; have := HLT.out; omega) (fun e => by injection e with e; have := HLT.out; omega)))
  have HBW4 := Lib.hid (show Below w.heap.size w w4 by
    rw [hw4]
    exact below_putLog (below_putDisk (below_chain HB3.out hb45) HBB.out C3) (by have := HBB.out; have := HLT.out; omega) _)
  rw [← hb2, ← hw4] at ho2
  rw [hb2] at ho2
  rw [hw5] at ho1 ho2
  have HB2E := Lib.hid hb2
  have HCB2 := Lib.hid (show Clear b2 (.agg C3) by rw [hb2]; exact HCN.out)
  clear hb45 hs5 ht5 hn5 hg6 hg7 hw4 hw5 hb2
  go_upto_region 3 with fail
  rw [← HB2E.out]
  have HB2S := Lib.hid (show b2 < w4.heap.size from HL4.out.lt)
  have HB1B := Lib.hid (show b1 < w4.heap.size from HV4.out.lt)
  clear ho1 ho2
  have HK := Lib.hid (show ∀ W, Below w4.heap.size w4 W → (diskVar ⟨b1, 0, none⟩).run Tryd.prog W = .ok (.agg C3) W ∧ (logVar ⟨b2, 0, none⟩).run Tryd.prog W = .ok (.agg #[.int .i64 0, .int .i64 1, .int .i64 1]) W from fun W hW => ⟨(HV4.out.below hW HB1B.out).load, (HL4.out.on hW HB2S.out).load⟩)
  have HTH := Lib.hid (show ∀ W, Below w4.heap.size w4 W → W.there b1 0 4 ∧ W.there b2 0 3 from fun W hW => ⟨there_below HT4.out hW HB1B.out, there_below HL4.out.there hW HB2S.out⟩)
  have hb0 : Below w4.heap.size w4 w4.drew := (Below.refl _ _).drew
  obtain ⟨i0, hi0, hz0, hz1, hz2⟩ := info_parts infoU8
  obtain ⟨w5, hrun, r1, r2⟩ := run_make_full (P := Tryd.prog) (w := w4.drew) w4.drew.heap.size 28 5 i0 (.int .u8 0) 1 Tryd.underlying28 hi0 hz0 hz1 .i64 .i64 150 (by rw [hz2]; omega) (by unfold maxLen; omega) (Nat.le_refl _)
  have e0 : (madeCells #[Value.int .u8 0] 150).toList = Lib.byteCells (List.replicate 150 (0 : UInt8)) := (made_rep 1 150 _ (by decide)).trans (by simp [Lib.byteCells])
  have r1 : w5.ownsRow w4.drew.heap.size 5 1 (.slice (some ⟨w4.drew.heap.size, 0, none⟩) 150 150) 150 (madeCells #[Value.int .u8 0] 150).toList := r1
  rw [e0] at r1
  obtain ⟨A5, c5, e5, hrow5, _⟩ := row_of_own r1
  injection e5 with e51 e52 e53
  subst e51; subst e53
  have HB5 := Lib.hid (show Below w4.heap.size w4 w5 from hb0.grown r2 (Nat.le_refl _) (fun q e => by cases e))
  rw [mk150_def] at hrun
  have hrun : (mk150 (.int .i64 150) (.int .i64 150)).run Tryd.prog w4.drew = .ok (.slice (some ⟨w4.heap.size, 0, none⟩) 150 150) w5 := hrun
  have HBW5 := Lib.hid (show Below w.heap.size w w5 from HBW4.out.trans (HB5.out.mono HBW4.out.size))
  have HAPP := Lib.hid (append_f w5 (.agg C3) d1 ⟨0, 1, 1⟩ (some ⟨w4.heap.size, 0, none⟩) 150 150 (List.replicate 150 0) (HD4.out.kept HB5.out (Nat.le_refl _)) (HL.out.below HBW5.out HL.out.size) HSEC.out (by simp) (by omega) hrow5)
  have hHeld5 := HK.out w5 HB5.out
  clear r1 r2 hrow5 hi0 hz0 hz1 hz2 e0 e52
  go_wp2_with fail
  refine wp_region_until (S := fun W => (diskVar ⟨b1, 0, none⟩).run Tryd.prog W = .ok (.agg C3) W ∧ (logVar ⟨b2, 0, none⟩).run Tryd.prog W = .ok (.agg #[.int .i64 0, .int .i64 1, .int .i64 1]) W) 8 (by kernel_rfl) (HK.out _ hb0) (fun hHeld => ?_)
  refine' wpAnyU_take (i := 0) (v := _) rfl (by kernel_rfl) (by kernel_rfl) (by kernel_rfl) (by kernel_rfl) (fun _ _ _ h => h) (Or.inl ⟨by rfl, ?hy0⟩) hHeld ?rest0
  case hy0 => (intro w hSw; (try dsimp only at hSw); obtain ⟨s1, s2⟩ := hSw; go_simp; try with_reducible rfl)
  try simp only [Act.put, List.getElem_toArray, List.getElem_cons_zero, List.getElem_cons_succ, List.setIfInBounds_toArray, List.set_cons_zero, List.set_cons_succ]
  refine' wpAnyU_take (i := 1) (v := _) rfl (by kernel_rfl) (by kernel_rfl) (by kernel_rfl) (by kernel_rfl) (fun _ _ _ h => h) (Or.inl ⟨by rfl, ?hy1⟩) hHeld ?rest1
  case hy1 => (intro w hSw; (try dsimp only at hSw); obtain ⟨s1, s2⟩ := hSw; go_simp; try with_reducible rfl)
  try simp only [Act.put, List.getElem_toArray, List.getElem_cons_zero, List.getElem_cons_succ, List.setIfInBounds_toArray, List.set_cons_zero, List.set_cons_succ]
  refine wpAnyU_one (i := 2) (by kernel_rfl) rfl (fun K hK => ?_)
  go_simp
  refine hK.out _ _ ⟨fun _ _ => hHeld5, ?_⟩
  clear hK K
  try simp only [Act.put, List.getElem_toArray, List.getElem_cons_zero, List.getElem_cons_succ, List.setIfInBounds_toArray, List.set_cons_zero, List.set_cons_succ]
  refine wpAnyU_one (i := 3) (by kernel_rfl) rfl (fun K hK => ?_)
  go_simp
  refine HAPP.out.mono ?_
  rintro e w6 ⟨⟨u6, he6, hg6⟩, hb6⟩
  rw [HP3.out] at he6 hg6
  obtain ⟨C6, rfl, hc6⟩ := hg6.1.agg
  have he6 : e = .returned (.tuple #[.agg C6, .agg #[.int .i64 0, .int .i64 1, .int .i64 3], .int .i64 0]) := he6
  subst he6
  have hHeld6 := HK.out _ (below_chain HB5.out hb6)
  have ht6 := HTH.out _ (below_chain HB5.out hb6)
  have hst1 := store_disk ht6.1 hc6
  have hst2 := store_log (World.there_setCells ht6.2 b1 0 C6.toList) ⟨0, 1, 3⟩
  have hst2 : (logSet ⟨b2, 0, none⟩ (.agg #[.int .i64 0, .int .i64 1, .int .i64 3])).run Tryd.prog (putDisk w6 b1 C6) = .ok () (putLog (putDisk w6 b1 C6) b2 ⟨0, 1, 3⟩) := hst2
  refine hK.out _ _ ⟨fun _ _ => hHeld6, ?_⟩
  clear hK K
  try simp only [Act.put, List.getElem_toArray, List.getElem_cons_zero, List.getElem_cons_succ, List.setIfInBounds_toArray, List.set_cons_zero, List.set_cons_succ]
  refine' wpAnyU_takeAny (i := 4) (v := _) rfl (by kernel_rfl) (by kernel_rfl) (by kernel_rfl) (by kernel_rfl) (fun _ _ _ h => h) (Or.inl ⟨by rfl, ?hy4⟩) (fun _ => hHeld6) ?rest4
  case hy4 => (intro w hSw; clear hSw; go_simp; try with_reducible rfl)
  try simp only [Act.put, List.getElem_toArray, List.getElem_cons_zero, List.getElem_cons_succ, List.setIfInBounds_toArray, List.set_cons_zero, List.set_cons_succ]
  refine' wpAnyU_takeAny (i := 5) (v := _) rfl (by kernel_rfl) (by kernel_rfl) (by kernel_rfl) (by kernel_rfl) (fun _ _ _ h => h) (Or.inl ⟨by rfl, ?hy5⟩) (fun _ => hHeld6) ?rest5
  case hy5 => (intro w hSw; clear hSw; go_simp; try with_reducible rfl)
  try simp only [Act.put, List.getElem_toArray, List.getElem_cons_zero, List.getElem_cons_succ, List.setIfInBounds_toArray, List.set_cons_zero, List.set_cons_succ]
  refine' wpAnyU_takeAny (i := 6) (v := _) rfl (by kernel_rfl) (by kernel_rfl) (by kernel_rfl) (by kernel_rfl) (fun _ _ _ h => h) (Or.inl ⟨by rfl, ?hy6⟩) (fun _ => hHeld6) ?rest6
  case hy6 => (intro w hSw; clear hSw; go_simp; try with_reducible rfl)
  try simp only [Act.put, List.getElem_toArray, List.getElem_cons_zero, List.getElem_cons_succ, List.setIfInBounds_toArray, List.set_cons_zero, List.set_cons_succ]
  refine' wpAnyU_takeAny (i := 7) (v := _) rfl (by kernel_rfl) (by kernel_rfl) (by kernel_rfl) (by kernel_rfl) (fun _ _ _ h => h) (Or.inl ⟨by rfl, ?hy7⟩) (fun _ => hHeld6) ?rest7
  case hy7 => (intro w hSw; clear hSw; go_simp; try with_reducible rfl)
  try simp only [Act.put, List.getElem_toArray, List.getElem_cons_zero, List.getElem_cons_succ, List.setIfInBounds_toArray, List.set_cons_zero, List.set_cons_succ]
  refine wpAnyU_one (i := 8) (by kernel_rfl) rfl (fun K hK => ?_)
  go_simp
  refine hK.out _ _ ⟨fun q => absurd rfl q, ?_⟩
  clear hK K
  try simp only [Act.put, List.getElem_toArray, List.getElem_cons_zero, List.getElem_cons_succ, List.setIfInBounds_toArray, List.set_cons_zero, List.set_cons_succ]
  refine wpAnyU_one (i := 9) (by kernel_rfl) rfl (fun K hK => ?_)
  go_simp
  refine hK.out _ _ ⟨fun _ q => (by cases q), ?_⟩
  clear hK K
  try simp only [Act.put, List.getElem_toArray, List.getElem_cons_zero, List.getElem_cons_succ, List.setIfInBounds_toArray, List.set_cons_zero, List.set_cons_succ]
  refine wpAnyU_one (i := 10) (by kernel_rfl) rfl (fun K hK => ?_)
  go_simp
  refine hK.out _ _ ⟨fun _ q => (by cases q), ?_⟩
  clear hK K
  try simp only [Act.put, List.getElem_toArray, List.getElem_cons_zero, List.getElem_cons_succ, List.setIfInBounds_toArray, List.set_cons_zero, List.set_cons_succ]
  refine wpAnyU_done (by kernel_rfl) ?_ _
  obtain ⟨w7, hw7⟩ : ∃ w7, w7 = putLog (putDisk w6 b1 C6) b2 ⟨0, 1, 3⟩ := ⟨_, rfl⟩
  rw [← hw7]
  have hl56 := hb6.size
  have hl45 := HB5.out.size
  have hgg1 : w6.grownBy (putDisk w6 b1 C6) (some b1) := grown_put
  have hgg2 : (putDisk w6 b1 C6).grownBy w7 (some b2) := by rw [hw7]; exact grown_log
  have HV7 := Lib.hid (show DVar w7 b1 C6 from (dvar_put (by have := HB1B.out; omega) ht6.1 hc6).grown hgg2 (by have := HLT.out; omega))
  have HL7 := Lib.hid (show LogAt w7 b2 ⟨0, 1, 3⟩ by rw [hw7]; exact logAt_put (World.there_setCells ht6.2 b1 0 C6.toList) _)
  have HD7 := Lib.hid (show DiskAt w7 (.agg C6) d2 from (hg6.1.keep (b := b1) (hg6.2 b1 (by have := HB1B.out; omega) HCB.out) hgg1.size (fun q hq hne => hgg1.block q hq (fun e => by injection e with e; omega))).keep (b := b2) (hg6.2 b2 (by have := HB2S.out; omega) HCB2.out) hgg2.size (fun q hq hne => hgg2.block q hq (fun e => by injection e with e; omega)))
  have HBW7 := Lib.hid (show Below w.heap.size w w7 by
    rw [hw7]
    exact below_putLog (below_putDisk (below_chain HBW5.out hb6) HBB.out C6) (by have := HBB.out; have := HLT.out; omega) _)
  clear hw7 hgg1 hgg2 hst1 hst2 hg6 hb6 ht6 hHeld hHeld5 hHeld6 hrun hb0 hl56 hl45
  obtain ⟨l0, l1, l2⟩ := HL7.out.cells
  have hl7 := HV7.out.load
  go_wp2_with fail
  refine (open_f w7 (.agg C6) d2 HD7.out (HL.out.below HBW7.out HL.out.size)).mono ?_
  rintro e w8 ⟨⟨u8, vr, he8, hg8, hr8⟩, hb8⟩
  rw [HP4.out] at he8 hg8 hr8
  obtain ⟨C8, rfl, hc8⟩ := hg8.1.agg
  obtain ⟨A8, n8, c8, vs8, rfl, hn8, hrow8, hset8⟩ := hr8.at
  obtain ⟨B, m, kk, hck, hm, _, _⟩ := hset8.row 0 r rfl
  obtain rfl : n8 = 1 := hn8
  obtain ⟨b, o, rfl, hb, hX⟩ := row_at hrow8 (by omega)
  obtain rfl : m = 150 := by rw [hm, HP5.out]
  have hcell : w8.cell? ⟨b, o, none⟩ = some (.slice B 150 kk) := by
    have := hX 0 _ hck
    rwa [Nat.add_zero] at this
  have he8 : e = .returned (.tuple #[.agg C8, .agg #[.int .i64 1, .int .i64 2, .int .i64 3], .slice (some ⟨b, o, none⟩) 1 c8, .int .i64 0]) := he8
  subst he8
  have HBW8 := Lib.hid (below_chain HBW7.out hb8)
  clear hg8 hb8 hck hm hX hrow8 hset8 l0 l1 l2 hl7
  have ht8 : ((w8.alloc (.cells #[.slice none 0 0, .slice none 0 0, .int .i64 0, .bool false] 25)).alloc (.cells #[.int .i64 0, .int .i64 0, .int .i64 0] 27)).there w8.heap.size 0 4 := there_disk_alloc (there_disk _ zeroD4) _
  have ho1 := store_disk ht8 hc8
  have hl8n : ((w8.alloc (.cells #[.slice none 0 0, .slice none 0 0, .int .i64 0, .bool false] 25)).alloc (.cells #[.int .i64 0, .int .i64 0, .int .i64 0] 27)).there (w8.heap.size + 1) 0 3 := there_log_at _ (by simp)
  have ho2 := store_log (there_putDisk hl8n w8.heap.size C8) ⟨1, 2, 3⟩
  have ho2 : (logSet ⟨w8.heap.size + 1, 0, none⟩ (.agg #[.int .i64 1, .int .i64 2, .int .i64 3])).run Tryd.prog (putDisk ((w8.alloc (.cells #[.slice none 0 0, .slice none 0 0, .int .i64 0, .bool false] 25)).alloc (.cells #[.int .i64 0, .int .i64 0, .int .i64 0] 27)) w8.heap.size C8) = .ok () (putLog (putDisk ((w8.alloc (.cells #[.slice none 0 0, .slice none 0 0, .int .i64 0, .bool false] 25)).alloc (.cells #[.int .i64 0, .int .i64 0, .int .i64 0] 27)) w8.heap.size C8) (w8.heap.size + 1) ⟨1, 2, 3⟩) := ho2
  have HN8 := Lib.hid hl8n
  clear hl8n ht8
  go_upto_region 7 with fail
  clear ho1 ho2
  obtain ⟨w9, hw9⟩ : ∃ w9, w9 = putLog (putDisk ((w8.alloc (.cells #[.slice none 0 0, .slice none 0 0, .int .i64 0, .bool false] 25)).alloc (.cells #[.int .i64 0, .int .i64 0, .int .i64 0] 27)) w8.heap.size C8) (w8.heap.size + 1) ⟨1, 2, 3⟩ := ⟨_, rfl⟩
  rw [← hw9]
  have hb9 : Below w8.heap.size w8 w9 := by rw [hw9]; exact below_putLog (below_putDisk (below_two _ _ _) (Nat.le_refl _) _) (Nat.le_succ _) _
  have HL9 := Lib.hid (show LogAt w9 (w8.heap.size + 1) ⟨1, 2, 3⟩ by rw [hw9]; exact logAt_put (there_putDisk HN8.out w8.heap.size C8) _)
  have hcell9 : w9.cell? ⟨b, o, none⟩ = some (.slice B 150 kk) := (hb9.cell (p := ⟨b, o, none⟩) hb).trans hcell
  have HBW9 := Lib.hid (below_chain HBW8.out hb9)
  clear hw9 hb9 hcell
  have hl9 : (logVar ⟨w8.heap.size + 1, 0, none⟩).run Tryd.prog w9 = .ok (.agg #[.int .i64 1, .int .i64 2, .int .i64 3]) w9 := HL9.out.load
  go_wp2_with fail
  go_ret
  exact ⟨rfl, HBW9.out⟩
end Go.Proofs.YtbhjigejpdbeiaaDoor
