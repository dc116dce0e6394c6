/-
  DiskReads, walked.
-/
import Derived.Test.YtfffmmnpohgniaaLb
namespace Go.Proofs.Ytfffmmnpohgniaa
open Go.RowKit
set_option linter.unusedVariables false

theorem step_ok {d x : Dk} (h : d.step = (x, true)) : d.down = false ∧ x.down = false := by
  unfold Dk.step at h
  cases hd : d.down with
  | true => simp [hd] at h
  | false =>
    by_cases h0 : d.fuse = 0
    · simp [hd, h0] at h
    · simp [hd, h0] at h
      refine ⟨rfl, ?_⟩
      rw [← h]
/-- What a write that was taken makes of a disk. -/
theorem write_ok {d : Dk} {i : Int} {s : Sec} (h : (d.write i s).2 = 0) : d.right = true ∧ d.within i = true ∧ d.down = false ∧
    (d.write i s).1.right = true ∧ (d.write i s).1.down = false ∧ (d.write i s).1.secs = d.secs ∧ (d.write i s).1.loose = d.loose ++ [⟨i, s⟩] := by
  have h1 := step_secs d
  have h2 := step_loose d
  unfold Dk.write at h ⊢
  split at h
  · rename_i hrw
    rw [if_pos hrw]
    have hrw2 : d.right = true ∧ d.within i = true := by simpa using hrw
    split at h
    · simp at h
    · rename_i hf
      rw [if_neg hf]
      cases hst : d.step with
      | mk x ok =>
        rw [hst] at h h1 h2
        cases ok with
        | false => simp at h
        | true =>
          dsimp only at h1 h2 ⊢
          obtain ⟨k1, k2⟩ := step_ok hst
          refine ⟨hrw2.1, hrw2.2, k1, ?_, k2, h1, by rw [h2]⟩
          have hb := right_bounds hrw2.1
          have hr := hrw2.1
          have hw := hrw2.2
          have hne : d.loose.length ≠ 4096 := by
            intro e
            apply hf
            simp [k1, e]
          rw [Dk.right, Bool.and_eq_true, decide_eq_true_eq, List.all_eq_true] at hr
          rw [Dk.right, Bool.and_eq_true, decide_eq_true_eq, List.all_eq_true]
          dsimp only
          rw [h1, h2]
          refine ⟨⟨hb.1, hb.2.1, by simp; omega⟩, fun y hy => ?_⟩
          rcases List.mem_append.1 hy with h | h
          · exact hr.2 y h
          · simp at h; subst h; exact hw
  · simp at h
theorem lookL_snoc (j : Int) (l : List Wr) (x : Wr) : Dk.lookL j (l ++ [x]) = if x.at_ = j then some x.data else Dk.lookL j l := by
  rw [Dk.lookL_append]
  by_cases h : x.at_ = j
  · simp [Dk.lookL, h]
  · simp [Dk.lookL, h]
theorem reads_plain {d : Dk} {i j : Int} {s : Sec} (h : (d.write i s).2 = 0) : (d.write i s).1.read i = (s, 0) ∧ ((d.write i s).1.read j).2 = (d.read j).2 ∧ (i ≠ j → ((d.write i s).1.read j).1 = (d.read j).1) := by
  obtain ⟨h1, h2, h3, h4, h5, h6, h7⟩ := write_ok h
  generalize (d.write i s).1 = x at *
  have hw : ∀ k, x.within k = d.within k := fun k => by rw [Dk.within, Dk.within, h6]
  have hl : ∀ k, x.look k = if i = k then s else d.look k := fun k => by
    rw [Dk.look, h7, lookL_snoc, h6]
    by_cases e : i = k
    · simp [e]
    · simp only [e, if_false]; rfl
  refine ⟨?_, ?_, ?_⟩
  · rw [Dk.read, h4, hw, h2, h5, hl, if_pos rfl]; rfl
  · rw [Dk.read, Dk.read, h4, hw, h1, h5, h3]
    split <;> rfl
  · intro hne
    rw [Dk.read, Dk.read, h4, hw, h1, h5, h3, hl, if_neg hne]

set_option maxHeartbeats 1000000 in
theorem law_reads (w : World) (v : Value) (d : Dk) (h : DiskAt w v d) (i j : Int) (hi : -9223372036854775808 ≤ i ∧ i < 9223372036854775808) (hj : -9223372036854775808 ≤ j ∧ j < 9223372036854775808) (s : Sec) :
    Calls Try.prog 5 #[v, .agg #[.int .i64 i, .int .i64 j], secV s] w fun e w' => e = .returned (.bool true) ∧ Below w.heap.size w w' := by
  obtain ⟨C, rfl, hc⟩ := h.agg
  have HI := Lib.hid hi
  have HJ := Lib.hid hj
  clear hi hj
  obtain ⟨wa, hwa⟩ : ∃ wa, wa = ((w.alloc (Obj.cells C 25)).alloc (Obj.cells #[.int .i64 i, .int .i64 j] 40)).alloc (secO s) := ⟨_, rfl⟩
  have HBa := Lib.hid (show Below w.heap.size w wa by rw [hwa]; exact (below_two _ _ _).alloc (by simp; omega) _)
  have HDa := Lib.hid (h.step HBa.out)
  have HVa := Lib.hid (show DVar wa w.heap.size C by rw [hwa]; exact ((dvar_new w hc).step (below_new _ _)).step (below_new _ _))
  have HSa := Lib.hid (show SVar wa (w.heap.size + 1 + 1) s by rw [hwa]; have := svar_new ((w.alloc (Obj.cells C 25)).alloc (Obj.cells #[.int .i64 i, .int .i64 j] 40)) s; rwa [size_alloc, size_alloc] at this)
  have HTa := Lib.hid (show TVar wa (w.heap.size + 1) i j by
    rw [hwa]
    have := tvar_new (w.alloc (Obj.cells C 25)) i j
    rw [size_alloc] at this
    exact this.step (below_new _ _))
  have HW := Lib.hid hwa
  clear hwa h
  go_enter Try.func5, Try.ntmps5
  go_wp2_with fail
  rw [← HW.out]
  clear HW
  refine (alive_f wa).mono ?_
  rintro e w1 ⟨rfl, hb1⟩
  have HB1 := Lib.hid hb1
  clear hb1
  have hl := (HVa.out.step HB1.out).load
  go_wp2_with fail
  clear hl
  refine (great_d w1 _ d (HDa.out.step HB1.out)).mono ?_
  rintro e w2 ⟨rfl, hb2⟩
  have HB2 := Lib.hid (below_chain HB1.out hb2)
  clear hb2
  cases hgr : (decide (100 < d.secs.length) || decide (100 < d.loose.length)) with
  | true =>
    clear hgr
    go_wp2
    go_ret
    exact ⟨rfl, below_chain HBa.out HB2.out⟩
  | false =>
  clear hgr
  have HV2 := Lib.hid (HVa.out.step HB2.out)
  have HD2 := Lib.hid (HDa.out.step HB2.out)
  have HS2 := Lib.hid (HSa.out.step HB2.out)
  have HT2 := Lib.hid (HTa.out.step HB2.out)
  have HBw2 := Lib.hid (below_chain HBa.out HB2.out)
  clear HVa HDa HSa HTa
  have hl := HV2.out.load
  have hls := HS2.out.load
  have ht0 := HT2.out.c0
  have ht1 := HT2.out.c1
  go_wp2_with fail
  clear hl hls ht0 ht1
  refine (write_f _ (.agg C) d i s HD2.out).mono ?_
  rintro e w3 ⟨⟨u, rfl, hg⟩, hb3⟩
  obtain ⟨C7, rfl, hc7, hd7⟩ := disk_step hg
  have hx := below_new w3 (Obj.cells C7 25)
  have hxx := below_chain hb3 hx
  have HD7 := Lib.hid (hd7.step hx)
  have HV7 := Lib.hid (dvar_new w3 hc7)
  have HV3 := Lib.hid (HV2.out.step hxx)
  have HD3 := Lib.hid (HD2.out.step hxx)
  have HS3 := Lib.hid (HS2.out.step hxx)
  have HT3 := Lib.hid (HT2.out.step hxx)
  have HBw3 := Lib.hid (below_chain HBw2.out hxx)
  clear hg hb3 hd7 hx hxx HV2 HD2 HS2 HT2
  by_cases hok : (d.write i s).2 = 0
  · have HP := Lib.hid (reads_plain (j := j) hok)
    rw [hok]
    clear hok
    generalize (d.write i s).1 = x at *
    have hl := HV7.out.load
    have ht0 := HT3.out.c0
    have ht1 := HT3.out.c1
    go_wp2_with fail
    clear hl ht0 ht1
    refine (read_f _ (.agg C7) x i HD7.out).mono ?_
    rintro e w4 ⟨rfl, hb4⟩
    rw [HP.out.1]
    dsimp only
    have hx := below_new w4 (secO s)
    have hxx := below_chain hb4 hx
    have HS9 := Lib.hid (svar_new w4 s)
    have HV4 := Lib.hid (HV3.out.step hxx)
    have HD4 := Lib.hid (HD3.out.step hxx)
    have HS4 := Lib.hid (HS3.out.step hxx)
    have HT4 := Lib.hid (HT3.out.step hxx)
    have HV74 := Lib.hid (HV7.out.step hxx)
    have HD74 := Lib.hid (HD7.out.step hxx)
    have HBw4 := Lib.hid (below_chain HBw3.out hxx)
    clear hb4 hx hxx HV3 HD3 HS3 HT3 HV7 HD7
    have hl := HV74.out.load
    have ht0 := HT4.out.c0
    have ht1 := HT4.out.c1
    go_wp2_with fail
    clear hl ht0 ht1
    refine (read_f _ (.agg C7) x j HD74.out).mono ?_
    rintro e w5 ⟨rfl, hb5⟩
    have hx := below_new w5 (secO (x.read j).1)
    have hxx := below_chain hb5 hx
    have HS11 := Lib.hid (svar_new w5 (x.read j).1)
    have HV5 := Lib.hid (HV4.out.step hxx)
    have HD5 := Lib.hid (HD4.out.step hxx)
    have HS5 := Lib.hid (HS4.out.step hxx)
    have HS95 := Lib.hid (HS9.out.step hxx)
    have HT5 := Lib.hid (HT4.out.step hxx)
    have HBw5 := Lib.hid (below_chain HBw4.out hxx)
    clear hb5 hx hxx HV4 HD4 HS4 HT4 HS9
    have hl := HV5.out.load
    have ht0 := HT5.out.c0
    have ht1 := HT5.out.c1
    go_wp2_with fail
    clear hl ht0 ht1
    refine (read_f _ (.agg C) d j HD5.out).mono ?_
    rintro e w6 ⟨rfl, hb6⟩
    have hx := below_new w6 (secO (d.read j).1)
    have hxx := below_chain hb6 hx
    have HS13 := Lib.hid (svar_new w6 (d.read j).1)
    have HS6 := Lib.hid (HS5.out.step hxx)
    have HS96 := Lib.hid (HS95.out.step hxx)
    have HS116 := Lib.hid (HS11.out.step hxx)
    have HT6 := Lib.hid (HT5.out.step hxx)
    have HBw6 := Lib.hid (below_chain HBw5.out hxx)
    clear hb6 hx hxx HV5 HD5 HS5 HT5 HS95 HS11
    have hp2 := HP.out.2.1
    have hp3 := HP.out.2.2
    rw [hp2]
    clear hp2
    generalize (d.read j).2 = r at *
    have hrr : (r == r) = true := by simp
    have hl0 := HS6.out.load
    have hl9 := HS96.out.load
    have hl11 := HS116.out.load
    have hl13 := HS13.out.load
    have ht0 := HT6.out.c0
    have ht1 := HT6.out.c1
    by_cases q : i = j
    · have hq : (i == j) = true := by simp [q]
      clear hp3 q
      go_wp2
      go_ret
      exact ⟨rfl, HBw6.out⟩
    · have hp := hp3 q
      have hq : (i == j) = false := by simp [q]
      rw [hp] at hl11
      clear hp3 q hp
      go_wp2
      go_ret
      exact ⟨rfl, HBw6.out⟩
  · generalize (d.write i s).2 = q at *
    have hq : (q != 0) = true := by simp [hok]
    clear hok
    go_wp2
    go_ret
    exact ⟨rfl, HBw3.out⟩
end Go.Proofs.Ytfffmmnpohgniaa
