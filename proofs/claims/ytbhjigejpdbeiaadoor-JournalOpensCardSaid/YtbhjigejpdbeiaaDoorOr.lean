/-
  Open, of the reference.
-/
import Derived.Test.YtbhjigejpdbeiaaDoorKLp
set_option linter.unusedSimpArgs false
set_option linter.unusedVariables false
namespace Go.Proofs.YtbhjigejpdbeiaaDoor
open Go.RowKit Go.Shelf
set_option linter.unusedVariables false
set_option maxRecDepth 8000

theorem used_any {d : Dk} {h : Nat} {w w' : World} {e : Ending} (k : UsedPost d h w e w') : ∃ A n c, ∃ g : Int, ∃ u : Int, ∃ ok : Bool, e = .returned (.tuple #[.slice A n c, .int .i64 g, .int .i64 u, .bool ok]) ∧ Below w.heap.size w w' ∧
    ((ok = false ∧ d.used h = none) ∨ (ok = true ∧ ∃ (rs : List (List UInt8)) (x : Nat), d.used h = some (rs, g, x) ∧ RecsFrom w' w.heap.size (.slice A n c) rs)) := by
  obtain ⟨hb, k⟩ := k
  cases hu : d.used h with
  | none =>
    rw [hu] at k
    exact ⟨_, _, _, _, _, _, k, hb, .inl ⟨rfl, rfl⟩⟩
  | some x =>
    obtain ⟨rs, g, u⟩ := x
    rw [hu] at k
    obtain ⟨v, rfl, _, hf⟩ := k
    have hf2 := hf
    obtain ⟨A, n, c, vs, rfl, _⟩ := hf
    exact ⟨A, n, c, g, u, true, rfl, hb, .inr ⟨rfl, rs, u, rfl, hf2⟩⟩
theorem best_two {d : Dk} : d.best = match d.used 0, d.used 1 with
  | none, none => none
  | some a, none => some (a.1, 0)
  | none, some b => some (b.1, 1)
  | some a, some b => if a.2.1 < b.2.1 then some (b.1, 1) else some (a.1, 0) := rfl
theorem best_10 {d : Dk} {a : List (List UInt8) × Int × Nat} (h0 : d.used 0 = some a) (h1 : d.used 1 = none) : d.best = some (a.1, 0) := by rw [best_two, h0, h1]
theorem best_01 {d : Dk} {a : List (List UInt8) × Int × Nat} (h0 : d.used 0 = none) (h1 : d.used 1 = some a) : d.best = some (a.1, 1) := by rw [best_two, h0, h1]
theorem best_00 {d : Dk} (h0 : d.used 0 = none) (h1 : d.used 1 = none) : d.best = none := by rw [best_two, h0, h1]
theorem best_11a {d : Dk} {a b : List (List UInt8) × Int × Nat} (h0 : d.used 0 = some a) (h1 : d.used 1 = some b) (h : a.2.1 < b.2.1) : d.best = some (b.1, 1) := by rw [best_two, h0, h1]; exact if_pos h
theorem best_11b {d : Dk} {a b : List (List UInt8) × Int × Nat} (h0 : d.used 0 = some a) (h1 : d.used 1 = some b) (h : ¬ a.2.1 < b.2.1) : d.best = some (a.1, 0) := by rw [best_two, h0, h1]; exact if_neg h
theorem both_false {a b : Bool} (h : true = (!a && !b)) : a = false ∧ b = false := by cases a <;> cases b <;> simp_all
theorem some_true {a b : Bool} (h : false = (!a && !b)) : a = true ∨ b = true := by cases a <;> cases b <;> simp_all
set_option maxHeartbeats 8000000 in
theorem ropen_f (w : World) (v : Value) (d : Dk) (hd : DiskAt w v d) (hL : LaidR w) :
    Calls Tryd.prog 22 #[v] w fun e w' => OpenOut v d.open_ w e w' := by
  obtain ⟨C, rfl, h4⟩ := hd.agg
  obtain ⟨w1, hw1⟩ : ∃ w1, w1 = ((w.alloc (.cells C 25)).alloc (.cells #[.slice none 0 0, .slice none 0 0, .int .i64 0, .bool false] 25)).alloc (.cells #[.int .i64 0, .int .i64 0, .int .i64 0] 27) := ⟨_, rfl⟩
  obtain ⟨hret, hbox, hth, hs1⟩ := ret_three_new w h4 hd hw1
  have HRET := Lib.hid hret
  have HBOX := Lib.hid hbox
  have HDV := Lib.hid (dv_first h4 hd hret)
  have H4 := Lib.hid h4
  have HD := Lib.hid hd
  have HL := Lib.hid hL
  have HW := Lib.hid hw1
  have HS1 := Lib.hid hs1
  obtain ⟨bb, hbb⟩ : ∃ bb, bb = w.heap.size := ⟨_, rfl⟩
  have HBB := Lib.hid hbb
  rw [← hbb] at HRET HBOX HDV HS1
  clear hd h4 hL hw1 hret hbox hth hs1 hbb
  have hl0 := HBOX.out.load
  have HAR := Lib.hid (able_ref d)
  go_enter Tryd.func22, Tryd.ntmps22
  go_upto_region 1 with fail
  rw [← HW.out, ← HBB.out]
  go_wp2_with fail
  refine (rable_f w1 C d HBOX.out.disk H4.out).mono ?_
  rintro e w2 ⟨rfl, hb2⟩
  have HRET2 := Lib.hid (HRET.out.on hb2 HRET.out.lt)
  have HDV2 := Lib.hid (HDV.out.on hb2 (Nat.le_refl _))
  have HBOX2 := Lib.hid (HBOX.out.below hb2)
  have HBAD := Lib.hid (show ∀ e, d.able = e → e ≠ 0 → d.open_ = (d, .zero, [], e) from fun e he h0 => by rw [Jp.open_bad (by rw [he]; exact h0), he])
  have hl2 := HBOX2.out.load
  obtain ⟨A2, c2, c0, c3⟩ := HBOX2.out.cells
  clear hb2 hl0 c0
  have HABL := Lib.hid (show ableB d = true → d.right = true from fun q => by
    rw [ableB, Bool.and_eq_true] at q
    exact q.1)
  have HZ := Lib.hid (fun e => HDV2.out.out HRET2.out .zero e)
  generalize ableB d = ab at *
  cases ab
  case false =>
    have HRES := Lib.hid (HBAD.out 1 HAR.out (by decide))
    obtain ⟨o1, o2, o3, o4, o5⟩ := HZ.out 1
    have o2 : (logSet ⟨bb + 1 + 1, 0, none⟩ (.agg #[.int .i64 0, .int .i64 0, .int .i64 0])).run Tryd.prog (putDisk w2 (bb + 1) C) = .ok () (putLog (putDisk w2 (bb + 1) C) (bb + 1 + 1) .zero) := o2
    have HO3 := Lib.hid o3
    have HO4 := Lib.hid o4
    have HO5 := Lib.hid o5
    clear o5 o3 o4
    go_wp2_with fail
    refine bodyPost_ret (ret_cells_tmps rfl rfl HO3.out rfl HO4.out) rfl ?_
    rw [HRES.out]
    exact open_out HO5.out (recsFrom_nil _ _)
  generalize hdn : d.down = dn at *
  cases dn
  case true =>
    have HRES := Lib.hid (HBAD.out 9 HAR.out (by decide))
    obtain ⟨o1, o2, o3, o4, o5⟩ := HZ.out 9
    have o2 : (logSet ⟨bb + 1 + 1, 0, none⟩ (.agg #[.int .i64 0, .int .i64 0, .int .i64 0])).run Tryd.prog (putDisk w2 (bb + 1) C) = .ok () (putLog (putDisk w2 (bb + 1) C) (bb + 1 + 1) .zero) := o2
    have HO3 := Lib.hid o3
    have HO4 := Lib.hid o4
    have HO5 := Lib.hid o5
    clear o5 o3 o4
    go_wp2_with fail
    refine bodyPost_ret (ret_cells_tmps rfl rfl HO3.out rfl HO4.out) rfl ?_
    rw [HRES.out]
    exact open_out HO5.out (recsFrom_nil _ _)
  have HDN := Lib.hid hdn
  have HRT := Lib.hid (HABL.out rfl)
  have HAB0 := Lib.hid (show d.able = 0 from HAR.out)
  have HUP := Lib.hid (able_up HAB0.out)
  have hhf : d.half = d.secs.length / 2 := rfl
  have HPOS := Lib.hid (show 1 ≤ d.half ∧ d.half ≤ 1024 by have := HUP.out.2.2; omega)
  clear hdn hhf
  have HU0 := Lib.hid (show Calls Tryd.prog 45 #[.agg C, .int .i64 0] w2 fun e w' => UsedPost d 0 w2 e w' from
    rused_f w2 C d 0 HBOX2.out.disk H4.out (by omega) HRT.out HDN.out HPOS.out.1 (HL.out.below HRET2.out.below HL.out.size))
  go_wp2_with fail
  refine HU0.out.mono ?_
  rintro e w3 hpost
  obtain ⟨A0, n0, k0, g0, u0, ok0, rfl, hb3, hc0⟩ := used_any hpost
  have HB3 := Lib.hid hb3
  have HRET3 := Lib.hid (HRET2.out.on hb3 HRET2.out.lt)
  have HDV3 := Lib.hid (HDV2.out.on hb3 (Nat.le_refl _))
  have HBOX3 := Lib.hid (HBOX2.out.below hb3)
  have HC0 := Lib.hid hc0
  have hl3 := HBOX3.out.load
  clear hb3 hl2 c3 hpost hc0
  have HU1 := Lib.hid (show Calls Tryd.prog 45 #[.agg C, .int .i64 1] w3 fun e w' => UsedPost d 1 w3 e w' from
    rused_f w3 C d 1 HBOX3.out.disk H4.out (by omega) HRT.out HDN.out HPOS.out.1 (HL.out.below HRET3.out.below HL.out.size))
  go_wp2_with fail
  refine HU1.out.mono ?_
  rintro e w4 hpost
  obtain ⟨A1, n1, k1, g1, u1, ok1, rfl, hb4, hc1⟩ := used_any hpost
  have HB4 := Lib.hid hb4
  have HRET4 := Lib.hid (HRET3.out.on hb4 HRET3.out.lt)
  have HDV4 := Lib.hid (HDV3.out.on hb4 (Nat.le_refl _))
  have HBOX4 := Lib.hid (HBOX3.out.below hb4)
  have HB0 := Lib.hid (show ∃ B0, B0 = w2.heap.size from ⟨_, rfl⟩)
  obtain ⟨B0, hB0⟩ := HB0.out
  have HLT0 := Lib.hid (show bb + 1 + 1 < B0 by rw [hB0]; exact HRET2.out.lt)
  have HC0' := Lib.hid (show (ok0 = false ∧ d.used 0 = none) ∨ (ok0 = true ∧ ∃ (rs : List (List UInt8)) (x : Nat), d.used 0 = some (rs, g0, x) ∧ RecsFrom w4 B0 (.slice A0 n0 k0) rs) by
    rcases HC0.out with ⟨h1, h2⟩ | ⟨h1, rs, x, h2, h3⟩
    · exact .inl ⟨h1, h2⟩
    · exact .inr ⟨h1, rs, x, h2, by rw [hB0]; exact h3.keep hb4.size (fun b hb _ => hb4.block b hb)⟩)
  have HC1 := Lib.hid (show (ok1 = false ∧ d.used 1 = none) ∨ (ok1 = true ∧ ∃ (rs : List (List UInt8)) (x : Nat), d.used 1 = some (rs, g1, x) ∧ RecsFrom w4 B0 (.slice A1 n1 k1) rs) by
    rcases hc1 with ⟨h1, h2⟩ | ⟨h1, rs, x, h2, h3⟩
    · exact .inl ⟨h1, h2⟩
    · exact .inr ⟨h1, rs, x, h2, h3.weak (by rw [hB0]; exact HB3.out.size)⟩)
  have hl4 := HBOX4.out.load
  clear hb4 hl3 hpost hc1 hB0 HB0
  have HNB := Lib.hid (show ok0 = false → ok1 = false → d.best = none from fun e0 e1 => by
    rcases HC0'.out with ⟨_, h0⟩ | ⟨h0, _⟩
    · rcases HC1.out with ⟨_, h1⟩ | ⟨h1, _⟩
      · exact best_00 h0 h1
      · rw [e1] at h1; cases h1
    · rw [e0] at h0; cases h0)
  have HB1 := Lib.hid (show (ok1 && (!ok0 || decide (g0 < g1))) = true → ∃ rs, d.best = some (rs, 1) ∧ RecsFrom w4 B0 (.slice A1 n1 k1) rs from fun q => by
    rcases HC1.out with ⟨h1, _⟩ | ⟨h1, rs1, x1, h1', hr1⟩
    · rw [h1] at q; cases q
    · refine ⟨rs1, ?_, hr1⟩
      rcases HC0'.out with ⟨h0, h0'⟩ | ⟨h0, rs0, x0, h0', hr0⟩
      · exact best_01 h0' h1'
      · rw [h1, h0] at q
        exact best_11a h0' h1' (by simpa using q))
  have HB2 := Lib.hid (show (ok1 && (!ok0 || decide (g0 < g1))) = false → (ok0 = true ∨ ok1 = true) → ∃ rs, d.best = some (rs, 0) ∧ RecsFrom w4 B0 (.slice A0 n0 k0) rs from fun q hok => by
    rcases HC0'.out with ⟨h0, h0'⟩ | ⟨h0, rs0, x0, h0', hr0⟩
    · rcases hok with k | k
      · rw [h0] at k; cases k
      · rw [h0, k] at q; cases q
    · refine ⟨rs0, ?_, hr0⟩
      rcases HC1.out with ⟨h1, h1'⟩ | ⟨h1, rs1, x1, h1', hr1⟩
      · exact best_10 h0' h1'
      · rw [h1, h0] at q
        exact best_11b h0' h1' (by simpa using q))
  go_upto_region 8 with fail
  clear hl4
  go_cut [50] from 41 to 49 (fun s50 wx => s50 = .bool (ok1 && (!ok0 || decide (g0 < g1))) ∧ wx = w4)
  case first =>
    cases ok1
    · go_wp2_with fail
      go_meet
      exact ⟨rfl, rfl⟩
    · cases ok0
      · go_wp2_with fail
        go_meet
        exact ⟨rfl, rfl⟩
      · by_cases hg : g0 < g1
        · have hdg : decide (g0 < g1) = true := by simp; omega
          go_wp2_with fail
          go_meet
          exact ⟨by simp [hg], rfl⟩
        · have hdg : decide (g0 < g1) = false := by simp; omega
          go_wp2_with fail
          go_meet
          exact ⟨by simp [hg], rfl⟩
  case rest =>
  obtain ⟨rfl, rfl⟩ := hcut
  rename World => w4
  obtain ⟨b1, hb1⟩ : ∃ b1, b1 = (ok1 && (!ok0 || decide (g0 < g1))) := ⟨_, rfl⟩
  rw [← hb1] at HB1 HB2 ⊢
  clear hb1
  go_upto_if 50 with fail
  go_cut [6, 14] from 51 to 51 (fun s6 s14 wx => wx = w4 ∧ ∃ (h : Nat) (A : Option Addr) (n c : Nat), s6 = .slice A n c ∧ s14 = .int .i64 (h : Int) ∧ Hid ((ok0 = true ∨ ok1 = true) → ∃ rs, d.best = some (rs, h) ∧ RecsFrom w4 B0 (.slice A n c) rs))
  case first =>
    cases b1
    · go_wp2_with fail
      go_meet
      exact ⟨rfl, 0, _, _, _, rfl, rfl, Lib.hid (HB2.out (by simp))⟩
    · go_wp2_with fail
      go_meet
      exact ⟨rfl, 1, _, _, _, rfl, rfl, Lib.hid (fun _ => HB1.out (by simp))⟩
  case rest =>
  obtain ⟨rfl, h, A, n, c, rfl, rfl, HOK⟩ := hcut
  rename World => w4
  go_upto_region 10 with fail
  go_cut [57] from 52 to 56 (fun s57 wx => s57 = .bool (!ok0 && !ok1) ∧ wx = w4)
  case first =>
    cases ok0
    · cases ok1
      · go_wp2_with fail
        go_meet
        exact ⟨rfl, rfl⟩
      · go_wp2_with fail
        go_meet
        exact ⟨rfl, rfl⟩
    · go_wp2_with fail
      go_meet
      exact ⟨rfl, rfl⟩
  case rest =>
  obtain ⟨rfl, rfl⟩ := hcut
  rename World => w4
  obtain ⟨b2, hb2⟩ : ∃ b2, b2 = (!ok0 && !ok1) := ⟨_, rfl⟩
  have HBB2 := Lib.hid hb2
  rw [← hb2]
  clear hb2
  have hl4 := HBOX4.out.load
  cases b2
  case true =>
    have HOO := Lib.hid (both_false HBB2.out)
    have HRES := Lib.hid (Jp.open_none HAB0.out (HNB.out HOO.out.1 HOO.out.2))
    obtain ⟨o1, o2, o3, o4, o5⟩ := HDV4.out.out HRET4.out .zero 20
    have o2 : (logSet ⟨bb + 1 + 1, 0, none⟩ (.agg #[.int .i64 0, .int .i64 0, .int .i64 0])).run Tryd.prog (putDisk w4 (bb + 1) C) = .ok () (putLog (putDisk w4 (bb + 1) C) (bb + 1 + 1) .zero) := o2
    have HO3 := Lib.hid o3
    have HO4 := Lib.hid o4
    have HO5 := Lib.hid o5
    clear o5 o3 o4
    go_wp2_with fail
    refine bodyPost_ret (ret_cells_tmps rfl rfl HO3.out rfl HO4.out) rfl ?_
    rw [HRES.out]
    exact open_out HO5.out (recsFrom_nil _ _)
  case false =>
    obtain ⟨rs, hbe, hrf⟩ := HOK.out (some_true HBB2.out)
    have HBE := Lib.hid hbe
    have HRF := Lib.hid hrf
    clear hbe hrf
    obtain ⟨hh, gg, uu, hu⟩ : h ≤ 1 ∧ ∃ gg uu, d.used h = some (rs, gg, uu) := Jp.best_used HBE.out
    obtain ⟨s1, _, s3, _⟩ := Jp.used_shape hu
    have hhf : d.half = d.secs.length / 2 := rfl
    have HRL := Lib.hid (show rs.length ≤ 2000 by
      have := Jp.totN_ge (Jp.stand_len s1)
      have := HUP.out.2.2.2
      omega)
    have HLEN := Lib.hid (Jp.stand_len s1)
    clear hu s1 s3 hhf
    have HLY := Lib.hid (lay_is d (1 - h) rs)
    have HNEXT := Lib.hid (show ∀ W, RetAt w W (bb + 1) (bb + 1 + 1) → Calls Tryd.prog 42 #[.agg C] W fun e w' => e = .returned (.int .i64 (d.top + 1)) ∧ Below W.heap.size W w' from fun W hR =>
      (rnext_f W C d (HD.out.kept hR.below (Nat.le_refl _)) H4.out HRT.out HDN.out (HL.out.below hR.below HL.out.size)).mono fun _ _ h => h)
    obtain ⟨tp, htp⟩ : ∃ tp, tp = d.top := ⟨_, rfl⟩
    rw [← htp] at HNEXT HLY
    have HTB := Lib.hid (topBounds d d.secs.length)
    clear htp
    go_wp2_with fail
    refine (HNEXT.out w4 HRET4.out).mono ?_
    rintro e w5 ⟨rfl, hb5⟩
    have HB5 := Lib.hid hb5
    have HRET5 := Lib.hid (HRET4.out.on hb5 HRET4.out.lt)
    have HDV5 := Lib.hid (HDV4.out.on hb5 (Nat.le_refl _))
    have HBOX5 := Lib.hid (HBOX4.out.below hb5)
    have HRF5 := Lib.hid (HRF.out.keep hb5.size (fun b hb _ => hb5.block b hb))
    clear hb5 hl4
    by_cases ht : 1099511627776 ≤ tp
    case pos =>
      have hd5 : decide (1099511627776 < tp + 1) = true := by simp; omega
      have HRES := Lib.hid (show d.open_ = (d, .zero, [], 5) from Jp.open_some HAB0.out HBE.out (HLY.out.trans (if_pos ht)))
      clear ht
      obtain ⟨o1, o2, o3, o4, o5⟩ := HDV5.out.out HRET5.out .zero 5
      have o2 : (logSet ⟨bb + 1 + 1, 0, none⟩ (.agg #[.int .i64 0, .int .i64 0, .int .i64 0])).run Tryd.prog (putDisk w5 (bb + 1) C) = .ok () (putLog (putDisk w5 (bb + 1) C) (bb + 1 + 1) .zero) := o2
      have HO3 := Lib.hid o3
      have HO4 := Lib.hid o4
      have HO5 := Lib.hid o5
      clear o5 o3 o4
      have hl5 := HBOX5.out.load
      go_wp2_with fail
      refine bodyPost_ret (ret_cells_tmps rfl rfl HO3.out rfl HO4.out) rfl ?_
      rw [HRES.out]
      exact open_out HO5.out (recsFrom_nil _ _)
    have hd5 : decide (1099511627776 < tp + 1) = false := by simp; omega
    have HLY2 := Lib.hid (HLY.out.trans (if_neg ht))
    clear ht
    obtain ⟨X, m2, er, hX⟩ : ∃ X m2 er, layR d (1 - h) (tp + 1) rs = (X, m2, er) := ⟨_, _, _, rfl⟩
    have HRES0 := Lib.hid (show d.open_ = (X, m2, if er = 0 then rs else [], er) from Jp.open_some HAB0.out HBE.out (HLY2.out.trans hX))
    have HX := Lib.hid hX
    have HSZ5 := Lib.hid (show bb + 1 + 1 < w5.heap.size from HRET5.out.lt)
    have hs4 : IntKind.i64.wrap (1 - (h : Int)) = ((1 - h : Nat) : Int) := by rw [IntWalk.i64_in _ (by omega)]; omega
    have HNX := Lib.hid (show ∀ W, Below w5.heap.size w5 W → Calls Tryd.prog 42 #[.agg C] W fun e w' => e = .returned (.int .i64 (tp + 1)) ∧ Below w5.heap.size w5 w' ∧ Below W.heap.size W w' from fun W hW =>
      (HNEXT.out W (HRET5.out.on hW HSZ5.out)).mono fun _ _ ⟨h1, h2⟩ => ⟨h1, below_chain hW h2, h2⟩)
    have HLA := Lib.hid (show ∀ W, Below w5.heap.size w5 W → Calls Tryd.prog 43 #[.agg C, .int .i64 ((1 - h : Nat) : Int), .int .i64 (tp + 1), .slice A n c] W fun e w' => ∃ C2, e = .returned (.tuple #[.agg C2, logV m2, .int .i64 er]) ∧ D4 C2 ∧ DiskAt w' (.agg C2) X ∧ (∀ b, b < W.heap.size → Clear b (.agg C) → Clear b (.agg C2)) ∧ Below w5.heap.size w5 w' ∧ Below W.heap.size W w' from fun W hW =>
      (rlay_f W C d (1 - h) (tp + 1) (.slice A n c) rs ((HBOX5.out.below hW).disk) H4.out (by omega) HUP.out.2.2.2 (HRF5.out.keep hW.size (fun b hb _ => hW.block b hb)).at HRL.out HLEN.out (HL.out.below (HRET5.out.on hW HSZ5.out).below HL.out.size)).mono fun e w' ⟨⟨u, h1, hg⟩, hb⟩ => by
        rw [HX.out] at h1 hg
        obtain ⟨C2, rfl, hc2⟩ := hg.1.agg
        exact ⟨C2, h1, hc2, hg.1, hg.2, below_chain hW hb, hb⟩)
    have HK := Lib.hid (show ∀ W, Below w5.heap.size w5 W → (diskVar ⟨bb, 0, none⟩).run Tryd.prog W = .ok (.agg C) W from fun W hW => (HBOX5.out.below hW).load)
    have hb0 : Below w5.heap.size w5 w5.drew := (Below.refl _ _).drew
    clear hX
    go_wp2_with fail
    go_cut [15, 16, 17] from 65 to 75 (fun s11 s12 s13 wx => ∃ b11 b12 C2, s11 = .pointer (some ⟨b11, 0, none⟩) ∧ s12 = .pointer (some ⟨b12, 0, none⟩) ∧ s13 = .int .i64 er ∧ LaidTwo w5 wx b11 b12 C C2 X m2)
    case first =>
      go_region_held3 (fun W => (diskVar ⟨bb, 0, none⟩).run Tryd.prog W = .ok (.agg C) W)
        (exact HK.out _ (by (repeat' (first | with_reducible exact hbc | with_reducible exact hba | with_reducible exact hb0 | with_reducible refine below_putLog ?_ ?_ _ | with_reducible refine below_putDisk ?_ ?_ _ | with_reducible refine below_new ?_ _ | with_reducible refine Below.drew ?_ | with_reducible exact Below.refl _ _ | with_reducible exact Nat.le_refl _ | (simp [size_putDisk, size_putLog]; done) | (have h9 := hbc.size; simp [size_putDisk, size_putLog]; omega) | (have h9 := hba.size; simp [size_putDisk, size_putLog]; omega)))))
        (first
          | (go_at_call 42
             (with_reducible refine (HNX.out _ ?_).mono ?_)
             · (repeat' (first | with_reducible exact hbc | with_reducible exact hba | with_reducible exact hb0 | with_reducible refine below_putLog ?_ ?_ _ | with_reducible refine below_putDisk ?_ ?_ _ | with_reducible refine below_new ?_ _ | with_reducible refine Below.drew ?_ | with_reducible exact Below.refl _ _ | with_reducible exact Nat.le_refl _ | (simp [size_putDisk, size_putLog]; done) | (have h9 := hbc.size; simp [size_putDisk, size_putLog]; omega) | (have h9 := hba.size; simp [size_putDisk, size_putLog]; omega)))
             rintro e wa ⟨rfl, hba, hxa⟩)
          | (go_at_call 43
             (with_reducible refine (HLA.out _ ?_).mono ?_)
             · (repeat' (first | with_reducible exact hbc | with_reducible exact hba | with_reducible exact hb0 | with_reducible refine below_putLog ?_ ?_ _ | with_reducible refine below_putDisk ?_ ?_ _ | with_reducible refine below_new ?_ _ | with_reducible refine Below.drew ?_ | with_reducible exact Below.refl _ _ | with_reducible exact Nat.le_refl _ | (simp [size_putDisk, size_putLog]; done) | (have h9 := hbc.size; simp [size_putDisk, size_putLog]; omega) | (have h9 := hba.size; simp [size_putDisk, size_putLog]; omega)))
             rintro e wc ⟨C2, rfl, hc2, hg1, hg2, hbc, hxc⟩)
          | (rw [store_disk (by (repeat' (first | with_reducible exact there_disk _ zeroD4 | with_reducible exact there_disk_at _ (by simp) | with_reducible exact size_log3 _ | with_reducible exact there_log_at _ (by simp) | with_reducible refine there_disk_pass ?_ hxc | with_reducible refine there_disk_pass ?_ hxa | with_reducible refine there_log_pass ?_ hxc | with_reducible refine there_log_pass ?_ hxa | with_reducible refine there_drew ?_ | with_reducible refine there_disk_alloc ?_ _ | with_reducible refine there_log_alloc ?_ _ | with_reducible refine there_putDisk ?_ _ _ | with_reducible refine there_putLog ?_ _ _))) hc2]
             go_simp)
          | (rw [store_log (by (repeat' (first | with_reducible exact there_disk _ zeroD4 | with_reducible exact there_disk_at _ (by simp) | with_reducible exact size_log3 _ | with_reducible exact there_log_at _ (by simp) | with_reducible refine there_disk_pass ?_ hxc | with_reducible refine there_disk_pass ?_ hxa | with_reducible refine there_log_pass ?_ hxc | with_reducible refine there_log_pass ?_ hxa | with_reducible refine there_drew ?_ | with_reducible refine there_disk_alloc ?_ _ | with_reducible refine there_log_alloc ?_ _ | with_reducible refine there_putDisk ?_ _ _ | with_reducible refine there_putLog ?_ _ _))) m2]
             go_simp))
      all_goals go_wp2_with fail
      all_goals go_meet
      all_goals
        have s1 := hxa.size
        have s2 := hxc.size
        have s3 := hba.size
        have s4 := hbc.size
        try simp at s1
        try simp at s2
        refine ⟨_, _, C2, rfl, rfl, rfl, ?_⟩
        first
          | (with_reducible refine laidTwo_put ?_ ?_ ?_ ?_ ?_ ?_ ?_ ?_ ?_ ?_ hc2
             · (repeat' (first | with_reducible exact there_disk _ zeroD4 | with_reducible exact there_disk_at _ (by simp) | with_reducible exact size_log3 _ | with_reducible exact there_log_at _ (by simp) | with_reducible refine there_disk_pass ?_ hxc | with_reducible refine there_disk_pass ?_ hxa | with_reducible refine there_log_pass ?_ hxc | with_reducible refine there_log_pass ?_ hxa | with_reducible refine there_drew ?_ | with_reducible refine there_disk_alloc ?_ _ | with_reducible refine there_log_alloc ?_ _ | with_reducible refine there_putDisk ?_ _ _ | with_reducible refine there_putLog ?_ _ _))
             · (repeat' (first | with_reducible exact there_disk _ zeroD4 | with_reducible exact there_disk_at _ (by simp) | with_reducible exact size_log3 _ | with_reducible exact there_log_at _ (by simp) | with_reducible refine there_disk_pass ?_ hxc | with_reducible refine there_disk_pass ?_ hxa | with_reducible refine there_log_pass ?_ hxc | with_reducible refine there_log_pass ?_ hxa | with_reducible refine there_drew ?_ | with_reducible refine there_disk_alloc ?_ _ | with_reducible refine there_log_alloc ?_ _ | with_reducible refine there_putDisk ?_ _ _ | with_reducible refine there_putLog ?_ _ _))
             · first | omega | (simp; done) | (simp; omega)
             · repeat' (first | with_reducible exact hg1 | with_reducible refine diskAt_alloc ?_ _)
             · first | with_reducible exact hg1.clear (by first | omega | (simp; done) | (simp; omega)) | with_reducible exact hg2 _ (by first | omega | (simp; done) | (simp; omega)) (HBOX5.out.disk.clear (by first | omega | (simp; done) | (simp; omega)))
             · first | with_reducible exact hg1.clear (by first | omega | (simp; done) | (simp; omega)) | with_reducible exact hg2 _ (by first | omega | (simp; done) | (simp; omega)) (HBOX5.out.disk.clear (by first | omega | (simp; done) | (simp; omega)))
             · (repeat' (first | with_reducible exact hbc | with_reducible exact hba | with_reducible exact hb0 | with_reducible refine below_putLog ?_ ?_ _ | with_reducible refine below_putDisk ?_ ?_ _ | with_reducible refine below_new ?_ _ | with_reducible refine Below.drew ?_ | with_reducible exact Below.refl _ _ | with_reducible exact Nat.le_refl _ | (simp [size_putDisk, size_putLog]; done) | (have h9 := hbc.size; simp [size_putDisk, size_putLog]; omega) | (have h9 := hba.size; simp [size_putDisk, size_putLog]; omega)))
             · first | omega | (simp; done) | (simp; omega)
             · first | omega | (simp; done) | (simp; omega)
             · exact fun b hb hc => hg2 b (by first | omega | (simp; done) | (simp; omega)) hc)
          | (with_reducible refine laidTwo_new ?_ ?_ ?_ ?_ ?_ ?_ ?_ hc2
             · first | with_reducible rfl | (simp; done)
             · (repeat' (first | with_reducible exact there_disk _ zeroD4 | with_reducible exact there_disk_at _ (by simp) | with_reducible exact size_log3 _ | with_reducible exact there_log_at _ (by simp) | with_reducible refine there_disk_pass ?_ hxc | with_reducible refine there_disk_pass ?_ hxa | with_reducible refine there_log_pass ?_ hxc | with_reducible refine there_log_pass ?_ hxa | with_reducible refine there_drew ?_ | with_reducible refine there_disk_alloc ?_ _ | with_reducible refine there_log_alloc ?_ _ | with_reducible refine there_putDisk ?_ _ _ | with_reducible refine there_putLog ?_ _ _))
             · repeat' (first | with_reducible exact hg1 | with_reducible refine diskAt_alloc ?_ _)
             · first | with_reducible exact hg1.clear (by first | omega | (simp; done) | (simp; omega)) | with_reducible exact hg2 _ (by first | omega | (simp; done) | (simp; omega)) (HBOX5.out.disk.clear (by first | omega | (simp; done) | (simp; omega)))
             · (repeat' (first | with_reducible exact hbc | with_reducible exact hba | with_reducible exact hb0 | with_reducible refine below_putLog ?_ ?_ _ | with_reducible refine below_putDisk ?_ ?_ _ | with_reducible refine below_new ?_ _ | with_reducible refine Below.drew ?_ | with_reducible exact Below.refl _ _ | with_reducible exact Nat.le_refl _ | (simp [size_putDisk, size_putLog]; done) | (have h9 := hbc.size; simp [size_putDisk, size_putLog]; omega) | (have h9 := hba.size; simp [size_putDisk, size_putLog]; omega)))
             · first | omega | (simp; done) | (simp; omega)
             · exact fun b hb hc => hg2 b (by first | omega | (simp; done) | (simp; omega)) hc)
    case rest =>
      rename World => wx
      obtain ⟨b11, b12, C2, rfl, rfl, rfl, hlt2⟩ := hcut
      have HRETX := Lib.hid (HRET5.out.on hlt2.B HRET5.out.lt)
      have HDVX := Lib.hid (show Dv w wx (.agg C) (bb + 1) (bb + 1 + 1) C2 X from
        ⟨hlt2.d4, hlt2.D, hlt2.tr _ (by have := HRET5.out.ne; have := HRET5.out.lt; omega) HDV5.out.cD, hlt2.tr _ HRET5.out.lt HDV5.out.cL, fun b hb hc => hlt2.tr b (Nat.lt_of_lt_of_le hb HRET5.out.below.size) hc⟩)
      have HLE := Lib.hid (show bb + 1 + 1 < b11 ∧ bb + 1 + 1 < b12 by have := hlt2.le1; have := hlt2.le2; have := HSZ5.out; omega)
      have HVX := Lib.hid hlt2.V
      have HGX := Lib.hid hlt2.G
      have HRFX := Lib.hid (HRF5.out.keep (w' := wx.drew) hlt2.B.size (fun b hb _ => hlt2.B.block b hb))
      clear hlt2
      by_cases her : er = 0
      case neg =>
        have hne : (er != 0) = true := by rw [bne_iff_ne]; exact her
        have HRES := Lib.hid (show d.open_ = (X, m2, [], er) by rw [HRES0.out, if_neg her])
        clear her
        obtain ⟨p1, p2, p3, o1, o2, o3, o4, o5⟩ := ret_region HDVX.out HRETX.out HVX.out HGX.out (by have := HLE.out; omega) (by have := HLE.out; omega) er
        go_wp2_with fail
        go_region_held3 (fun W => (diskVar ⟨b11, 0, none⟩).run Tryd.prog W = .ok (.agg C2) W ∧ (logVar ⟨b12, 0, none⟩).run Tryd.prog W = .ok (logV m2) W) (first | exact p1 | exact p2 | exact p3) (fail)
        all_goals go_wp2_with fail
        all_goals
          refine bodyPost_ret (ret_cells_tmps rfl rfl o3.out rfl o4.out) rfl ?_
          rw [HRES.out]
          exact open_out o5.out (recsFrom_nil _ _)
      subst her
      have HRES := Lib.hid (show d.open_ = (X, m2, rs, 0) from HRES0.out)
      obtain ⟨p1, p2, p3, o1, o2, o3, o4, o5⟩ := ret_region HDVX.out HRETX.out HVX.out HGX.out (by have := HLE.out; omega) (by have := HLE.out; omega) 0
      have HRP := Lib.hid (recs_put (bD := bb + 1) (bL := bb + 1 + 1) (C := C2) (l := m2) HRFX.out (by have := HLT0.out; omega) HLT0.out (show w.heap.size ≤ B0 by have := HLT0.out; have := HRET5.out.base; omega))
      go_wp2_with fail
      go_region_held3 (fun W => (diskVar ⟨b11, 0, none⟩).run Tryd.prog W = .ok (.agg C2) W ∧ (logVar ⟨b12, 0, none⟩).run Tryd.prog W = .ok (logV m2) W) (first | exact p1 | exact p2 | exact p3) (fail)
      all_goals go_wp2_with fail
      all_goals
        refine bodyPost_ret (ret_cells_tmps rfl rfl o3.out rfl o4.out) rfl ?_
        rw [HRES.out]
        exact open_out o5.out HRP.out
end Go.Proofs.YtbhjigejpdbeiaaDoor
