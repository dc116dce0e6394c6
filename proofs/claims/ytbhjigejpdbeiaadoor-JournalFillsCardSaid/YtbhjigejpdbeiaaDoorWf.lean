/-
  JournalFills, walked: records that are appended are there, one behind the other, up to the first that has no room.
-/
import Derived.Test.YtbhjigejpdbeiaaDoorKWa
import Derived.Test.YtbhjigejpdbeiaaDoorTn
set_option linter.unusedSimpArgs false
set_option linter.unusedVariables false
namespace Go.Proofs.YtbhjigejpdbeiaaDoor
open Go.RowKit Go.Shelf
set_option linter.unusedVariables false
set_option maxRecDepth 8000

/-- Between two rounds: the disk and its log in their variables, and what came so far. -/
structure FillAt (w0 wr : World) (b7 b9 base N : Nat) (vc : Value) (C : Array Value) (d : Dk) (vs : List Value) (came : List (List UInt8)) : Prop where
  V : DVar wr b7 C
  T : wr.there b7 0 4
  D4 : D4 C
  G : LogAt wr b9 (Jp.logOf 0 1 came)
  D : DiskAt wr (.agg C) d
  I : Jp.Inv d 0 1 came 1
  secs : d.secs.length = N
  fuse : d.fuse < 0
  B : Below w0.heap.size w0 wr
  own : wr.ownsRow base 28 1 vc vs.length vs
  set : RowSet w0 0 none vs came
  clear : ∀ g, vc.ownBlock = some g → Clear g (.agg C)
  c7 : Clear b7 (.agg C)
  c9 : Clear b9 (.agg C)
/-- The round's end: the new disk and log in the old variables. -/
theorem fill_turn {w0 W : World} {b7 b9 base N : Nat} {vc : Value} {C2 : Array Value} {X : Dk} {vs : List Value} {came : List (List UInt8)} {l : Dk.Log} (hl : l = Jp.logOf 0 1 came) (h79 : b7 < b9) (hb9 : b9 < base) (hw0 : w0.heap.size ≤ b7) (h4 : D4 C2) (hD : DiskAt W (.agg C2) X) (hI : Jp.Inv X 0 1 came 1)
    (hs : X.secs.length = N) (hf : X.fuse < 0) (hB : Below w0.heap.size w0 W) (own : W.ownsRow base 28 1 vc vs.length vs) (set : RowSet w0 0 none vs came) (clear : ∀ g, vc.ownBlock = some g → Clear g (.agg C2)) (c7 : Clear b7 (.agg C2)) (c9 : Clear b9 (.agg C2))
    (R : DVar (putLog (putDisk W.drew b7 C2) b9 l) b7 C2 ∧ (putLog (putDisk W.drew b7 C2) b9 l).there b7 0 4 ∧ LogAt (putLog (putDisk W.drew b7 C2) b9 l) b9 l) : FillAt w0 (putLog (putDisk W.drew b7 C2) b9 l) b7 b9 base N vc C2 X vs came := by
  subst hl
  have hlt := own_lt own
  have hd0 : DiskAt W.drew (.agg C2) X := hD.kept ((Below.refl W.heap.size W).drew) (Nat.le_refl _)
  have o1 : (putDisk W.drew b7 C2).ownsRow base 28 1 vc vs.length vs := own_keep (own_drew own) (fun g hg => heap_putDisk _ _ _ _ (by have := hlt g hg; omega))
  have o2 := own_keep (w' := putLog (putDisk W.drew b7 C2) b9 (Jp.logOf 0 1 came)) o1 (fun g hg => heap_putLog _ _ _ _ (by have := hlt g hg; omega))
  exact ⟨R.1, R.2.1, h4, R.2.2, (hd0.keep c7 (by rw [size_putDisk]; exact Nat.le_refl _) (fun q _ hq => heap_putDisk _ _ _ _ hq)).keep c9 (by rw [size_putLog]; exact Nat.le_refl _) (fun q _ hq => heap_putLog _ _ _ _ hq),
    hI, hs, hf, below_putLog (below_putDisk hB.drew hw0 C2) (by omega) _, o2, set, clear, c7, c9⟩
/-- What an act on the journal answers, and where it leaves it. -/
theorem fills_step {d : Dk} {came : List (List UInt8)} (I : Jp.Inv d 0 1 came 1) (h8 : 8 ≤ d.secs.length) (hf : d.fuse < 0) (r : List UInt8) {X : Dk} {m : Dk.Log} {er : Int} (hX : d.append (Jp.logOf 0 1 came) r = (X, m, er)) :
    (4096 < r.length → X = d ∧ m = Jp.logOf 0 1 came ∧ er = 3) ∧
    (r.length ≤ 4096 → d.half < 1 + Jp.totN came + sizeN r.length → X = d ∧ m = Jp.logOf 0 1 came ∧ er = 10) ∧
    (r.length ≤ 4096 → ¬ d.half < 1 + Jp.totN came + sizeN r.length → m = Jp.logOf 0 1 (came ++ [r]) ∧ er = 0 ∧ Jp.Inv X 0 1 (came ++ [r]) 1 ∧ X.secs.length = d.secs.length ∧ X.fuse < 0) := by
  refine ⟨fun h => ?_, fun h hh => ?_, fun h hh => ?_⟩
  · have := I.long h8 h
    rw [hX] at this
    injection this with e1 e2
    injection e2 with e2 e3
    exact ⟨e1, e2, e3⟩
  · have := I.full h8 h hh
    rw [hX] at this
    injection this with e1 e2
    injection e2 with e2 e3
    exact ⟨e1, e2, e3⟩
  · rcases I.append h8 h (by omega) with ⟨y, h1, h2, h3, h4⟩ | ⟨x, h1, h2, _⟩
    · rw [hX] at h1
      injection h1 with e1 e2
      injection e2 with e2 e3
      subst e1
      exact ⟨e2, e3, h2, h3, by rw [h4 hf]; exact hf⟩
    · omega
theorem disk_grown {w w' : World} {v : Value} {d : Dk} {o : Option Nat} (h : DiskAt w v d) (hg : w.grownBy w' o) (hc : ∀ g, o = some g → Clear g v) : DiskAt w' v d := by
  cases o with
  | none => exact h.keep (h.clear (Nat.le_refl _)) hg.size (fun q hq _ => hg.block q hq (fun e => by cases e))
  | some g => exact h.keep (hc g rfl) hg.size (fun q hq hne => hg.block q hq (fun e => by injection e with e; exact hne e))
set_option maxHeartbeats 8000000 in
theorem law_fills (w : World) (v : Value) (rs : List (List UInt8)) (hr : RecsAt w v rs) (s : UInt8) (hL : Laid w) :
    Calls Tryd.prog 6 #[v, .int .u8 s.toNat] w fun e w' => e = .returned (.bool true) ∧ Below w.heap.size w w' := by
  obtain ⟨A, n, c, vs0, rfl, hn, hrow, hset⟩ := hr
  have HSET := Lib.hid hset
  have HN := Lib.hid hn
  have HROW := Lib.hid hrow
  have HL := Lib.hid hL
  have HS := Lib.hid s.toNat_lt
  generalize s.toNat = sn at *
  clear hset hn hrow hL
  have hN63 : (n : Int) ≤ 9223372036854775807 := by have := HROW.out.2.1; have := HROW.out.2.2.1; omega
  go_enter Tryd.func6, Tryd.ntmps6
  go_wp2_with fail
  refine (alive15_f w HL.out).mono ?_
  rintro e w2 ⟨rfl, hb2⟩
  have HB2 := Lib.hid hb2
  clear hb2
  go_wp2_with fail
  go_loopw [5, 6] (fun us ix wr => ∃ k q : Nat, us = .int .i64 (q : Int) ∧ ix = .int .i64 (k : Int) ∧ k ≤ n ∧ n ≤ q ∧ (q ≤ n ∨ q ≤ 15000) ∧ Hid (q ≤ 5000 → ∀ i r, i < k → rs[i]? = some r → r.length ≤ 5000) ∧ wr = w2) (fun us ix wr => n - (intOf ix).toNat)
  case atStart => exact ⟨0, n, rfl, rfl, by omega, by omega, by omega, Lib.hid (fun _ i r hi => by omega), rfl⟩
  case round =>
    obtain ⟨k, q, rfl, rfl, hk, hnq, hq, HALL, rfl⟩ := hrel
    by_cases hlt : k < n ∧ q ≤ 5000
    case pos =>
      have hdn : decide (k < n) = true := by simp; omega
      have hdq : decide ((q : Int) ≤ 5000) = true := by simp; omega
      have hkl : k < rs.length := by have := HN.out; omega
      obtain ⟨r, hr⟩ : ∃ r, r = rs[k] := ⟨_, rfl⟩
      have HRK := Lib.hid (show rs[k]? = some r by rw [hr]; exact List.getElem?_eq_getElem hkl)
      clear hr
      obtain ⟨B, m, kk, hck, hm, hrowB, _⟩ := HSET.out.row k r HRK.out
      have HM := Lib.hid hm
      obtain ⟨b, o, rfl, hb, hX⟩ := row_at HROW.out (by omega)
      have hc0 : wr.cell? ⟨b, o + k, none⟩ = some (.slice B m kk) := by
        have := range_below hX HB2.out hb
        exact this k _ hck
      have hm63 : (m : Int) ≤ 9223372036854775807 := by have := hrowB.2.1; have := hrowB.2.2.1; omega
      clear hck hm hrowB hb hX
      by_cases hlong : m < 10000
      case pos =>
        have hdl : decide ((m : Int) < 10000) = true := by simp; omega
        have hmin : min (m : Int) 10000 = (m : Int) := by omega
        have hs2 : IntKind.i64.wrap ((q : Int) + (m : Int)) = (q : Int) + (m : Int) := IntWalk.i64_in _ (by omega)
        have hs3 : IntKind.i64.wrap ((k : Int) + 1) = (k : Int) + 1 := IntWalk.i64_in _ (by omega)
        go_wp2_with fail
        refine ⟨⟨k + 1, q + m, by simp, by simp, by omega, by omega, by omega, Lib.hid (fun h9 i r' hi hr' => ?_), trivial⟩, by simp [intOf]; omega⟩
        by_cases hik : i = k
        · subst hik
          rw [HRK.out] at hr'
          injection hr' with hr'
          rw [← hr', ← HM.out]; omega
        · exact HALL.out (by omega) i r' (by omega) hr'
      case neg =>
        have hdl : decide ((m : Int) < 10000) = false := by simp; omega
        have hmin : min (m : Int) 10000 = 10000 := by omega
        have hs2 : IntKind.i64.wrap ((q : Int) + 10000) = (q : Int) + 10000 := IntWalk.i64_in _ (by omega)
        have hs3 : IntKind.i64.wrap ((k : Int) + 1) = (k : Int) + 1 := IntWalk.i64_in _ (by omega)
        go_wp2_with fail
        have e : (if (10000 : Int) < (m : Int) then 10000 else (m : Int)) = 10000 := by split <;> omega
        rw [e]
        exact ⟨⟨k + 1, q + 10000, by simp, by simp, by omega, by omega, by omega, Lib.hid (fun h9 => by omega), trivial⟩, by simp [intOf]; omega⟩
    have HALLF := Lib.hid (show q ≤ 5000 → ¬ k < n → ∀ r ∈ rs, r.length ≤ 5000 from fun h9 hkn r hr => by
      obtain ⟨i, hi⟩ := List.getElem?_of_mem hr
      have hlt2 := (List.getElem?_eq_some_iff.1 hi).1
      exact HALL.out h9 i r (by have := HN.out; omega) hi)
    obtain ⟨kb, hkb⟩ : ∃ kb, kb = decide (k < n) := ⟨_, rfl⟩
    have HNQ := Lib.hid (And.intro hnq hq)
    cases kb
    case true =>
      have hkn : k < n := by simpa using hkb.symm
      have hdn : decide (k < n) = true := hkb.symm
      have hdq : decide ((q : Int) ≤ 5000) = false := by simp; omega
      have hdq2 : decide (5000 < (q : Int)) = true := by simp; omega
      clear hkb
      go_wp2_with fail
      go_ret
      exact ⟨rfl, HB2.out⟩
    have hkn : ¬ k < n := by simpa using hkb.symm
    have hdn : decide (k < n) = false := hkb.symm
    clear hkb
    by_cases h9 : 5000 < q
    case pos =>
      have hdq2 : decide (5000 < (q : Int)) = true := by simp; omega
      go_wp2_with fail
      go_ret
      exact ⟨rfl, HB2.out⟩
    have hdq2 : decide (5000 < (q : Int)) = false := by simp; omega
    by_cases h60 : 60 < n
    case pos =>
      have hd60 : decide (60 < (n : Int)) = true := by simp; omega
      go_wp2_with fail
      go_ret
      exact ⟨rfl, HB2.out⟩
    have hd60 : decide (60 < (n : Int)) = false := by simp; omega
    have HRL := Lib.hid (HALLF.out (by omega) hkn)
    have HN60 := Lib.hid (show n ≤ 60 by omega)
    clear hlt hq hnq h9 h60 hkn
    -- the disk and its journal
    have hsn : IntKind.i64.wrap (sn : Int) = (sn : Int) := IntWalk.i64_in _ (by have := HS.out; omega)
    obtain ⟨zz, hzz⟩ : ∃ zz, zz = sn % 100 := ⟨_, rfl⟩
    have hmod : (sn : Int) % 100 = (zz : Int) := by omega
    obtain ⟨N, hN⟩ : ∃ N, N = 8 + zz := ⟨_, rfl⟩
    have hs8 : IntKind.i64.wrap (8 + (zz : Int)) = (N : Int) := by rw [IntWalk.i64_in _ (by omega)]; omega
    have HNN := Lib.hid (show 8 ≤ N ∧ N ≤ 107 by omega)
    obtain ⟨d0, y0, hnew, hfmt, hinv0, hlen0, hfu0⟩ := Jp.format_new (n := N) (by omega) (by omega)
    have HFMT := Lib.hid hfmt
    have HINV0 := Lib.hid hinv0
    have HY0 := Lib.hid (And.intro hlen0 hfu0)
    have HNEW := Lib.hid hnew
    have HZZ := Lib.hid hzz
    have HNE := Lib.hid hN
    clear hnew hfmt hinv0 hlen0 hfu0 hzz hN
    go_wp2_with fail
    refine (new_f (N : Int) wr).mono ?_
    rintro e w3 ⟨⟨u3, rfl, hd3, hc3⟩, hb3⟩
    rw [HNEW.out] at hd3 ⊢
    obtain ⟨C3, rfl, hC3⟩ := hd3.agg
    have hwn := (Below.refl w3.heap.size w3).alloc (Nat.le_refl _) (.cells C3 25)
    have hdv := dvar_new w3 hC3
    have hdk := hd3.kept hwn (Nat.le_refl _)
    have hst := store_disk_new w3 C3 hC3
    have hth := there_disk w3 hC3
    obtain ⟨w4, hw4⟩ : ∃ w4, w4 = w3.alloc (.cells C3 25) := ⟨_, rfl⟩
    obtain ⟨b7, hb7⟩ : ∃ b7, b7 = w3.heap.size := ⟨_, rfl⟩
    have HC37 := Lib.hid (show Clear b7 (.agg C3) by rw [hb7]; exact hd3.clear (Nat.le_refl _))
    have hs34 : w4.heap.size = b7 + 1 := by rw [hw4, hb7]; simp
    rw [← hw4, ← hb7] at hdv hth
    rw [← hw4] at hwn hdk hst
    have HB4 := Lib.hid (below_chain HB2.out (below_chain hb3 hwn))
    have HV4 := Lib.hid hdv
    have HT4 := Lib.hid hth
    have HD4 := Lib.hid hdk
    have HS4 := Lib.hid hs34
    have HW4 := Lib.hid hw4
    have HB7 := Lib.hid hb7
    have HW07 := Lib.hid (show w.heap.size ≤ b7 by rw [hb7]; exact Nat.le_trans HB2.out.size hb3.size)
    clear hd3 hc3 hb3 hwn hdv hdk hth hw4 hb7 hs34
    go_upto_region 11 with fail
    try rw [← HW4.out]
    rw [← HB7.out]
    clear hst
    have hl4 := HV4.out.load
    have HFF := Lib.hid (format_f w4 (.agg C3) d0 HD4.out (HL.out.below HB4.out HL.out.size))
    rw [HFMT.out] at HFF
    go_wp2_with fail
    refine HFF.out.mono ?_
    rintro e w5 ⟨⟨u5, rfl, hg5⟩, hb5⟩
    obtain ⟨C5, rfl, hC5⟩ := hg5.1.agg
    clear hl4
    obtain ⟨w6, hw6⟩ : ∃ w6, w6 = w5.alloc (.cells #[.int .i64 0, .int .i64 0, .int .i64 0] 27) := ⟨_, rfl⟩
    have hb56 : Below w5.heap.size w5 w6 := by rw [hw6]; exact (Below.refl _ _).alloc (Nat.le_refl _) _
    obtain ⟨b9, hb9⟩ : ∃ b9, b9 = w5.heap.size := ⟨_, rfl⟩
    have hs6 : w6.heap.size = b9 + 1 := by rw [hw6, hb9]; simp
    have h79 : b7 < b9 := by have := hb5.size; have := HS4.out; omega
    have ht6 : w6.there b7 0 4 := there_below (there_below HT4.out hb5 (by have := HS4.out; omega)) hb56 (by omega)
    have hn6 : w6.there b9 0 3 := by rw [hw6, hb9]; exact size_log3 w5
    have ho1 := store_disk ht6 hC5
    have hn7 : (putDisk w6 b7 C5).there b9 0 3 := there_putDisk hn6 _ _
    obtain ⟨l0, hl0⟩ : ∃ l0, l0 = Jp.logOf 0 1 [] := ⟨_, rfl⟩
    rw [← hl0]
    have ho2 := store_log hn7 l0
    have c7 : Clear b7 (.agg C5) := hg5.2 _ (by have := HS4.out; omega) HC37.out
    have c9 : Clear b9 (.agg C5) := hg5.1.clear (by omega)
    have hd6 := hg5.1.kept hb56 (Nat.le_refl _)
    have HFA := Lib.hid (show FillAt w (putLog (putDisk w6 b7 C5) b9 l0) b7 b9 (b9 + 1) N (.slice none 0 0) C5 y0 [] [] from
      ⟨(dvar_put (there_lt ht6 (by decide)) ht6 hC5).keepb (by rw [size_putLog]; exact Nat.le_refl _) (heap_putLog _ _ _ _ (by omega)), there_putLog (there_putDisk ht6 _ _) _ _, hC5, by rw [hl0]; exact logAt_put hn7 _,
        (hd6.keep c7 (by rw [size_putDisk]; exact Nat.le_refl _) (fun q _ hq => heap_putDisk _ _ _ _ hq)).keep c9 (by rw [size_putLog]; exact Nat.le_refl _) (fun q _ hq => heap_putLog _ _ _ _ hq),
        HINV0.out, HY0.out.1, by have := HY0.out.2; omega, below_putLog (below_putDisk (below_chain HB4.out (below_chain hb5 hb56)) HW07.out _) (by have := HW07.out; omega) _,
        own_nil _ _ _ _, rowSet_nil _ _ _, (fun g hg => by cases hg), c7, c9⟩)
    obtain ⟨w7, hw7⟩ : ∃ w7, w7 = putLog (putDisk w6 b7 C5) b9 l0 := ⟨_, rfl⟩
    rw [← hw7] at HFA ho2
    rw [hw6] at ho1 ho2
    have HW6 := Lib.hid hw6
    have HB9 := Lib.hid hb9
    have H79 := Lib.hid h79
    have HL0 := Lib.hid hl0
    rw [hb9] at ho2
    clear hg5 hb5 hb56 hs6 h79 ht6 hn6 hn7 c7 c9 hd6 hw7 hb9 hl0 hw6
    go_upto_region 12 with fail
    clear ho1 ho2
    rw [← HB9.out]
    go_wp2_with fail
    go_loopw [11, 12, 13] (fun us vc ix wx => ∃ (k u : Nat) (Av : Option Addr) (L cv : Nat), us = .int .i64 (u : Int) ∧ vc = .slice Av L cv ∧ ix = .int .i64 (k : Int) ∧ k ≤ n ∧ L ≤ k ∧ Hid (∃ C d vs came, L = vs.length ∧ u = 1 + Jp.totN came ∧ FillAt w wx b7 b9 (b9 + 1) N (.slice Av L cv) C d vs came)) (fun us vc ix wx => n - (intOf ix).toNat)
    case atStart => exact ⟨0, 1, none, 0, 0, rfl, rfl, rfl, by omega, by omega, Lib.hid ⟨C5, y0, [], [], rfl, rfl, HFA.out⟩⟩
    case round =>
      rename World => wx
      obtain ⟨k, u, Av, L, cv, rfl, rfl, rfl, hk, hLk, HF⟩ := hrel
      obtain ⟨C, d, vs, came, hLv, hu, hfa⟩ := HF.out
      have HLV := Lib.hid hLv
      have HU := Lib.hid hu
      have HFA2 := Lib.hid hfa
      have HHF := Lib.hid (show d.half = N / 2 by have : d.half = d.secs.length / 2 := rfl; rw [this, hfa.secs])
      have hu54 : u ≤ 54 := by have := hfa.I.holds.fits; have := HHF.out; have := HNN.out; omega
      have H8 := Lib.hid (show 8 ≤ d.secs.length by rw [hfa.secs]; exact HNN.out.1)
      clear hLv hu hfa
      by_cases hlt : k < n
      case neg =>
        have hdn : decide (k < n) = false := by simp; omega
        have HREC := Lib.hid (show d.records 0 = some (came, 1) from HFA2.out.I.records H8.out)
        have HSV := Lib.hid (show RecsAt wx (.slice Av L cv) came by
          obtain ⟨A', c', e, hrow, _⟩ := row_of_own HFA2.out.own
          injection e with e1 e2 e3
          subst e1 e3
          exact ⟨_, _, _, vs, rfl, by rw [HLV.out, HFA2.out.set.len], by rw [HLV.out]; exact hrow, HFA2.out.set.below HFA2.out.B (Nat.le_refl _)⟩)
        have hl := HFA2.out.V.load
        have HRF := Lib.hid (records_f wx (.agg C) d 0 HFA2.out.D (HL.out.below HFA2.out.B HL.out.size))
        clear hlt
        go_wp2_with fail
        refine HRF.out.mono ?_
        rintro e wy ⟨hby, hp⟩
        rw [HREC.out] at hp
        obtain ⟨vy, rfl, hry⟩ := hp
        have g2 : wy.cell? ⟨b9, 2, none⟩ = some (.int .i64 (u : Int)) := by
          have := (HFA2.out.G.on hby HFA2.out.G.lt).cells.2.2
          rw [this, HU.out]; rfl
        have HSM := Lib.hid (show Calls Tryd.prog 20 #[vy, .slice Av L cv] wy fun e w' => e = .returned (.bool true) ∧ Below wy.heap.size wy w' by
          have := rsame15_f wy vy (.slice Av L cv) came came hry (HSV.out.kept hby (Nat.le_refl _))
          rwa [decide_eq_true rfl] at this)
        have HBY := Lib.hid (below_chain HFA2.out.B hby)
        clear hry hby hl
        go_wp2_with fail
        refine HSM.out.mono ?_
        rintro e wz ⟨rfl, hbz⟩
        have HBZ := Lib.hid (below_chain HBY.out hbz)
        clear hbz g2
        go_wp2_with fail
        go_ret
        exact ⟨rfl, HBZ.out⟩
      have hdn : decide (k < n) = true := by simp; omega
      have hkl : k < rs.length := by have := HN.out; omega
      obtain ⟨r, hr⟩ : ∃ r, r = rs[k] := ⟨_, rfl⟩
      have HRK := Lib.hid (show rs[k]? = some r by rw [hr]; exact List.getElem?_eq_getElem hkl)
      clear hr
      obtain ⟨B, m, kk, hck, hm, hrowB, _⟩ := HSET.out.row k r HRK.out
      have HM := Lib.hid hm
      have HRB := Lib.hid hrowB
      obtain ⟨b, o, rfl, hb, hX⟩ := row_at HROW.out (by omega)
      have HCK := Lib.hid (show ∀ W, Below w.heap.size w W → W.cell? ⟨b, o + k, none⟩ = some (.slice B m kk) from fun W hW => by
        have := range_below hX hW hb
        exact this k _ hck)
      have hm5 : m ≤ 5000 := by rw [hm]; exact HRL.out r (List.mem_of_getElem? HRK.out)
      clear hck hm hrowB hb hX
      obtain ⟨l, hl⟩ : ∃ l, l = Jp.logOf 0 1 came := ⟨_, rfl⟩
      obtain ⟨X, mm, er, hXX⟩ : ∃ X mm er, d.append l r = (X, mm, er) := ⟨_, _, _, rfl⟩
      have HST := Lib.hid (fills_step HFA2.out.I H8.out HFA2.out.fuse r (hl ▸ hXX))
      have HLE := Lib.hid hl
      have HGL := Lib.hid (show LogAt wx b9 l by rw [hl]; exact HFA2.out.G)
      have HAP := Lib.hid (show ∀ W, Below wx.heap.size wx W → Calls Tryd.prog 11 #[.agg C, logV l, .slice B m kk] W fun e w' => ∃ C2, e = .returned (.tuple #[.agg C2, logV mm, .int .i64 er]) ∧ D4 C2 ∧ DiskAt w' (.agg C2) X ∧ (∀ b, b < W.heap.size → Clear b (.agg C) → Clear b (.agg C2)) ∧ Below wx.heap.size wx w' ∧ Below W.heap.size W w' from fun W hW =>
        (append_f W (.agg C) d l B m kk r (HFA2.out.D.kept hW (Nat.le_refl _)) (HL.out.below (below_chain HFA2.out.B hW) HL.out.size) (by have := HFA2.out.secs; have := HNN.out; omega) HM.out (by omega) (HRB.out.kept (below_chain HFA2.out.B hW) (Nat.le_refl _))).mono fun e w' ⟨⟨u, h1, hg⟩, hb⟩ => by
          rw [hXX] at h1 hg
          obtain ⟨C2, rfl, hc2⟩ := hg.1.agg
          exact ⟨C2, h1, hc2, hg.1, hg.2, below_chain hW hb, hb⟩)
      have HK := Lib.hid (show ∀ W, Below wx.heap.size wx W → (diskVar ⟨b7, 0, none⟩).run Tryd.prog W = .ok (.agg C) W ∧ (logVar ⟨b9, 0, none⟩).run Tryd.prog W = .ok (logV l) W ∧ W.cell? ⟨b, o + k, none⟩ = some (.slice B m kk) from fun W hW =>
        ⟨(HFA2.out.V.below hW HFA2.out.V.lt).load, (HGL.out.on hW HGL.out.lt).load, HCK.out W (below_chain HFA2.out.B hW)⟩)
      have hb0 : Below wx.heap.size wx wx.drew := (Below.refl _ _).drew
      clear hl hXX
      go_upto_region 17 with fail
      go_cut [14, 15, 16] from 64 to 121 (fun s11 s12 s13 wc => ∃ b11 b12 C2, s11 = .pointer (some ⟨b11, 0, none⟩) ∧ s12 = .pointer (some ⟨b12, 0, none⟩) ∧ s13 = .int .i64 er ∧ LaidTwo wx wc b11 b12 C C2 X mm)
      case first =>
-- <skip>
        go_region_held3 (fun W => (diskVar ⟨b7, 0, none⟩).run Tryd.prog W = .ok (.agg C) W ∧ (logVar ⟨b9, 0, none⟩).run Tryd.prog W = .ok (logV l) W ∧ W.cell? ⟨b, o + k, none⟩ = some (.slice B m kk))
          (exact HK.out _ (by (repeat' (first | with_reducible exact hbc | with_reducible exact hb0 | with_reducible refine below_putLog ?_ ?_ _ | with_reducible refine below_putDisk ?_ ?_ _ | with_reducible refine below_new ?_ _ | with_reducible refine Below.drew ?_ | with_reducible exact Below.refl _ _ | with_reducible exact Nat.le_refl _ | (simp [size_putDisk, size_putLog]; done) | (have h9 := hbc.size; simp [size_putDisk, size_putLog]; omega)))))
          (first
            | (go_at_call 11
               (with_reducible refine (HAP.out _ ?_).mono ?_)
               · (repeat' (first | with_reducible exact hbc | with_reducible exact hb0 | with_reducible refine below_putLog ?_ ?_ _ | with_reducible refine below_putDisk ?_ ?_ _ | with_reducible refine below_new ?_ _ | with_reducible refine Below.drew ?_ | with_reducible exact Below.refl _ _ | with_reducible exact Nat.le_refl _ | (simp [size_putDisk, size_putLog]; done) | (have h9 := hbc.size; simp [size_putDisk, size_putLog]; omega)))
               rintro e wc ⟨C2, rfl, hc2, hg1, hg2, hbc, hxc⟩)
            | (rw [store_disk (by (repeat' (first | with_reducible exact there_disk _ zeroD4 | with_reducible exact there_disk_at _ (by simp) | with_reducible exact size_log3 _ | with_reducible exact there_log_at _ (by simp) | with_reducible refine there_disk_pass ?_ hxc | with_reducible refine there_log_pass ?_ hxc | with_reducible refine there_drew ?_ | with_reducible refine there_disk_alloc ?_ _ | with_reducible refine there_log_alloc ?_ _ | with_reducible refine there_putDisk ?_ _ _ | with_reducible refine there_putLog ?_ _ _))) hc2]
               go_simp)
            | (rw [store_log (by (repeat' (first | with_reducible exact there_disk _ zeroD4 | with_reducible exact there_disk_at _ (by simp) | with_reducible exact size_log3 _ | with_reducible exact there_log_at _ (by simp) | with_reducible refine there_disk_pass ?_ hxc | with_reducible refine there_log_pass ?_ hxc | with_reducible refine there_drew ?_ | with_reducible refine there_disk_alloc ?_ _ | with_reducible refine there_log_alloc ?_ _ | with_reducible refine there_putDisk ?_ _ _ | with_reducible refine there_putLog ?_ _ _))) mm]
               go_simp))
        all_goals go_wp2_with fail
        all_goals go_meet
        all_goals
          have s2 := hxc.size
          have s4 := hbc.size
          try simp at s2
          refine ⟨_, _, C2, rfl, rfl, rfl, ?_⟩
          first
            | (with_reducible refine laidTwo_put ?_ ?_ ?_ ?_ ?_ ?_ ?_ ?_ ?_ ?_ hc2
               · (repeat' (first | with_reducible exact there_disk _ zeroD4 | with_reducible exact there_disk_at _ (by simp) | with_reducible exact size_log3 _ | with_reducible exact there_log_at _ (by simp) | with_reducible refine there_disk_pass ?_ hxc | with_reducible refine there_log_pass ?_ hxc | with_reducible refine there_drew ?_ | with_reducible refine there_disk_alloc ?_ _ | with_reducible refine there_log_alloc ?_ _ | with_reducible refine there_putDisk ?_ _ _ | with_reducible refine there_putLog ?_ _ _))
               · (repeat' (first | with_reducible exact there_disk _ zeroD4 | with_reducible exact there_disk_at _ (by simp) | with_reducible exact size_log3 _ | with_reducible exact there_log_at _ (by simp) | with_reducible refine there_disk_pass ?_ hxc | with_reducible refine there_log_pass ?_ hxc | with_reducible refine there_drew ?_ | with_reducible refine there_disk_alloc ?_ _ | with_reducible refine there_log_alloc ?_ _ | with_reducible refine there_putDisk ?_ _ _ | with_reducible refine there_putLog ?_ _ _))
               · first | omega | (simp; done) | (simp; omega)
               · repeat' (first | with_reducible exact hg1 | with_reducible refine diskAt_alloc ?_ _)
               · first | with_reducible exact hg1.clear (by first | omega | (simp; done) | (simp; omega)) | with_reducible exact hg2 _ (by first | omega | (simp; done) | (simp; omega)) (HFA2.out.D.clear (by first | omega | (simp; done) | (simp; omega)))
               · first | with_reducible exact hg1.clear (by first | omega | (simp; done) | (simp; omega)) | with_reducible exact hg2 _ (by first | omega | (simp; done) | (simp; omega)) (HFA2.out.D.clear (by first | omega | (simp; done) | (simp; omega)))
               · (repeat' (first | with_reducible exact hbc | with_reducible exact hb0 | with_reducible refine below_putLog ?_ ?_ _ | with_reducible refine below_putDisk ?_ ?_ _ | with_reducible refine below_new ?_ _ | with_reducible refine Below.drew ?_ | with_reducible exact Below.refl _ _ | with_reducible exact Nat.le_refl _ | (simp [size_putDisk, size_putLog]; done) | (have h9 := hbc.size; simp [size_putDisk, size_putLog]; omega)))
               · first | omega | (simp; done) | (simp; omega)
               · first | omega | (simp; done) | (simp; omega)
               · exact fun b hb hc => hg2 b (by first | omega | (simp; done) | (simp; omega)) hc)
            | (with_reducible refine laidTwo_new ?_ ?_ ?_ ?_ ?_ ?_ ?_ hc2
               · first | with_reducible rfl | (simp; done)
               · (repeat' (first | with_reducible exact there_disk _ zeroD4 | with_reducible exact there_disk_at _ (by simp) | with_reducible exact size_log3 _ | with_reducible exact there_log_at _ (by simp) | with_reducible refine there_disk_pass ?_ hxc | with_reducible refine there_log_pass ?_ hxc | with_reducible refine there_drew ?_ | with_reducible refine there_disk_alloc ?_ _ | with_reducible refine there_log_alloc ?_ _ | with_reducible refine there_putDisk ?_ _ _ | with_reducible refine there_putLog ?_ _ _))
               · repeat' (first | with_reducible exact hg1 | with_reducible refine diskAt_alloc ?_ _)
               · first | with_reducible exact hg1.clear (by first | omega | (simp; done) | (simp; omega)) | with_reducible exact hg2 _ (by first | omega | (simp; done) | (simp; omega)) (HFA2.out.D.clear (by first | omega | (simp; done) | (simp; omega)))
               · (repeat' (first | with_reducible exact hbc | with_reducible exact hb0 | with_reducible refine below_putLog ?_ ?_ _ | with_reducible refine below_putDisk ?_ ?_ _ | with_reducible refine below_new ?_ _ | with_reducible refine Below.drew ?_ | with_reducible exact Below.refl _ _ | with_reducible exact Nat.le_refl _ | (simp [size_putDisk, size_putLog]; done) | (have h9 := hbc.size; simp [size_putDisk, size_putLog]; omega)))
               · first | omega | (simp; done) | (simp; omega)
               · exact fun b hb hc => hg2 b (by first | omega | (simp; done) | (simp; omega)) hc)
-- </skip>
      case rest =>
        rename World => wc
        obtain ⟨b11, b12, C2, rfl, rfl, rfl, hlt2⟩ := hcut
        have HLT := Lib.hid hlt2
        clear hlt2
        have hcc := HCK.out wc (below_chain HFA2.out.B HLT.out.B)
        have HSZ := Lib.hid (show Calls Tryd.prog 16 #[.int .i64 (m : Int)] wc fun e w' => e = .returned (.int .i64 (sizeN m)) ∧ w' = wc by
          have := size_f wc (m : Int) (by omega) (by omega)
          rwa [jsize_cast] at this)
        obtain ⟨z, hz⟩ : ∃ z, z = sizeN m := ⟨_, rfl⟩
        rw [← hz] at HSZ
        have HZ := Lib.hid hz
        have HZL := Lib.hid (show z = sizeN r.length by rw [hz, HM.out])
        clear hz
        go_wp2_with fail
        refine HSZ.out.mono ?_
        rintro e wd ⟨rfl, hwd⟩
        rw [hwd]
        clear hwd wd
        have HT := Lib.hid (there_below HFA2.out.T HLT.out.B HFA2.out.V.lt)
        have HGC := Lib.hid (HGL.out.on HLT.out.B HGL.out.lt)
        have HNE2 := Lib.hid (show b7 < wx.heap.size ∧ b9 < wx.heap.size ∧ wx.heap.size ≤ b11 ∧ wx.heap.size ≤ b12 from ⟨HFA2.out.V.lt, HGL.out.lt, HLT.out.le1, HLT.out.le2⟩)
        have HSAME := Lib.hid (show X = d → mm = l → FillAt w (putLog (putDisk wc.drew b7 C2) b9 mm) b7 b9 (b9 + 1) N (.slice Av L cv) C2 X vs came from fun e1 e2 => by
          obtain ⟨_, _, _, _, _, p6⟩ := turn_region HT.out HGC.out HLT.out.d4 HLT.out.V HLT.out.G (by have := H79.out; omega) (by have := HNE2.out; omega) (by have := HNE2.out; omega)
          exact fill_turn (e2.trans HLE.out) H79.out (by omega) HW07.out HLT.out.d4 HLT.out.D (by rw [e1]; exact HFA2.out.I) (by rw [e1]; exact HFA2.out.secs) (by rw [e1]; exact HFA2.out.fuse) (below_chain HFA2.out.B HLT.out.B)
            (own_below HFA2.out.own HLT.out.B (Nat.le_refl _)) HFA2.out.set (fun g hg => HLT.out.tr g (own_lt HFA2.out.own g hg).2 (HFA2.out.clear g hg)) (HLT.out.tr _ HFA2.out.V.lt HFA2.out.c7) (HLT.out.tr _ HGL.out.lt HFA2.out.c9) p6.out)
        have hs1 : IntKind.i64.wrap ((k : Int) + 1) = (k : Int) + 1 := IntWalk.i64_in _ (by omega)
        by_cases h4 : 4096 < m
        case pos =>
          have hd4 : decide (4096 < (m : Int)) = true := by simp; omega
          obtain ⟨e1, e2, e3⟩ := HST.out.1 (by rw [← HM.out]; exact h4)
          have HFT := Lib.hid (HSAME.out e1 (e2.trans HLE.out.symm))
          subst e3
          clear e1 e2 h4
          obtain ⟨p1, p2, p3, p4, p5, _⟩ := turn_region HT.out HGC.out HLT.out.d4 HLT.out.V HLT.out.G (by have := H79.out; omega) (by have := HNE2.out; omega) (by have := HNE2.out; omega)
          go_wp2_with fail
          go_region_held3 (fun W => (diskVar ⟨b11, 0, none⟩).run Tryd.prog W = .ok (.agg C2) W ∧ (logVar ⟨b12, 0, none⟩).run Tryd.prog W = .ok (logV mm) W) (first | exact p1 | exact p2 | exact p3) (fail)
          all_goals go_wp2_with fail
          all_goals
            go_roundw
            case rel => exact ⟨k + 1, u, Av, L, cv, rfl, rfl, by simp, by omega, by omega, Lib.hid ⟨C2, X, vs, came, HLV.out, HU.out, HFT.out⟩⟩
            case measure => simp [intOf]; omega
        have hd4 : decide (4096 < (m : Int)) = false := by simp; omega
        have hz41 : z ≤ 41 := by have := Jp.sizeN_pos (n := m) (by omega); have := HZ.out; omega
        have hsu : IntKind.i64.wrap ((u : Int) + (z : Int)) = (u : Int) + (z : Int) := IntWalk.i64_in _ (by omega)
        obtain ⟨hf, hhf⟩ : ∃ hf, hf = N / 2 := ⟨_, rfl⟩
        have hd2 : (N : Int) / 2 = (hf : Int) := by omega
        have HWF := Lib.hid (show wrap64 (hf : Int) = (hf : Int) from IntWalk.wrap64_in _ (by have := HNN.out; omega))
        have HH := Lib.hid hhf
        clear hhf
        by_cases hfull : hf < u + z
        case pos =>
          have hdf : decide ((hf : Int) < (u : Int) + (z : Int)) = true := by simp; omega
          obtain ⟨e1, e2, e3⟩ := HST.out.2.1 (by rw [← HM.out]; omega) (by have := HHF.out; have := HH.out; have := HU.out; have := HZL.out; omega)
          have HFT := Lib.hid (HSAME.out e1 (e2.trans HLE.out.symm))
          subst e3
          clear e1 e2 h4 hfull
          obtain ⟨p1, p2, p3, p4, p5, _⟩ := turn_region HT.out HGC.out HLT.out.d4 HLT.out.V HLT.out.G (by have := H79.out; omega) (by have := HNE2.out; omega) (by have := HNE2.out; omega)
          have hwf := HWF.out
          go_wp2_with fail
          clear hwf
          go_region_held3 (fun W => (diskVar ⟨b11, 0, none⟩).run Tryd.prog W = .ok (.agg C2) W ∧ (logVar ⟨b12, 0, none⟩).run Tryd.prog W = .ok (logV mm) W) (first | exact p1 | exact p2 | exact p3) (fail)
          all_goals go_wp2_with fail
          all_goals
            go_roundw
            case rel => exact ⟨k + 1, u, Av, L, cv, rfl, rfl, by simp, by omega, by omega, Lib.hid ⟨C2, X, vs, came, HLV.out, HU.out, HFT.out⟩⟩
            case measure => simp [intOf]; omega
        have hdf : decide ((hf : Int) < (u : Int) + (z : Int)) = false := by simp; omega
        obtain ⟨e2, e3, e4, e5, e6⟩ := HST.out.2.2 (by rw [← HM.out]; omega) (by have := HHF.out; have := HH.out; have := HU.out; have := HZL.out; omega)
        subst e3
        have HMM := Lib.hid e2
        have HIX := Lib.hid (And.intro e4 (And.intro e5 e6))
        have HU2 := Lib.hid (show u + z = 1 + Jp.totN (came ++ [r]) by rw [Jp.totN_snoc]; have := HU.out; have := HZL.out; omega)
        clear e2 e4 e5 e6 h4 hfull
        have hba := (Below.refl wc.heap.size wc).alloc (Nat.le_refl _) (.cells #[.slice B m kk] 28)
        have HBA := Lib.hid hba
        have HBASE := Lib.hid (show b9 + 1 ≤ (wc.alloc (.cells #[.slice B m kk] 28)).heap.size by have := HNE2.out; have := HLT.out.B.size; simp; omega)
        have HOW := Lib.hid (show wc.ownsRow (b9 + 1) 28 1 (.slice Av L cv) L vs by
          have := own_below HFA2.out.own HLT.out.B (Nat.le_refl _)
          rwa [← HLV.out] at this)
        have HO3 := Lib.hid (own_below HOW.out hba (Nat.le_refl _))
        have HNEWR := Lib.hid (row_val wc (.slice B m kk) 28)
        have HONE1 := Lib.hid (show ∀ u ∈ [Value.slice B m kk], u.oneCell' = true from fun u hu => by simp at hu; subst hu; rfl)
        have hL60 : L ≤ 60 := by have := HN60.out; omega
        clear hba
        have hwf := HWF.out
        go_wp2_with (at_builtin; refine list_of_step rfl (step_append_two rfl (.tmp 92) (.tmp 97) 38 28 rfl Tryd.underlying38 (b9 + 1) (.slice none 0 0) 1 24 infoBytes rfl (by decide) (.slice Av L cv) L vs rfl HO3.out (some ⟨wc.heap.size, 0, none⟩) 1 1 [.slice B m kk] rfl HNEWR.out HONE1.out (by omega) (by decide) HBASE.out ?_))
        clear hwf
        intro v' w9 k1 k2 k3
        have HO9 := Lib.hid k1
        have HG9 := Lib.hid k2
        have HF9 := Lib.hid k3
        obtain ⟨A9, c9, rfl, hrow9, hlo9⟩ := row_of_own k1
        clear k1 k2 k3 hrow9 hlo9
        have HOL := Lib.hid (own_lt HOW.out)
        have HOX := Lib.hid (own_lt HFA2.out.own)
        have HT9 := Lib.hid (show w9.there b7 0 4 from there_keepb (there_below HT.out HBA.out (by have := HNE2.out; have := HLT.out.B.size; omega)) (HG9.out.block b7 (by have := HNE2.out; have := HLT.out.B.size; simp; omega) (fun e => by have := (HOL.out _ e.symm).1; have := H79.out; omega)))
        have HGC9 := Lib.hid (show LogAt w9 b9 l from (HGC.out.on HBA.out HGC.out.lt).keepb (HG9.out.block b9 (by have := HNE2.out; have := HLT.out.B.size; simp; omega) (fun e => by have := (HOL.out _ e.symm).1; omega)))
        have HV9 := Lib.hid (show DVar w9 b11 C2 from (HLT.out.V.below HBA.out HLT.out.V.lt).keepb HG9.out.size (HG9.out.block b11 (by have := HLT.out.V.lt; simp; omega) (fun e => by have := (HOX.out _ e.symm).2; have := HNE2.out; omega)))
        have HL9 := Lib.hid (show LogAt w9 b12 mm from (HLT.out.G.on HBA.out HLT.out.G.lt).keepb (HG9.out.block b12 (by have := HLT.out.G.lt; simp; omega) (fun e => by have := (HOX.out _ e.symm).2; have := HNE2.out; omega)))
        have HD9 := Lib.hid (show DiskAt w9 (.agg C2) X from disk_grown (HLT.out.D.kept HBA.out (Nat.le_refl _)) HG9.out (fun g hg => HLT.out.tr g (HOX.out g hg).2 (HFA2.out.clear g hg)))
        have HB9' := Lib.hid (show Below w.heap.size w w9 from ((below_chain (below_chain HFA2.out.B HLT.out.B) HBA.out)).grown HG9.out (by have := HBASE.out; have := HW07.out; have := H79.out; omega) (fun q e => by have := (HOL.out q e).1; have := HW07.out; have := H79.out; omega))
        have HFT := Lib.hid (show FillAt w (putLog (putDisk w9.drew b7 C2) b9 mm) b7 b9 (b9 + 1) N (.slice A9 (L + 1) c9) C2 X (vs ++ [.slice B m kk]) (came ++ [r]) by
          obtain ⟨_, _, _, _, _, p6⟩ := turn_region HT9.out HGC9.out HLT.out.d4 HV9.out HL9.out (by have := H79.out; omega) (by have := HNE2.out; omega) (by have := HNE2.out; omega)
          refine fill_turn HMM.out H79.out (by omega) HW07.out HLT.out.d4 HD9.out HIX.out.1 (HIX.out.2.1.trans HFA2.out.secs) HIX.out.2.2 HB9'.out ?_ (HFA2.out.set.snoc HM.out HRB.out (fun x hx h0 => ⟨Nat.zero_le _, fun e => by cases e⟩)) (fun g hg => ?_) (HLT.out.tr _ HFA2.out.V.lt HFA2.out.c7) (HLT.out.tr _ HGL.out.lt HFA2.out.c9) p6.out
          · rw [List.length_append, ← HLV.out, List.length_singleton]
            exact HO9.out
          · rcases HF9.out with q | q
            · rw [q] at hg
              exact HLT.out.tr g (HOX.out g hg).2 (HFA2.out.clear g hg)
            · exact HLT.out.D.clear (by have := q g hg; have := HBA.out.size; omega))
        have HLV2 := Lib.hid (show L + 1 = (vs ++ [Value.slice B m kk]).length by rw [List.length_append, ← HLV.out, List.length_singleton])
        obtain ⟨p1, p2, p3, p4, p5, _⟩ := turn_region HT9.out HGC9.out HLT.out.d4 HV9.out HL9.out (by have := H79.out; omega) (by have := HNE2.out; omega) (by have := HNE2.out; omega)
        go_wp2_with fail
        go_region_held3 (fun W => (diskVar ⟨b11, 0, none⟩).run Tryd.prog W = .ok (.agg C2) W ∧ (logVar ⟨b12, 0, none⟩).run Tryd.prog W = .ok (logV mm) W) (first | exact p1 | exact p2 | exact p3) (fail)
        all_goals go_wp2_with fail
        all_goals
          go_roundw
          case rel => exact ⟨k + 1, u + z, A9, L + 1, c9, by simp, rfl, by simp, by omega, by omega, Lib.hid ⟨C2, X, _, _, HLV2.out, HU2.out, HFT.out⟩⟩
          case measure => simp [intOf]; omega
end Go.Proofs.YtbhjigejpdbeiaaDoor
