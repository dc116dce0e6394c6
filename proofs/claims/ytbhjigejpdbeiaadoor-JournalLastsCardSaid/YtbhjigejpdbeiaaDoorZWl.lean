/-
  JournalLasts, walked: wherever the power goes, behind it the records are those that were told to be there, and perhaps what was under way.
-/
import Derived.Test.YtbhjigejpdbeiaaDoorZJu
set_option linter.unusedSimpArgs false
set_option linter.unusedVariables false
namespace Go.Proofs.YtbhjigejpdbeiaaDoor
open Go.RowKit Go.Shelf
set_option linter.unusedVariables false

theorem Hold.down {w0 W : World} {b6 b8 : Nat} {C : Array Value} {d : Dk} {l : Dk.Log} (h : Hold w0 W b6 b8 C d l) : W.cell? ⟨b6, 3, none⟩ = some (.bool d.down) := by
  obtain ⟨A, n, c, A', n', c', e, _⟩ := h.D
  injection e with e
  have := h.V.range 3 (.bool d.down) (by rw [e]; rfl)
  rwa [Nat.zero_add] at this
set_option maxRecDepth 1000000 in
set_option maxHeartbeats 16000000 in
theorem law_lasts (w : World) (v0 : Value) (la : List A15) (ha : Acts15At w v0 la) (v1 : Value) (lf : List F15) (hf : Falls15At w v1 lf) (hL : LaidR w) :
    Calls Tryd.prog 8 #[v0, v1] w fun e w' => e = .returned (.bool true) ∧ Below w.heap.size w w' := by
  have HACTS := Lib.hid ha
  obtain ⟨A, n, ca, L, rfl, hn, hla, hrow, hby⟩ := ha
  obtain ⟨AF, nf, cf, LF, rfl, hnf, hlf, hrowF, hfa⟩ := hf
  have HN := Lib.hid hn
  have HLA := Lib.hid hla
  have HROW := Lib.hid hrow
  have HBY := Lib.hid hby
  have HNF := Lib.hid hnf
  have HROWF := Lib.hid hrowF
  have HFA := Lib.hid hfa
  have HL := Lib.hid hL
  have hnf63 : (nf : Int) ≤ 9223372036854775807 := by have := hrowF.2.1; have := hrowF.2.2.1; omega
  clear hn hla hrow hby hnf hrowF hfa hL
  go_enter Tryd.func8, Tryd.ntmps8
  go_wp2_with fail
  refine (alive15_f w HL.out.toLaid).mono ?_
  rintro e w1 ⟨rfl, hb1⟩
  have HB1 := Lib.hid hb1
  clear hb1
  have HACTS1 := Lib.hid (show Acts15At w1 (.slice A n ca) la from ⟨A, n, ca, L, rfl, HN.out, HLA.out, HROW.out.kept HB1.out (Nat.le_refl _), fun a ha => by
    obtain ⟨B, m, k, e1, e2, e3⟩ := (HBY.out a ha).at_
    exact ⟨B, m, k, e1, e2, e3.kept HB1.out (Nat.le_refl _)⟩⟩)
  go_wp2_with fail
  refine (many_f w1 _ la HACTS1.out).mono ?_
  rintro e w2 ⟨mb, rfl, hb2, hmany⟩
  have HB2 := Lib.hid (below_chain HB1.out hb2)
  have HMANY := Lib.hid hmany
  clear hb2 hmany HACTS1
  cases mb
  case true =>
    go_wp2_with fail
    go_ret
    exact ⟨rfl, HB2.out⟩
  by_cases h6 : 6 < nf
  case pos =>
    have hd6 : decide (6 < (nf : Int)) = true := by simp; omega
    go_wp2_with fail
    go_ret
    exact ⟨rfl, HB2.out⟩
  have hd6 : decide (6 < (nf : Int)) = false := by simp; omega
  have HSM := Lib.hid (show n ≤ 60 ∧ ∀ a ∈ L, a.1.record.length ≤ 5000 by
    obtain ⟨q1, q2⟩ := HMANY.out rfl
    rw [← HLA.out] at q1 q2
    rw [List.length_map] at q1
    exact ⟨by have := HN.out; omega, fun a ha => q2 a.1 (List.mem_map_of_mem ha)⟩)
  go_wp2_with fail
  go_loopw [5] (fun ix wr => ∃ k : Nat, ix = .int .i64 (k : Int) ∧ k ≤ nf ∧ Hid (∀ (i : Nat) (a : F15 × Value × Value), i < k → LF[i]? = some a → a.1.fates.length ≤ 100 ∧ a.1.more.length ≤ 100) ∧ wr = w2) (fun ix wr => nf - (intOf ix).toNat)
  case atStart => exact ⟨0, rfl, by omega, Lib.hid (fun i a hi => by omega), rfl⟩
  case round =>
    obtain ⟨k, rfl, hk, HALL, hwr⟩ := hrel
    subst hwr
    by_cases hkn : k < nf
    case pos =>
      have hdk : decide (k < nf) = true := by simp; omega
      obtain ⟨a, ha⟩ : ∃ a, LF[k]? = some a := ⟨_, List.getElem?_eq_getElem (by have := HNF.out; omega)⟩
      obtain ⟨bf, of, rfl, hcell⟩ := fall_cells HNF.out HROWF.out ha
      obtain ⟨_, hc1, _, hc3⟩ := hcell _ HB2.out
      obtain ⟨hf1, hf2⟩ := HFA.out a (List.mem_of_getElem? ha)
      obtain ⟨B1, m1, k1, e1, hm1, hr1⟩ := hf1
      obtain ⟨B2, m2, k2, e2, hm2, hr2⟩ := hf2
      rw [e1] at hc1
      rw [e2] at hc3
      have HA := Lib.hid ha
      have HM1 := Lib.hid hm1
      have HM2 := Lib.hid hm2
      have hm163 : (m1 : Int) ≤ 9223372036854775807 := by have := hr1.2.1; have := hr1.2.2.1; omega
      have hm263 : (m2 : Int) ≤ 9223372036854775807 := by have := hr2.2.1; have := hr2.2.2.1; omega
      have hs3 : IntKind.i64.wrap ((k : Int) + 1) = (k : Int) + 1 := IntWalk.i64_in _ (by omega)
      have hkn2 : (k : Int) < (nf : Int) := by omega
      clear hcell e1 e2 hm1 hm2 hr1 hr2 ha
      by_cases q1 : 100 < m1
      case pos =>
        have hd1 : decide (100 < (m1 : Int)) = true := by simp; omega
        go_wp2_with fail
        go_ret
        exact ⟨rfl, HB2.out⟩
      have hd1 : decide (100 < (m1 : Int)) = false := by simp; omega
      by_cases q2 : 100 < m2
      case pos =>
        have hd2 : decide (100 < (m2 : Int)) = true := by simp; omega
        go_wp2_with fail
        go_ret
        exact ⟨rfl, HB2.out⟩
      have hd2 : decide (100 < (m2 : Int)) = false := by simp; omega
      have HQ := Lib.hid (And.intro q1 q2)
      clear q1 q2
      go_wp2_with fail
      refine ⟨⟨k + 1, by simp, by omega, Lib.hid (fun i a' hi ha' => ?_), trivial⟩, by simp [intOf]; omega⟩
      by_cases hik : i = k
      · subst hik
        rw [HA.out] at ha'
        injection ha' with ha'
        subst ha'
        have := HM1.out
        have := HM2.out
        have := HQ.out
        omega
      · exact HALL.out i a' (by omega) ha'
    have hdk : decide (k < nf) = false := by simp; omega
    have HFS := Lib.hid (show ∀ a ∈ LF, a.1.fates.length ≤ 100 ∧ a.1.more.length ≤ 100 from fun a ha => by
      obtain ⟨i, hi⟩ := List.getElem?_of_mem ha
      have hlt := (List.getElem?_eq_some_iff.1 hi).1
      exact HALL.out i a (by have := HNF.out; omega) hi)
    clear hkn HALL
    -- the disk and its journal
    obtain ⟨d0, y0, hnew, hfmt, hj0⟩ := Jp.jrn_new
    have HFMT := Lib.hid hfmt
    have HJ0 := Lib.hid hj0
    have HNEW := Lib.hid hnew
    clear hnew hfmt hj0
    rename World => wr
    go_wp2_with fail
    refine (new_f 200 wr).mono ?_
    rintro e w3 ⟨⟨u3, rfl, hd3, hc3⟩, hb3⟩
    rw [HNEW.out] at hd3 ⊢
    obtain ⟨C3, rfl, hC3⟩ := hd3.agg
    have hwn := (Below.refl w3.heap.size w3).alloc (Nat.le_refl _) (.cells C3 25)
    have hdv := dvar_new w3 hC3
    have hdk := hd3.kept hwn (Nat.le_refl _)
    have hst := store_disk_new w3 C3 hC3
    have hth := there_disk w3 hC3
    obtain ⟨w4, hw4⟩ : ∃ w4, w4 = w3.alloc (.cells C3 25) := ⟨_, rfl⟩
    obtain ⟨b6, hb6⟩ : ∃ b6, b6 = w3.heap.size := ⟨_, rfl⟩
    have HC36 := Lib.hid (show Clear b6 (.agg C3) by rw [hb6]; exact hd3.clear (Nat.le_refl _))
    have hs34 : w4.heap.size = b6 + 1 := by rw [hw4, hb6]; simp
    rw [← hw4, ← hb6] at hdv hth
    rw [← hw4] at hwn hdk hst
    have HB4 := Lib.hid (below_chain HB2.out (below_chain hb3 hwn))
    have HV4 := Lib.hid hdv
    have HT4 := Lib.hid hth
    have HD4 := Lib.hid hdk
    have HS4 := Lib.hid hs34
    have HW4 := Lib.hid hw4
    have HB6 := Lib.hid hb6
    have HW06 := Lib.hid (show w.heap.size ≤ b6 by rw [hb6]; exact Nat.le_trans HB2.out.size hb3.size)
    clear hd3 hc3 hb3 hwn hdv hdk hth hw4 hb6 hs34
    go_upto_region 11 with fail
    try rw [← HW4.out]
    rw [← HB6.out]
    clear hst
    have hl4 := HV4.out.load
    have HFF := Lib.hid (format_f w4 (.agg C3) d0 HD4.out (HL.out.toLaid.below HB4.out HL.out.size))
    rw [HFMT.out] at HFF
    go_wp2_with fail
    refine HFF.out.mono ?_
    rintro e w5 ⟨⟨u5, rfl, hg5⟩, hb5⟩
    obtain ⟨C5, rfl, hC5⟩ := hg5.1.agg
    clear hl4
    obtain ⟨w6, hw6⟩ : ∃ w6, w6 = w5.alloc (.cells #[.int .i64 0, .int .i64 0, .int .i64 0] 27) := ⟨_, rfl⟩
    have hb56 : Below w5.heap.size w5 w6 := by rw [hw6]; exact (Below.refl _ _).alloc (Nat.le_refl _) _
    obtain ⟨b8, hb8⟩ : ∃ b8, b8 = w5.heap.size := ⟨_, rfl⟩
    have hs6 : w6.heap.size = b8 + 1 := by rw [hw6, hb8]; simp
    have h68 : b6 < b8 := by have := hb5.size; have := HS4.out; omega
    have ht6 : w6.there b6 0 4 := there_below (there_below HT4.out hb5 (by have := HS4.out; omega)) hb56 (by omega)
    have hn6 : w6.there b8 0 3 := by rw [hw6, hb8]; exact size_log3 w5
    have ho1 := store_disk ht6 hC5
    have hn7 : (putDisk w6 b6 C5).there b8 0 3 := there_putDisk hn6 _ _
    obtain ⟨l0, hl0⟩ : ∃ l0, l0 = Jp.logOf 0 1 [] := ⟨_, rfl⟩
    rw [← hl0] at HJ0 ⊢
    have ho2 := store_log hn7 l0
    have c6 : Clear b6 (.agg C5) := hg5.2 _ (by have := HS4.out; omega) HC36.out
    have c8 : Clear b8 (.agg C5) := hg5.1.clear (by omega)
    have hd6' := hg5.1.kept hb56 (Nat.le_refl _)
    have HTURN := Lib.hid (show TurnAt w (putLog (putDisk w6 b6 C5) b8 l0) b6 b8 (.slice none 0 0) (1 + 3 * ((0 : Nat) : Int) + ((0 : Nat) : Int)) from
      ⟨C5, y0, l0, [], ⟨(dvar_put (there_lt ht6 (by decide)) ht6 hC5).keepb (by rw [size_putLog]; exact Nat.le_refl _) (heap_putLog _ _ _ _ (by omega)), there_putLog (there_putDisk ht6 _ _) _ _, hC5, logAt_put hn7 _,
        (hd6'.keep c6 (by rw [size_putDisk]; exact Nat.le_refl _) (fun q _ hq => heap_putDisk _ _ _ _ hq)).keep c8 (by rw [size_putLog]; exact Nat.le_refl _) (fun q _ hq => heap_putLog _ _ _ _ hq),
        below_putLog (below_putDisk (below_chain HB4.out (below_chain hb5 hb56)) HW06.out _) (by have := HW06.out; omega) _, c6, c8, HW06.out, h68⟩, recsApart_nil _ _ _, HJ0.out.mono (by omega)⟩)
    obtain ⟨w7, hw7⟩ : ∃ w7, w7 = putLog (putDisk w6 b6 C5) b8 l0 := ⟨_, rfl⟩
    rw [← hw7] at HTURN ho2
    rw [hw6] at ho1 ho2
    have HB8 := Lib.hid hb8
    rw [hb8] at ho2
    clear hg5 hb5 hb56 hs6 h68 ht6 hn6 hn7 c6 c8 hd6' hw7 hb8 hl0 hw6
    go_upto_region 12 with fail
    clear ho1 ho2
    rw [← HB8.out]
    go_wp2_with fail
    go_loopw [10, 11, 12] (fun vc ix tx wx => ∃ k t : Nat, ix = .int .i64 (k : Int) ∧ tx = .int .i64 (t : Int) ∧ k ≤ n ∧ t ≤ nf ∧ Hid (TurnAt w wx b6 b8 vc (1 + 3 * (t : Int) + (k : Int)))) (fun vc ix tx wx => nf + 1 - (intOf tx).toNat)
    case atStart => exact ⟨0, 0, rfl, rfl, by omega, by omega, Lib.hid HTURN.out⟩
    case round =>
      rename World => wx
      obtain ⟨k, t, rfl, rfl, hk, ht, HT⟩ := hrel
      have hdt : decide (t ≤ nf) = true := by simp; omega
      have hs3 : IntKind.i64.wrap ((t : Int) + 1) = (t : Int) + 1 := IntWalk.i64_in _ (by omega)
      go_upto_block 3 with fail
      refine jl3 w wx b6 b8 n ca k t nf cf A AF L LF _ HL.out HN.out HROW.out HBY.out HSM.out.2 HSM.out.1 hk HNF.out HROWF.out HFA.out HFS.out (by omega) ht HT.out _ _ _ _ _ _ _ _ _ _ _ _ _ _ _ _ _ _ _ _ _ _ _ _ _ _ _ _ _ _ _ _ _ _ _ _ _ _ _ _ _ _ _ _ _ _ _ _ _ _ _ _ _ _ _ _ _ _ _ _ _ _ _ _ _ _ _ _ _ _ _ _ _ _ _ _ _ _ _ _ _ _ _ _ _ _ _ _ _ _ _ _ _ _ _ _ _ _ _ _ _ _ _ _ _ _ _ _ _ _ _ _ _ _ _ _ _ _ _ _ _ _ _ _ _ _ _ _ _ _ _ _ _ _ _ _ _ _ _ _ _ _ _ _ _ _ _ _ _ _ _ _ _ _ _ _ _ _ _ _ _ _ _ _ _ _ _ _ _ _ _ _ _ _ _ _ _ _ _ _ _ _ _ _ _ _ _ _ _ _ _ _ _ _ _ _ _ _ _ _ _ _ _ _ _ _ _ _ _ _ _ _ _ _ _ _ _ _ _ _ _ _ _ _ _ _ _ _ _ _ _ _ _ _ _ _ _ _ _ _ _ _ _ _ _ _ _ _ _ _ _ _ _ _ _ _ _ _ _ _ _ _ _ _ _ _ _ _ _ _ _ _ _ _ _ ?_ ?_ ?_
      · intro x4 x13 x14 x15 x16 x17 x18 x19 x20 x21 x22 x23 x24 x25 x26 x27 x85 x86 x87 x88 x89 x90 x91 x92 x93 x94 x95 x96 x97 x98 x99 x100 x101 x102 x103 x104 x105 x106 x107 x108 x109 x110 x111 x112 x113 x114 x115 x116 x117 x118 x119 x120 x121 x122 x123 x124 x125 x126 x127 x128 x129 x130 x131 x132 x133 x134 x135 x136 x137 x138 x139 x140 x141 x142 x143 x144 x145 x146 x147 x148 x149 x150 x151 x152 x153 x154 x155 x156 x157 x158 x159 x160 x161 x162 x163 x164 x165 x166 x167 x168 x169 x170 x171 x172 x173 x174 x175 x176 x177 x178 x179 x180 x181 x182 x183 x184 x185 x186 x187 x188 x189 x190 x191 x192 x193 x194 x195 x196 x197 x198 x199 x200 x201 x202 x203 x204 x205 x206 x207 x208 x209 x210 x211 x212 x213 x214 x215 x216 x217 x218 x219 x220 x221 x222 x223 x224 x225 x226 x227 x228 x229 x230 x231 x232 x233 x234 x235 x236 x237 x238 x239 x240 x241 x242 x243 x244 x245 x246 x247 x248 x249 x250 x251 x252 x253 x254 x255 x256 x257 x258 x259 x260 x261 vc k' wy htn hk' hT
        have HT' := Lib.hid hT
        clear hT
        go_wp2_with fail
        go_roundw
        case rel => exact ⟨k', t + 1, rfl, by go_num, hk', by omega, Lib.hid (by have := HT'.out; exact this)⟩
        case measure => simp [intOf]; omega
      · intro x4 x13 x14 x15 x16 x17 x18 x19 x20 x21 x22 x23 x24 x25 x26 x27 x85 x86 x87 x88 x89 x90 x91 x92 x93 x94 x95 x96 x97 x98 x99 x100 x101 x102 x103 x104 x105 x106 x107 x108 x109 x110 x111 x112 x113 x114 x115 x116 x117 x118 x119 x120 x121 x122 x123 x124 x125 x126 x127 x128 x129 x130 x131 x132 x133 x134 x135 x136 x137 x138 x139 x140 x141 x142 x143 x144 x145 x146 x147 x148 x149 x150 x151 x152 x153 x154 x155 x156 x157 x158 x159 x160 x161 x162 x163 x164 x165 x166 x167 x168 x169 x170 x171 x172 x173 x174 x175 x176 x177 x178 x179 x180 x181 x182 x183 x184 x185 x186 x187 x188 x189 x190 x191 x192 x193 x194 x195 x196 x197 x198 x199 x200 x201 x202 x203 x204 x205 x206 x207 x208 x209 x210 x211 x212 x213 x214 x215 x216 x217 x218 x219 x220 x221 x222 x223 x224 x225 x226 x227 x228 x229 x230 x231 x232 x233 x234 x235 x236 x237 x238 x239 x240 x241 x242 x243 x244 x245 x246 x247 x248 x249 x250 x251 x252 x253 x254 x255 x256 x257 x258 x259 x260 x261 vc k' wy htn hT
        obtain ⟨C, d, l, came, hh, hrec, hj⟩ := hT
        have HH := Lib.hid hh
        have HREC := Lib.hid hrec
        have HJ := Lib.hid hj
        clear hh hrec hj
        have hl6 := HH.out.V.load
        go_wp2_with fail
        refine (arm_f wy (.agg C) d (-1) (by omega) (by omega) HH.out.D).mono ?_
        rintro e w8 ⟨⟨u8, rfl, hg8⟩, hb8⟩
        obtain ⟨C8, rfl, hc8⟩ := hg8.1.agg
        have hst := store_disk (there_below HH.out.T hb8 HH.out.V.lt) hc8
        have HH8 := Lib.hid (HH.out.put1 (l := l) hb8 hc8 hg8.1 hg8.2)
        have HR8 := Lib.hid ((HREC.out.on hb8).put1 HH.out.lt C8)
        have HJ8 := Lib.hid (HJ.out.arm (-1))
        clear hg8 hb8 hl6
        obtain ⟨w9, hw9⟩ : ∃ w9, w9 = putDisk w8 b6 C8 := ⟨_, rfl⟩
        rw [← hw9] at hst HH8 HR8
        clear hw9
        have hup : w9.cell? ⟨b6, 3, none⟩ = some (.bool false) := by
          have := HH8.out.down
          rwa [HJ8.out.up] at this
        have hl9 := HH8.out.V.load
        obtain ⟨X, l2, r2, er, hX⟩ : ∃ X l r e, (d.arm (-1)).open_ = (X, l, r, e) := ⟨_, _, _, _, rfl⟩
        have HOP := Lib.hid (HJ8.out.opn.opens HJ8.out.len (by omega) hX)
        have hres : er = 0 ∧ r2 = came := by
          rcases HOP.out with ⟨q1, q2, _⟩ | ⟨_, _, q, _⟩
          · exact ⟨q1, q2⟩
          · have : (0 : Int) ≤ max (-1 : Int) (-1) := q
            omega
        obtain ⟨rfl, rfl⟩ := hres
        have HOF := Lib.hid (open_f w9 (.agg C8) (d.arm (-1)) HH8.out.D (HL.out.toLaid.below HH8.out.B HL.out.size))
        rw [hX] at HOF
        clear hX HOP
        go_wp2_with fail
        clear hst hup
        refine HOF.out.mono ?_
        rintro e w10 ⟨⟨u10, vr, rfl, hgt10, hr10⟩, hb10⟩
        obtain ⟨C10, rfl, hc10⟩ := hgt10.1.agg
        clear hl9
        obtain ⟨w11, o1, o2, hv11, hl11, hd11, hb11⟩ := two_new hc10 hgt10.1 l2
        have HB11 := Lib.hid (below_chain hb10 hb11)
        have HSM1 := Lib.hid (show Calls Tryd.prog 20 #[vr, vc] w11 fun e w' => e = .returned (.bool true) ∧ Below w11.heap.size w11 w' by
          have := rsame15_f w11 vr vc r2 r2 (hr10.at.kept hb11 (Nat.le_refl _)) (HR8.out.on HB11.out).at
          rwa [decide_eq_true rfl] at this)
        clear hgt10 hr10 hb10 hb11 hv11 hl11 hd11
        go_upto_region 61 with fail
        clear o1 o2
        go_wp2_with fail
        refine HSM1.out.mono ?_
        rintro e w12 ⟨rfl, hb12⟩
        have HB12 := Lib.hid (below_chain (below_chain HH8.out.B HB11.out) hb12)
        clear hb12
        go_wp2_with fail
        go_ret
        exact ⟨rfl, HB12.out⟩
      · intro x4 x13 x14 x15 x16 x17 x18 x19 x20 x21 x22 x23 x24 x25 x26 x27 x85 x86 x87 x88 x89 x90 x91 x92 x93 x94 x95 x96 x97 x98 x99 x100 x101 x102 x103 x104 x105 x106 x107 x108 x109 x110 x111 x112 x113 x114 x115 x116 x117 x118 x119 x120 x121 x122 x123 x124 x125 x126 x127 x128 x129 x130 x131 x132 x133 x134 x135 x136 x137 x138 x139 x140 x141 x142 x143 x144 x145 x146 x147 x148 x149 x150 x151 x152 x153 x154 x155 x156 x157 x158 x159 x160 x161 x162 x163 x164 x165 x166 x167 x168 x169 x170 x171 x172 x173 x174 x175 x176 x177 x178 x179 x180 x181 x182 x183 x184 x185 x186 x187 x188 x189 x190 x191 x192 x193 x194 x195 x196 x197 x198 x199 x200 x201 x202 x203 x204 x205 x206 x207 x208 x209 x210 x211 x212 x213 x214 x215 x216 x217 x218 x219 x220 x221 x222 x223 x224 x225 x226 x227 x228 x229 x230 x231 x232 x233 x234 x235 x236 x237 x238 x239 x240 x241 x242 x243 x244 x245 x246 x247 x248 x249 x250 x251 x252 x253 x254 x255 x256 x257 x258 x259 x260 x261 vc k' wy hb
        go_wp2_with fail
        go_ret
        exact ⟨rfl, hb⟩
end Go.Proofs.YtbhjigejpdbeiaaDoor
