/-
  The four laws of the base layer, walked: each answers true and leaves what was there.
-/
import Derived.Test.YtjkbiddebiioeaaAlive
namespace Go.Proofs.Ytjkbiddebiioeaa
open Go.RowKit
set_option linter.unusedVariables false

theorem below_quiet {w w' : World} (h : ∃ n, w' = w.drewN n) (B : Nat) : Below B w w' := by
  obtain ⟨n, rfl⟩ := h
  exact below_drewN (Below.refl _ _) n

theorem below_chain {a b c : World} (h : Below a.heap.size a b) (k : Below b.heap.size b c) : Below a.heap.size a c := h.trans (k.mono h.size)

theorem out_short (L : List UInt8) (A : M.Alph L) (s : ByteArray) : (out L s).length ≤ s.size := by
  unfold out
  cases hd : M.dec L s.data.toList with
  | none => simp
  | some l =>
    have h := M.dec_enc A _ _ _ rfl hd
    have h2 := congrArg List.length h
    rw [M.enc_length] at h2
    have h3 : s.data.toList.length = s.size := by simp
    simp only [M.size] at h2
    simp only [Option.getD_some]
    omega

theorem law_decodes (s : ByteArray) (w : World) :
    Calls Try.prog 4 #[.string s] w fun e w' => e = .returned (.bool true) ∧ Below w.heap.size w w' := by
  go_enter Try.func4, Try.ntmps4
  go_wp2_with fail
  refine (alive_any w).mono ?_
  rintro e w0 ⟨rfl, hb0⟩
  have HB0 := Lib.hid hb0
  clear hb0
  by_cases hs : 2000 < s.size
  · go_wp2
    go_ret
    exact ⟨rfl, HB0.out⟩
  · have hs' : s.size ≤ 2000 := by omega
    go_wp2_with fail
    refine (dec_f11 s w0 (by omega)).mono ?_
    rintro e w1 ⟨hb1, v1, rfl, hv1⟩
    have HB1 := Lib.hid hb1
    have HV1 := Lib.hid hv1
    clear hb1 hv1
    go_wp2_with fail
    refine (dec_f12 s w1 (by omega)).mono ?_
    rintro e w2 ⟨hb2, v2, rfl, hv2⟩
    have HB2 := Lib.hid hb2
    have HV2 := Lib.hid hv2
    clear hb2 hv2
    go_wp2_with fail
    refine (dec_f13 s w2 (by omega)).mono ?_
    rintro e w3 ⟨hb3, v3, rfl, hv3⟩
    have HB3 := Lib.hid hb3
    have HV3 := Lib.hid hv3
    clear hb3 hv3
    go_wp2_with fail
    refine (dec_f14 s w3 (by omega)).mono ?_
    rintro e w4 ⟨hb4, v4, rfl, hv4⟩
    have HB4 := Lib.hid hb4
    have HV4 := Lib.hid hv4
    clear hb4 hv4
    have b24 : Below w2.heap.size w2 w4 := below_chain HB3.out HB4.out
    have b14 : Below w1.heap.size w1 w4 := below_chain HB2.out b24
    have hsame1 := same_true (out usual s) v1 v2 w1.heap.size w2.heap.size w4 (by have := out_short usual usual_alph s; omega) (HV1.out.below b14) (HV2.out.below b24)
    have hsame2 : ∀ n, Calls Try.prog 15 #[v3, v4] (w4.drewN n) fun e w' => e = .returned (.bool true) ∧ ∃ m, w' = (w4.drewN n).drewN m := fun n => same_true (out safe s) v3 v4 w3.heap.size w4.heap.size (w4.drewN n) (by have := out_short safe safe_alph s; omega) (HV3.out.below (below_drewN HB4.out n)) (HV4.out.below (below_drewN (Below.refl _ _) n))
    have H1 := Lib.hid hsame1
    have H2 := Lib.hid hsame2
    have HE := Lib.hid (below_chain HB0.out (below_chain HB1.out b14))
    clear hsame1 hsame2 b24 b14
    go_wp2_with fail
    refine H1.out.mono ?_
    rintro e w5 ⟨rfl, n, rfl⟩
    go_wp2_with fail
    refine (H2.out n).mono ?_
    rintro e w6 ⟨rfl, m, rfl⟩
    go_wp2
    go_ret
    exact ⟨rfl, below_drewN HE.out (n + m)⟩

theorem szI_len (n : Nat) (h : n ≤ 100000) : szI (n : Int) = ((M.size n : Nat) : Int) := by
  unfold szI M.size; rw [if_neg (by omega)]; omega

theorem law_encodes (l : List UInt8) (A : Option Addr) (n c : Nat) (z : Int) (w : World) (hn : Hid (n = l.length)) (hv : Bytes w w.heap.size (.slice A n c) l) :
    Calls Try.prog 6 #[.slice A n c, .int .i64 z] w fun e w' => e = .returned (.bool true) ∧ Below w.heap.size w w' := by
  have HV := Lib.hid hv
  clear hv
  go_enter Try.func6, Try.ntmps6
  go_wp2_with fail
  refine (alive_any w).mono ?_
  rintro e w0 ⟨rfl, hb0⟩
  have HB0 := Lib.hid hb0
  clear hb0
  by_cases hs : 1500 < n
  · go_wp2
    go_ret
    exact ⟨rfl, HB0.out⟩
  · have hs' : n ≤ 1500 := by omega
    have hl : l.length ≤ 100000 := by have := hn.out; omega
    go_wp2_with fail
    refine (enc_f9 l _ w0 hl ((HV.out.below HB0.out).more HB0.out.size)).mono ?_
    rintro e w1 ⟨rfl, hb1⟩
    have HB1 := Lib.hid hb1
    have B1 := Lib.hid (below_chain HB0.out hb1)
    clear hb1
    go_wp2_with fail
    refine (refEnc_f16 l _ w1 w1.heap.size hl ((HV.out.below B1.out).more B1.out.size)).mono ?_
    rintro e w2 ⟨rfl, rfl⟩
    have e1 : (M.enc usual l == M.enc usual l) = true := by simp
    go_wp2_with fail
    clear e1
    refine (enc_f10 l _ w1 hl ((HV.out.below B1.out).more B1.out.size)).mono ?_
    rintro e w2 ⟨rfl, hb2⟩
    have B2 := Lib.hid (below_chain B1.out hb2)
    clear hb2
    go_wp2_with fail
    refine (refEnc_f17 l _ w2 w2.heap.size hl ((HV.out.below B2.out).more B2.out.size)).mono ?_
    rintro e w3 ⟨rfl, rfl⟩
    have e2 : (M.enc safe l == M.enc safe l) = true := by simp
    go_wp2_with fail
    clear e2
    refine (size_f18 z w2).mono ?_
    rintro e w3 ⟨rfl, rfl⟩
    go_wp2_with fail
    refine (size_f19 z w2).mono ?_
    rintro e w3 ⟨rfl, rfl⟩
    have e3 : (szI z == szI z) = true := by simp
    go_wp2_with fail
    clear e3
    refine (enc_f9 l _ w2 hl ((HV.out.below B2.out).more B2.out.size)).mono ?_
    rintro e w3 ⟨rfl, hb3⟩
    have B3 := Lib.hid (below_chain B2.out hb3)
    clear hb3
    go_wp2_with fail
    refine (size_f18 (n : Int) w3).mono ?_
    rintro e w4 ⟨rfl, rfl⟩
    have e4 : szI (n : Int) = (((M.enc usual l).length : Nat) : Int) := by
      rw [szI_len n (by omega), M.enc_length, ← hn.out]
    rw [e4]
    clear e4
    go_wp2
    go_ret
    exact ⟨rfl, B3.out⟩

theorem code_enc (L : List UInt8) (A : M.Alph L) (l : List UInt8) : code L ⟨(M.enc L l).toArray⟩ = 0 ∧ out L ⟨(M.enc L l).toArray⟩ = l := by
  unfold code out
  have h : M.dec L (M.enc L l) = some l := M.enc_dec A _ l rfl
  show (match M.dec L (M.enc L l) with | none => (2 : Int) | some _ => 0) = 0 ∧ (M.dec L (M.enc L l)).getD [] = l
  rw [h]
  exact ⟨rfl, rfl⟩

theorem code_cases (L : List UInt8) (A : M.Alph L) (s : ByteArray) : code L s = 2 ∨ (code L s = 0 ∧ M.enc L (out L s) = s.data.toList) := by
  unfold code out
  cases hd : M.dec L s.data.toList with
  | none => exact .inl rfl
  | some l => exact .inr ⟨rfl, M.dec_enc A _ _ _ rfl hd⟩

end Go.Proofs.Ytjkbiddebiioeaa
