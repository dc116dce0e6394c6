/-
  The reference's decode answers the bytes of letters, or refuses: the same as the program's.
-/
import Derived.Test.YtjkbiddebiioeaaDec
import Derived.Deep.QuietTactic
import Derived.BigQuiet
namespace Go.Proofs.Ytjkbiddebiioeaa
open Go.RowKit
set_option linter.unusedVariables false

theorem bytes_of_own {w : World} {base n : Nat} {v : Value} {l : List UInt8} (h : w.ownsRow base 5 1 v n (Lib.byteCells l)) (hn : n = l.length) : Bytes w w.heap.size v l := by
  subst hn
  rcases h.2 with ⟨rfl, h0⟩ | ⟨g, cap, cur, rfl, hb, hg, hc, hm, hs, ht⟩
  · refine ⟨none, 0, by rw [h0], by omega, by omega, fun _ => rfl, fun x hx _ => by cases hx⟩
  · refine ⟨some ⟨g, 0, none⟩, cap, rfl, hc, by simpa [maxLen] using hm, (fun h => by cases h), fun x hx _ => ?_⟩
    injection hx with hx; subst hx
    refine ⟨rfl, (Array.getElem?_eq_some_iff.1 hg).1, fun j u hu => ?_⟩
    have h1 := h.cells (g := g) rfl j (.int .u8 u.toNat) (by simp [Lib.byteCells, hu])
    have e : (⟨g, 0, none⟩ : Addr).add j = ⟨g, 0 + j, none⟩ := by unfold Addr.add; split <;> simp_all
    rw [e] at h1; exact h1

theorem below_drewN {B : Nat} {a w : World} (h : Below B a w) (n : Nat) : Below B a (w.drewN n) := ⟨h.os, h.tape, h.output, h.size, h.block⟩

/-- What the reference's search has found behind k letters. -/
def vAt (x : Int) (k : Nat) : Int := if 0 ≤ x ∧ x < k then x else -1
theorem vAt_zero (x : Int) : vAt x 0 = -1 := by unfold vAt; rw [if_neg (by omega)]
theorem vAt_hit (x : Int) (k : Nat) (h : x = k) : vAt x (k + 1) = k := by unfold vAt; rw [if_pos (by omega)]; exact h
theorem vAt_miss (x : Int) (k : Nat) (h : x ≠ k) : vAt x (k + 1) = vAt x k := by
  unfold vAt
  by_cases h1 : 0 ≤ x ∧ x < k
  · rw [if_pos h1, if_pos (by omega)]
  · rw [if_neg h1, if_neg (by omega)]

def RefAt (a s : ByteArray) (w : World) (v n b i : Value) (wr : World) : Prop :=
  ∃ (k q : Nat) (ks : List Nat), k ≤ s.size ∧ i = .int .i64 k ∧ q = 6 * k % 8 ∧ b = .int .i64 q ∧ M.idxs a.data.toList (s.data.toList.take k) = some ks ∧ n = .int .i64 (M.nAt ks k) ∧
    wr.ownsRow w.heap.size 5 1 v (M.outAt ks k).length (Lib.byteCells (M.outAt ks k)) ∧ Below w.heap.size w wr

set_option maxHeartbeats 400000 in
theorem refDec_any (a s : ByteArray) (w : World) (hs : s.size ≤ 100000) (ha : a.size = 64) (A : M.Alph a.data.toList) :
    Calls Try.prog 22 #[.string s, .string a] w (DecPost a s w) := by
  obtain ⟨i0, hi0, hz0, hz1, hz2⟩ := info_parts infoByte
  have hA := Lib.hid ha
  have ha1 : 64 ≤ a.size := by omega
  have ha2 : a.size ≤ 64 := by omega
  have HAl := Lib.hid A
  clear ha A
  go_enter Try.func22, Try.ntmps22
  go_wp2
  go_loopw [6, 7, 8, 9] (fun v n b i wr => RefAt a s w v n b i wr) (fun _ _ _ i _ => s.size - (intOf i).toNat)
  case atStart => exact ⟨0, 0, [], Nat.zero_le _, rfl, rfl, rfl, by simp; rfl, rfl, World.ownsRow_nil _ _ _ _, Below.refl _ _⟩
  case round =>
    obtain ⟨k, q, ks, hk, rfl, hq, rfl, hks, rfl, hown, hbel⟩ := hrel
    have hbs := hbel.size
    have HK := Lib.hid hks
    have HO := Lib.hid hown
    have HB := Lib.hid hbel
    have hkl : ks.length = k := by rw [M.idxs_length hks]; simp; omega
    have HKL := Lib.hid hkl
    have HQ := Lib.hid hq
    have hnl := M.nAt_lt ks k
    rw [← hq] at hnl
    have hq4 : q = 0 ∨ q = 6 ∨ q = 4 ∨ q = 2 := by omega
    have hol : (M.outAt ks k).length ≤ 100000 := by unfold M.outAt; rw [M.bytes_length]; omega
    obtain ⟨out, hout⟩ : ∃ out, out = M.outAt ks k := ⟨_, rfl⟩
    obtain ⟨N, hN⟩ : ∃ N, N = M.nAt ks k := ⟨_, rfl⟩
    rw [← hN] at hnl
    rw [← hout] at HO hol
    rw [← hN]
    have HOut := Lib.hid hout
    have HN := Lib.hid hN
    clear hks hown hbel hkl hq hout hN
    by_cases hlt : k < s.size
    · obtain ⟨c, hc⟩ : ∃ c, c = s[k]'hlt := ⟨_, rfl⟩
      have HC := Lib.hid hc
      obtain ⟨x, hx⟩ : ∃ x, x = Lib.indexByte a.data.toList c := ⟨_, rfl⟩
      have HX := Lib.hid hx
      clear hc hx
      go_wp2
      go_loopw [10, 11] (fun v j W => ∃ (n m : Nat), n ≤ 64 ∧ j = .int .i64 n ∧ v = .int .i64 (vAt x n) ∧ Hid (W = wr.drewN m)) (fun _ j _ => 64 - (intOf j).toNat)
      case atStart => exact ⟨0, 0, by omega, rfl, by rw [vAt_zero], rfl⟩
      case round =>
        obtain ⟨n, m, hn, rfl, rfl, hw⟩ := hrel
        have hw' := hw.out
        subst hw'
        by_cases hn64 : n < 64
        · have hb1 : (n : Int) < (a.size : Int) := by omega
          have hb2 : (k : Int) < (s.size : Int) := by omega
          have hbk := HAl.out.back n hn64
          have hfo := HAl.out.forth c
          rw [← HX.out] at hfo
          have hnA : n < a.size := by omega
          have e1 : (a[n]'hnA) = M.lt a.data.toList n := by
            have hs' : n < a.data.size := by have : a.data.size = 64 := hA.out; omega
            simp only [M.lt, List.getD_eq_getElem?_getD, Array.getElem?_toList]
            rw [Array.getElem?_eq_getElem hs']; rfl
          by_cases hit : x = n
          · have hlet : (((a[n]'hnA).toNat : Int) == (s[k].toNat : Int)) = true := by
              rw [e1, ← HC.out]
              rcases hfo with h | ⟨_, _, h⟩
              · omega
              · rw [hit] at h; simp at h; rw [h]; simp
            have HIT := Lib.hid hit
            clear hit hbk hfo e1
            go_wp2_with fail
            go_quiet (fail)
            go_wp2
            go_roundw
            case rel => exact ⟨n + 1, _, by omega, by go_num, by rw [vAt_hit x n HIT.out], rfl⟩
            case measure => simp [intOf]; omega
          · have hlet : (((a[n]'hnA).toNat : Int) == (s[k].toNat : Int)) = false := by
              rw [e1, ← HC.out]
              rw [beq_eq_false_iff_ne]
              intro h
              have h2 : M.lt a.data.toList n = c := UInt8.toNat_inj.1 (by omega)
              rw [h2, ← HX.out] at hbk
              exact hit hbk
            have HIT := Lib.hid hit
            clear hit hbk hfo e1
            go_wp2_with fail
            go_quiet (fail)
            go_wp2
            go_roundw
            case rel => exact ⟨n + 1, _, by omega, by go_num, by rw [vAt_miss x n HIT.out], rfl⟩
            case measure => simp [intOf]; omega
        · have hn65 : n = 64 := by omega
          have hfo := HAl.out.forth c
          rw [← HX.out] at hfo
          have hkd : k < s.data.toList.length := by simp; omega
          have hcd : c = s.data.toList[k] := by rw [HC.out]; rfl
          have HCD := Lib.hid hcd
          clear hcd
          rcases hfo with hneg | ⟨hp0, hp1, _⟩
          · have hv : vAt x n < 0 := by unfold vAt; rw [if_neg (by omega)]; decide
            go_wp2
            go_ret2
            refine ⟨below_drewN HB.out _, ?_⟩
            have hn : M.idx a.data.toList c = none := by unfold M.idx; rw [← HX.out, if_pos (by omega)]
            have h2 := M.idxs_none_of hn (g := s.data.toList) (by rw [HCD.out]; exact List.getElem_mem _)
            rw [M.ref_dec HAl.out, h2]; rfl
          · obtain ⟨r, hr⟩ := Int.eq_ofNat_of_zero_le hp0
            have hv : vAt x n = (r : Int) := by unfold vAt; rw [if_pos (by omega)]; exact hr
            have hr64 : r < 64 := by omega
            have hidx : M.idx a.data.toList c = some r := by unfold M.idx; rw [← HX.out, if_neg (by omega), hr]; simp
            have hks' : M.idxs a.data.toList (s.data.toList.take (k + 1)) = some (ks ++ [r]) := by
              rw [List.take_succ_eq_append_getElem hkd, ← HCD.out]
              exact M.idxs_snoc HK.out hidx
            have htk : (ks ++ [r]).take k = ks := by rw [← HKL.out]; simp
            have eo : M.outAt (ks ++ [r]) k = out := by
              rw [HOut.out]; unfold M.outAt; rw [htk, List.take_of_length_le (by have := HKL.out; omega)]
            have en : M.nAt (ks ++ [r]) k = N := by
              rw [HN.out]; unfold M.nAt; rw [htk, List.take_of_length_le (by have := HKL.out; omega)]
            have er : (ks ++ [r])[k]'(by have := HKL.out; simp; omega) = r := by
              have := HKL.out; subst this; simp
            have HKS := Lib.hid hks'
            have HEO := Lib.hid eo
            have HEN := Lib.hid en
            have HER := Lib.hid er
            rw [hv]
            clear hv hr hn65 hidx hks' htk eo en er hp0 hp1
            rcases hq4 with rfl | rfl | rfl | rfl
            · have hst := M.step_small (ks ++ [r]) k (by have := HKL.out; simp; omega) (by rw [HER.out]; exact hr64) (by have := HQ.out; omega)
              rw [HEO.out, HEN.out, HER.out] at hst
              have HS := Lib.hid hst
              clear hst
              have hNb : N < 1 := by simpa using hnl
              go_wp2
              go_roundw
              case rel =>
                refine ⟨k + 1, 6, ks ++ [r], by omega, by go_num, by have := HQ.out; omega, rfl, HKS.out, by rw [HS.out.2]; go_num, ?_, below_drewN HB.out _⟩
                rw [HS.out.1]; exact HO.out
              case measure => simp [intOf]; omega
            · have hst := M.step_big (ks ++ [r]) k (by have := HKL.out; simp; omega) (by rw [HER.out]; exact hr64) (by have := HQ.out; omega)
              rw [HEO.out, HEN.out, HER.out, ← HQ.out] at hst
              simp only [Nat.reduceAdd, Nat.reduceSub, Nat.reducePow] at hst
              have HS := Lib.hid hst
              clear hst
              have hNb : N < 64 := by simpa using hnl
              have c2 : ∀ u ∈ ([.int .u8 (((N : Int) * 64 + r) / 16)] : List Value), u.oneCell' = true := by
                intro u hu; simp at hu; subst hu; rfl
              have C2 := Lib.hid c2
              have HO1 : Hid ((wr.drewN m).ownsRow w.heap.size 5 1 u6 out.length (Lib.byteCells out)) := HO.out
              clear c2
              go_wp2_with (at_builtin; refine wpList_append_own _ rfl (.tmp 42) (.tmp 48) 22 rfl w.heap.size 5 i0 (.int .u8 0) 1 1 Try.underlying22 hi0 hz0 hz1 hz2 rfl (by decide) _ _ _ rfl (HO1.out.alloc _) ⟨wr.heap.size, 0, none⟩ 1 1 [.int .u8 (((N : Int) * 64 + r) / 16)] rfl rfl (cell_one_new _ _ _) C2.out (by unfold maxLen; omega) (by omega) (by simp; omega) ?_)
              intro v' w2 hown' hgrow _
              have HO2 := Lib.hid hown'
              have HW2 := Lib.hid hgrow
              clear hown' hgrow
              go_wp2
              go_roundw
              case rel =>
                refine ⟨k + 1, 4, ks ++ [r], by omega, by go_num, by have := HQ.out; omega, rfl, HKS.out, by rw [HS.out.2.1]; go_num, ?_, ?_⟩
                · rw [HS.out.1, List.length_append, Lib.byteCells_append]
                  have e : Lib.byteCells [((N * 64 + r) / 16).toUInt8] = [.int .u8 (((N : Int) * 64 + r) / 16)] := by
                    simp [Lib.byteCells]; omega
                  rw [e]
                  exact HO2.out
                · exact ((below_drewN HB.out _).alloc (by simp; omega) _).grown HW2.out (by simp; omega) (fun k hk => (HO.out.lt k hk).1)
              case measure => simp [intOf]; omega
            · have hst := M.step_big (ks ++ [r]) k (by have := HKL.out; simp; omega) (by rw [HER.out]; exact hr64) (by have := HQ.out; omega)
              rw [HEO.out, HEN.out, HER.out, ← HQ.out] at hst
              simp only [Nat.reduceAdd, Nat.reduceSub, Nat.reducePow] at hst
              have HS := Lib.hid hst
              clear hst
              have hNb : N < 16 := by simpa using hnl
              have c2 : ∀ u ∈ ([.int .u8 (((N : Int) * 64 + r) / 4)] : List Value), u.oneCell' = true := by
                intro u hu; simp at hu; subst hu; rfl
              have C2 := Lib.hid c2
              have HO1 : Hid ((wr.drewN m).ownsRow w.heap.size 5 1 u6 out.length (Lib.byteCells out)) := HO.out
              clear c2
              go_wp2_with (at_builtin; refine wpList_append_own _ rfl (.tmp 42) (.tmp 48) 22 rfl w.heap.size 5 i0 (.int .u8 0) 1 1 Try.underlying22 hi0 hz0 hz1 hz2 rfl (by decide) _ _ _ rfl (HO1.out.alloc _) ⟨wr.heap.size, 0, none⟩ 1 1 [.int .u8 (((N : Int) * 64 + r) / 4)] rfl rfl (cell_one_new _ _ _) C2.out (by unfold maxLen; omega) (by omega) (by simp; omega) ?_)
              intro v' w2 hown' hgrow _
              have HO2 := Lib.hid hown'
              have HW2 := Lib.hid hgrow
              clear hown' hgrow
              go_wp2
              go_roundw
              case rel =>
                refine ⟨k + 1, 2, ks ++ [r], by omega, by go_num, by have := HQ.out; omega, rfl, HKS.out, by rw [HS.out.2.1]; go_num, ?_, ?_⟩
                · rw [HS.out.1, List.length_append, Lib.byteCells_append]
                  have e : Lib.byteCells [((N * 64 + r) / 4).toUInt8] = [.int .u8 (((N : Int) * 64 + r) / 4)] := by
                    simp [Lib.byteCells]; omega
                  rw [e]
                  exact HO2.out
                · exact ((below_drewN HB.out _).alloc (by simp; omega) _).grown HW2.out (by simp; omega) (fun k hk => (HO.out.lt k hk).1)
              case measure => simp [intOf]; omega
            · have hst := M.step_big (ks ++ [r]) k (by have := HKL.out; simp; omega) (by rw [HER.out]; exact hr64) (by have := HQ.out; omega)
              rw [HEO.out, HEN.out, HER.out, ← HQ.out] at hst
              simp only [Nat.reduceAdd, Nat.reduceSub, Nat.reducePow] at hst
              have HS := Lib.hid hst
              clear hst
              have hNb : N < 4 := by simpa using hnl
              have c2 : ∀ u ∈ ([.int .u8 ((N : Int) * 64 + r)] : List Value), u.oneCell' = true := by
                intro u hu; simp at hu; subst hu; rfl
              have C2 := Lib.hid c2
              have HO1 : Hid ((wr.drewN m).ownsRow w.heap.size 5 1 u6 out.length (Lib.byteCells out)) := HO.out
              clear c2
              go_wp2_with (at_builtin; refine wpList_append_own _ rfl (.tmp 42) (.tmp 48) 22 rfl w.heap.size 5 i0 (.int .u8 0) 1 1 Try.underlying22 hi0 hz0 hz1 hz2 rfl (by decide) _ _ _ rfl (HO1.out.alloc _) ⟨wr.heap.size, 0, none⟩ 1 1 [.int .u8 ((N : Int) * 64 + r)] rfl rfl (cell_one_new _ _ _) C2.out (by unfold maxLen; omega) (by omega) (by simp; omega) ?_)
              intro v' w2 hown' hgrow _
              have HO2 := Lib.hid hown'
              have HW2 := Lib.hid hgrow
              clear hown' hgrow
              go_wp2
              go_roundw
              case rel =>
                refine ⟨k + 1, 0, ks ++ [r], by omega, by go_num, by have := HQ.out; omega, rfl, HKS.out, by rw [HS.out.2.1]; go_num, ?_, ?_⟩
                · rw [HS.out.1, List.length_append, Lib.byteCells_append]
                  have e : Lib.byteCells [((N * 64 + r) / 1).toUInt8] = [.int .u8 ((N : Int) * 64 + r)] := by
                    simp [Lib.byteCells]; omega
                  rw [e]
                  exact HO2.out
                · exact ((below_drewN HB.out _).alloc (by simp; omega) _).grown HW2.out (by simp; omega) (fun k hk => (HO.out.lt k hk).1)
              case measure => simp [intOf]; omega
    · have HE : Hid (k = s.size) := by unfold Hid; omega
      have hb0 : Bytes wr wr.heap.size u6 out := bytes_of_own HO.out rfl
      have HB0 := Lib.hid hb0
      clear hb0
      have hi := M.ref_dec HAl.out s.data.toList
      have htk : s.data.toList.take k = s.data.toList := List.take_of_length_le (by simp; have := HE.out; omega)
      have hkk := HK.out
      rw [htk] at hkk
      rw [hkk] at hi
      dsimp only at hi
      have hsl : s.data.toList.length = k := by simp; exact HE.out.symm
      rw [hsl, ← HOut.out] at hi
      have HI := Lib.hid hi
      clear hi htk hkk hsl
      go_wp2_with fail
      refine (refEnc out u6 wr.heap.size a wr HB0.out hA.out hol).mono ?_
      rintro e w3 ⟨rfl, rfl⟩
      by_cases heq : M.enc a.data.toList out = s.data.toList
      · have ht : (M.enc a.data.toList out == s.toList) = true := by
          rw [ByteArray.toList_eq]; simp [heq]
        have HQE := Lib.hid heq
        clear heq
        go_wp2
        go_ret2
        refine ⟨HB.out, ?_⟩
        have hi := HI.out
        rw [if_pos HQE.out] at hi
        rw [hi]
        exact ⟨_, rfl, HO.out⟩
      · have ht : (M.enc a.data.toList out == s.toList) = false := by
          rw [ByteArray.toList_eq]; simp [heq]
        have HQE := Lib.hid heq
        clear heq
        go_wp2
        go_ret2
        refine ⟨HB.out, ?_⟩
        have hi := HI.out
        rw [if_neg HQE.out] at hi
        rw [hi]; rfl
end Go.Proofs.Ytjkbiddebiioeaa
