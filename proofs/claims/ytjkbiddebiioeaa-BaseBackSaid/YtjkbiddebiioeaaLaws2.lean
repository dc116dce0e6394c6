/-
  The law that what is encoded is decoded as it was, walked.
-/
import Derived.Test.YtjkbiddebiioeaaLaws
import Derived.Laws.AppendOwnNone
namespace Go.Proofs.Ytjkbiddebiioeaa
open Go.RowKit
set_option linter.unusedVariables false

theorem law_back (l : List UInt8) (A : Option Addr) (n c : Nat) (s : ByteArray) (w : World) (hn : Hid (n = l.length)) (hv : Bytes w w.heap.size (.slice A n c) l) :
    Calls Try.prog 5 #[.slice A n c, .string s] w fun e w' => e = .returned (.bool true) ∧ Below w.heap.size w w' := by
  have HV := Lib.hid hv
  clear hv
  go_enter Try.func5, Try.ntmps5
  go_wp2_with fail
  refine (alive_any w).mono ?_
  rintro e w0 ⟨rfl, hb0⟩
  have HB0 := Lib.hid hb0
  clear hb0
  by_cases hs : 3000 < n
  · go_wp2
    go_ret
    exact ⟨rfl, HB0.out⟩
  by_cases hs2 : 3000 < s.size
  · go_wp2
    go_ret
    exact ⟨rfl, HB0.out⟩
  have hs' : n ≤ 3000 := by omega
  have hs2' : s.size ≤ 3000 := by omega
  clear hs hs2
  have hl : l.length ≤ 100000 := by have := hn.out; omega
  have hsz : ∀ L, (⟨(M.enc L l).toArray⟩ : ByteArray).size ≤ 100000 := by
    intro L
    show (M.enc L l).toArray.size ≤ 100000
    have h := M.enc_length L l
    rw [List.size_toArray, h]
    have := hn.out
    unfold M.size; omega
  have HSZ := Lib.hid hsz
  clear hsz
  go_wp2_with fail
  refine (enc_f9 l _ w0 hl ((HV.out.below HB0.out).more HB0.out.size)).mono ?_
  rintro e w1 ⟨rfl, hb1⟩
  have B1 := Lib.hid (below_chain HB0.out hb1)
  clear hb1
  go_wp2_with fail
  refine (dec_f11 _ w1 (HSZ.out usual)).mono ?_
  rintro e w2 ⟨hb2, v2, rfl, hv2⟩
  obtain ⟨k1, k2⟩ := code_enc usual usual_alph l
  rw [k1]
  rw [k2] at hv2
  have B2 := Lib.hid (below_chain B1.out hb2)
  have HV2 := Lib.hid hv2
  clear hb2 hv2 k1 k2
  go_wp2_with fail
  refine (enc_f10 l _ w2 hl ((HV.out.below B2.out).more B2.out.size)).mono ?_
  rintro e w3 ⟨rfl, hb3⟩
  have B3 := Lib.hid (below_chain B2.out hb3)
  have HB3 := Lib.hid hb3
  clear hb3
  go_wp2_with fail
  refine (dec_f13 _ w3 (HSZ.out safe)).mono ?_
  rintro e w4 ⟨hb4, v4, rfl, hv4⟩
  obtain ⟨k1, k2⟩ := code_enc safe safe_alph l
  rw [k1]
  rw [k2] at hv4
  have B4 := Lib.hid (below_chain B3.out hb4)
  have HB24 := Lib.hid (below_chain HB3.out hb4)
  have HV4 := Lib.hid hv4
  clear hb4 hv4 k1 k2
  go_wp2_with fail
  refine (same_true l _ _ w.heap.size w2.heap.size w4 (by omega) (HV.out.below B4.out) (HV2.out.below HB24.out)).mono ?_
  rintro e w5 ⟨rfl, m, rfl⟩
  go_wp2_with fail
  refine (same_true l _ _ w.heap.size w4.heap.size (w4.drewN m) (by omega) (HV.out.below (below_drewN B4.out m)) (HV4.out.below (below_drewN (Below.refl _ _) m))).mono ?_
  rintro e w5 ⟨rfl, m2, rfl⟩
  obtain ⟨w5, hw5⟩ : ∃ w5, w5 = (w4.drewN m).drewN m2 := ⟨_, rfl⟩
  rw [← hw5]
  have B5 := Lib.hid (show Below w.heap.size w w5 by rw [hw5]; exact below_drewN (below_drewN B4.out m) m2)
  clear hw5
  go_wp2_with fail
  refine (dec_f11 _ w5 (by omega)).mono ?_
  rintro e w6 ⟨hb6, v6, rfl, hv6⟩
  have B6 := Lib.hid (below_chain B5.out hb6)
  have HV6 := Lib.hid hv6
  clear hb6 hv6
  go_wp2_with fail
  refine (dec_f13 _ w6 (by omega)).mono ?_
  rintro e w7 ⟨hb7, v7, rfl, hv7⟩
  have B7 := Lib.hid (below_chain B6.out hb7)
  have HB7 := Lib.hid hb7
  have HV7 := Lib.hid hv7
  clear hb7 hv7
  have hx1 := out_short usual usual_alph s
  have hx2 := out_short safe safe_alph s
  have hr : ∀ L, M.enc L (out L s) = s.data.toList → (M.enc L (out L s) == s.toList) = true := by
    intro L h; rw [ByteArray.toList_eq, h]; simp
  rcases code_cases usual usual_alph s with k1 | ⟨k1, e1⟩
  · rw [k1]
    clear k1
    rcases code_cases safe safe_alph s with k2 | ⟨k2, e2⟩
    · rw [k2]
      clear k2
      go_wp2
      go_ret
      exact ⟨rfl, B7.out⟩
    · rw [k2]
      have hq := hr safe e2
      clear k2 e2
      go_wp2_with fail
      refine (enc_f10 _ _ w7 (by omega) HV7.out).mono ?_
      rintro e w8 ⟨rfl, hb8⟩
      have B8 := Lib.hid (below_chain B7.out hb8)
      clear hb8
      go_wp2
      go_ret
      exact ⟨rfl, B8.out⟩
  · rw [k1]
    have hp := hr usual e1
    clear k1 e1
    rcases code_cases safe safe_alph s with k2 | ⟨k2, e2⟩
    · rw [k2]
      clear k2
      go_wp2_with fail
      refine (enc_f9 _ _ w7 (by omega) ((HV6.out.below HB7.out).more HB7.out.size)).mono ?_
      rintro e w8 ⟨rfl, hb8⟩
      have B8 := Lib.hid (below_chain B7.out hb8)
      clear hb8
      go_wp2
      go_ret
      exact ⟨rfl, B8.out⟩
    · rw [k2]
      have hq := hr safe e2
      clear k2 e2
      go_wp2_with fail
      refine (enc_f9 _ _ w7 (by omega) ((HV6.out.below HB7.out).more HB7.out.size)).mono ?_
      rintro e w8 ⟨rfl, hb8⟩
      have B8 := Lib.hid (below_chain B7.out hb8)
      have HV7' := Lib.hid ((HV7.out.below hb8).more hb8.size)
      clear hb8
      go_wp2_with fail
      refine (enc_f10 _ _ w8 (by omega) HV7'.out).mono ?_
      rintro e w9 ⟨rfl, hb9⟩
      have B9 := Lib.hid (below_chain B8.out hb9)
      clear hb9
      go_wp2
      go_ret
      exact ⟨rfl, B9.out⟩

/-- append(own, src...), src a slice that reads as bytes, nil or not. -/
theorem append_bytes {w : World} {ops : Array Oper} {rest : List Oper} {o : Oper} {a : Act} {Q : Exit → Act → World → Prop} (hgd : o.guard = none) (s x : Operand)
    (ho : o.op = .call { callee := .builtin .append, args := #[s, x], argTypes := #[22, 22] })
    (base : Nat) (i : TypeInfo) (hi : Try.prog.info? 5 = some i) (hz : i.zero = some (.int .u8 0)) (hsize : i.size = 1) (hby : i.bytes = 1)
    (v : Value) (n : Nat) (xs : List Value) (hs : a.eval s = v) (hown : w.ownsRow base 5 1 v n xs)
    (B : Nat) (A : Option Addr) (m c : Nat) (l : List UInt8) (hm : m = l.length) (hx : a.eval x = .slice A m c) (hl : Bytes w B (.slice A m c) l)
    (h63 : n + m ≤ 1000000) (hbase : base ≤ w.heap.size)
    (h : ∀ v' w', w'.ownsRow base 5 1 v' (n + m) (xs ++ Lib.byteCells l) → w.grownBy w' v.ownBlock → wpList Try.prog ops Q rest (a.put o.dst v') w') :
    wpList Try.prog ops Q (o :: rest) a w := by
  obtain ⟨A', c', hv, h1, h2, h3, h4⟩ := hl
  injection hv with e1 e2 e3
  subst e1; subst e3
  cases A with
  | none =>
    have hc0 : c = 0 := h3 rfl
    subst hc0
    have hl0 : l = [] := List.eq_nil_of_length_eq_zero (by omega)
    subst hl0
    have hm0 : m = 0 := by simpa using hm
    subst hm0
    refine wpList_append_own_none hgd s x 22 ho base 5 i 1 Try.underlying22 hi v n xs hs hown hx ?_
    refine h v w ?_ (World.grownBy.refl w _)
    simpa [Lib.byteCells] using hown
  | some ad =>
    refine wpList_append_own _ hgd s x 22 ho base 5 i (.int .u8 0) 1 1 Try.underlying22 hi hz hsize hby rfl (by decide) v n xs hs hown ad m c (Lib.byteCells l) hx ?_ ?_ ?_ ?_ ?_ hbase (fun v' w' k1 k2 _ => h v' w' k1 k2)
    · rw [Lib.byteCells_length, hm, Nat.mul_one]
    · intro j u hj
      have hj' : j < l.length := by
        have := (List.getElem?_eq_some_iff.1 hj).1
        rwa [Lib.byteCells_length] at this
      obtain ⟨hsp, _, hc⟩ := h4 ad rfl (by omega)
      obtain ⟨b, of, sp⟩ := ad
      obtain rfl : sp = none := hsp
      have e : (⟨b, of, none⟩ : Addr).add j = ⟨b, of + j, none⟩ := by unfold Addr.add; split <;> simp_all
      rw [e, hc j _ (List.getElem?_eq_getElem hj'), ← hj]
      simp [Lib.byteCells, hj']
    · intro u hu
      simp only [Lib.byteCells, List.mem_map] at hu
      obtain ⟨y, _, rfl⟩ := hu
      rfl
    · unfold maxLen; omega
    · omega

theorem copy_f8 (l : List UInt8) (A : Option Addr) (n c : Nat) (w : World) (hn : Hid (n = l.length)) (hl : n ≤ 100000) (hv : Bytes w w.heap.size (.slice A n c) l) :
    Calls Try.prog 8 #[.slice A n c] w fun e w' => (∃ v, e = .returned v ∧ w'.ownsRow w.heap.size 5 1 v n (Lib.byteCells l)) ∧ Below w.heap.size w w' := by
  obtain ⟨i0, hi0, hz0, hz1, hz2⟩ := info_parts infoByte
  have HV := Lib.hid hv
  clear hv
  have hown : (w.alloc (Obj.cells #[] 5)).ownsRow w.heap.size 5 1 (.slice (some ⟨w.heap.size, 0, none⟩) 0 0) 0 [] := World.ownsRow_made w #[] 0 (Nat.le_refl _) (by unfold maxLen; omega) rfl
  have hb : Bytes (w.alloc (Obj.cells #[] 5)) w.heap.size (.slice A n c) l := HV.out.below ((Below.refl _ _).alloc (Nat.le_refl _) _)
  have HO := Lib.hid hown
  have HB := Lib.hid hb
  clear hown hb
  go_enter Try.func8, Try.ntmps8
  go_wp2_with (at_builtin; refine append_bytes rfl (.tmp 3) (.tmp 4) rfl w.heap.size i0 hi0 hz0 hz1 hz2 _ _ _ rfl HO.out w.heap.size A n c l hn.out rfl HB.out (by omega) (by simp) ?_)
  intro v' w' k1 k2
  have K1 := Lib.hid k1
  have K2 := Lib.hid k2
  clear k1 k2
  go_wp2
  go_ret
  refine ⟨⟨_, rfl, ?_⟩, ?_⟩
  · simpa using K1.out
  · exact ((Below.refl _ _).alloc (Nat.le_refl _) _).grown K2.out (by simp) (fun k hk => by simp [Value.ownBlock] at hk; omega)

theorem law_joins (l r : List UInt8) (A B : Option Addr) (n c m d : Nat) (w : World) (hn : Hid (n = l.length)) (hm : Hid (m = r.length)) (hv : Bytes w w.heap.size (.slice A n c) l) (hu : Bytes w w.heap.size (.slice B m d) r) :
    Calls Try.prog 3 #[.slice A n c, .slice B m d] w fun e w' => e = .returned (.bool true) ∧ Below w.heap.size w w' := by
  obtain ⟨i0, hi0, hz0, hz1, hz2⟩ := info_parts infoByte
  have HV := Lib.hid hv
  have HU := Lib.hid hu
  clear hv hu
  go_enter Try.func3, Try.ntmps3
  go_wp2_with fail
  refine (alive_any w).mono ?_
  rintro e w0 ⟨rfl, hb0⟩
  have HB0 := Lib.hid hb0
  clear hb0
  by_cases hs : 1000 < n
  · go_wp2
    go_ret
    exact ⟨rfl, HB0.out⟩
  by_cases hs2 : 1000 < m
  · go_wp2
    go_ret
    exact ⟨rfl, HB0.out⟩
  have hs' : n ≤ 1000 := by omega
  have hs2' : m ≤ 1000 := by omega
  clear hs hs2
  have hnc : n ≤ c := by
    obtain ⟨A', c', e, h1, _⟩ := HV.out
    injection e with _ e2 e3; omega
  have hcut : ∀ W, (Instr.slice 22 (.slice A n c) none (some (.int .i64 ((n : Int) / 3 * 3))) none).run Try.prog W = .ok (.slice A (n / 3 * 3) c) W := by
    intro W
    have e1 : (0 : Int) ≤ (n : Int) / 3 * 3 := by omega
    have e2 : (n : Int) / 3 * 3 ≤ (c : Int) := by omega
    have e3 : ((n : Int) / 3 * 3).toNat = n / 3 * 3 := by omega
    go_simp
  obtain ⟨q, hq⟩ : ∃ q, q = n / 3 * 3 := ⟨_, rfl⟩
  have hqn : q ≤ n := by omega
  rw [← hq] at hcut
  have HQ := Lib.hid hq
  clear hq
  have hl1 : Bytes w w.heap.size (.slice A q c) (l.take q) := by
    obtain ⟨A', c', e, h1, h2, h3, h4⟩ := HV.out
    injection e with e1 e2 e3
    subst e1; subst e3
    have hlen : (l.take q).length = q := by rw [List.length_take]; omega
    refine ⟨A, c, by rw [hlen], by omega, h2, h3, fun x hx hx0 => ⟨(h4 x hx (by omega)).1, (h4 x hx (by omega)).2.1, fun j u hj => (h4 x hx (by omega)).2.2 j u ?_⟩⟩
    rw [List.getElem?_take] at hj
    split at hj
    · exact hj
    · cases hj
  have HL := Lib.hid hl1
  have hql : Hid (q = (l.take q).length) := by show q = _; rw [List.length_take]; have := hn.out; omega
  clear hl1
  go_wp2_with fail
  refine (copy_f8 (l.take q) A q c w0 hql (by omega) ((HL.out.below HB0.out).more HB0.out.size)).mono ?_
  rintro e w1 ⟨⟨v1, rfl, ho1⟩, hb1⟩
  have HO1 := Lib.hid ho1
  have B1 := Lib.hid (below_chain HB0.out hb1)
  have hw1 := hb1.size
  clear ho1 hb1
  go_wp2_with (at_builtin; refine append_bytes rfl (.tmp 23) (.tmp 24) rfl w0.heap.size i0 hi0 hz0 hz1 hz2 _ _ _ rfl HO1.out w.heap.size B m d r hm.out rfl (HU.out.below B1.out) (by omega) hw1 ?_)
  intro v2 w2 k1 k2
  have hb2 : Below w.heap.size w w2 := B1.out.grown k2 B1.out.size (fun k hk => Nat.le_trans HB0.out.size (HO1.out.lt k hk).1)
  have hv2 : Bytes w2 w2.heap.size v2 (l.take q ++ r) := by
    rw [← Lib.byteCells_append] at k1
    exact bytes_of_own k1 (by rw [List.length_append, ← hql.out, ← hm.out])
  have B2 := Lib.hid hb2
  have HV2 := Lib.hid hv2
  clear k1 k2 hb2 hv2
  have hlen : (l.take q ++ r).length ≤ 100000 := by rw [List.length_append]; have := hql.out; have := hm.out; omega
  have hlen1 : (l.take q).length ≤ 1000 := by have := hql.out; omega
  have hlen2 : r.length ≤ 1000 := by have := hm.out; omega
  have h3 : (l.take q).length % 3 = 0 := by have := hql.out; have := HQ.out; omega
  have H3 := Lib.hid h3
  clear h3
  have hel : ∀ L (x : List UInt8), x.length ≤ 1000 → (M.enc L x).length ≤ 2000 := by
    intro L x hx; rw [M.enc_length]; unfold M.size; omega
  have x1 := hel usual _ hlen1
  have x2 := hel usual _ hlen2
  have x3 := hel safe _ hlen1
  have x4 := hel safe _ hlen2
  clear hel
  generalize hl1 : l.take q = l1 at *
  have HL1 := Lib.hid hl1
  clear hl1
  go_wp2_with fail
  refine (enc_f9 _ _ w2 hlen HV2.out).mono ?_
  rintro e w3 ⟨rfl, hb3⟩
  have B3 := Lib.hid (B2.out.trans (hb3.mono B2.out.size))
  have C3 := Lib.hid hb3
  clear hb3
  go_wp2_with fail
  refine (enc_f9 _ _ w3 (by omega) ((HL.out.below B3.out).more B3.out.size)).mono ?_
  rintro e w4 ⟨rfl, hb4⟩
  have B4 := Lib.hid (B3.out.trans (hb4.mono B3.out.size))
  have C4 := Lib.hid (below_chain C3.out hb4)
  clear hb4
  go_wp2_with fail
  refine (enc_f9 _ _ w4 (by omega) ((HU.out.below B4.out).more B4.out.size)).mono ?_
  rintro e w5 ⟨rfl, hb5⟩
  have B5 := Lib.hid (B4.out.trans (hb5.mono B4.out.size))
  have C5 := Lib.hid (below_chain C4.out hb5)
  clear hb5
  rw [M.enc_append usual l1 r H3.out]
  have ht : ∀ (x y : List UInt8), (x ++ y == ((⟨x.toArray⟩ : ByteArray) ++ ⟨y.toArray⟩).toList) = true := by
    intro x y; rw [join, ByteArray.toList_eq]; simp
  have ht1 := ht (M.enc usual l1) (M.enc usual r)
  have ht2 := ht (M.enc safe l1) (M.enc safe r)
  clear ht
  go_wp2_with fail
  refine (enc_f10 _ _ w5 hlen ((HV2.out.below C5.out).more C5.out.size)).mono ?_
  rintro e w6 ⟨rfl, hb6⟩
  have B6 := Lib.hid (B5.out.trans (hb6.mono B5.out.size))
  clear hb6
  go_wp2_with fail
  refine (enc_f10 _ _ w6 (by omega) ((HL.out.below B6.out).more B6.out.size)).mono ?_
  rintro e w7 ⟨rfl, hb7⟩
  have B7 := Lib.hid (B6.out.trans (hb7.mono B6.out.size))
  clear hb7
  go_wp2_with fail
  refine (enc_f10 _ _ w7 (by omega) ((HU.out.below B7.out).more B7.out.size)).mono ?_
  rintro e w8 ⟨rfl, hb8⟩
  have B8 := Lib.hid (B7.out.trans (hb8.mono B7.out.size))
  clear hb8
  rw [M.enc_append safe l1 r H3.out]
  go_wp2
  go_ret
  exact ⟨rfl, B8.out⟩
end Go.Proofs.Ytjkbiddebiioeaa
