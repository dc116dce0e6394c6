/-
  The program's decode answers the bytes of letters, or refuses.
-/
import Derived.Test.YtjkbiddebiioeaaEnc
import Derived.Test.YtjkbiddebiioeaaMath3
namespace Go.Proofs.Ytjkbiddebiioeaa
open Go.RowKit
set_option linter.unusedVariables false

def DecAt (a s : ByteArray) (w : World) (x v : Value) (wr : World) : Prop :=
  ∃ (t : ByteArray) (out : List UInt8), x = .string t ∧ t.size ≤ s.size ∧ out.length ≤ s.size - t.size ∧ M.dec a.data.toList s.data.toList = (M.dec a.data.toList t.data.toList).map (out ++ ·) ∧
    wr.ownsRow w.heap.size 5 1 v out.length (Lib.byteCells out) ∧ Below w.heap.size w wr

def DecIn (a t : ByteArray) (x i : Value) : Prop :=
  ∃ (k : Nat) (ks : List Nat), k ≤ 4 ∧ i = .int .i64 k ∧ M.idxs a.data.toList (t.data.toList.take (min k t.size)) = some ks ∧ x = .int .i64 (M.num (M.pad ks k))

def DecPost (a s : ByteArray) (w : World) (e : Ending) (w' : World) : Prop :=
  Below w.heap.size w w' ∧ match M.dec a.data.toList s.data.toList with
    | none => e = .returned (.tuple #[.slice none 0 0, .int .i64 2])
    | some l => ∃ v, e = .returned (.tuple #[v, .int .i64 0]) ∧ w'.ownsRow w.heap.size 5 1 v l.length (Lib.byteCells l)

theorem indexByte_call (a : ByteArray) (c : UInt8) (w : World) :
    Calls Try.prog 26 #[.string a, .int .u8 (c.toNat : Int)] w fun e w' => e = .returned (.int .i64 (Lib.indexByte a.data.toList c)) ∧ w = w' := by
  refine (Try.strings_IndexByte a (c.toNat : Int) w).mono ?_
  rintro e w' ⟨rfl, h⟩
  exact ⟨by simp, h.symm⟩

theorem or6 (x y : Nat) (hx : x < 16777216) (hy : y < 64) : bits .or .i64 ((x : Int) * 64) (y : Int) = ((x * 64 + y : Nat) : Int) := by
  rw [bits_join .i64 63 (by decide) wraps_i64 6 ((x : Int) * 64) y (by omega) (by omega) (by omega) (by omega) (by omega) (by omega)]
  omega

theorem mask16 (x : Nat) (hx : x < 16777216) : bits .and .i64 (x : Int) 65535 = ((x % 65536 : Nat) : Int) := by
  have h := bits_mask .i64 63 (by decide) wraps_i64 16 (by decide) x (by omega) (by omega)
  rw [show ((2 : Int) ^ 16 - 1) = 65535 from rfl] at h
  rw [h]; simp
theorem mask8 (x : Nat) (hx : x < 16777216) : bits .and .i64 (x : Int) 255 = ((x % 256 : Nat) : Int) := by
  have h := bits_mask .i64 63 (by decide) wraps_i64 8 (by decide) x (by omega) (by omega)
  rw [show ((2 : Int) ^ 8 - 1) = 255 from rfl] at h
  rw [h]; simp
theorem mask0 (x : Nat) (hx : x < 16777216) : bits .and .i64 (x : Int) 0 = 0 := by
  have h := bits_mask .i64 63 (by decide) wraps_i64 0 (by decide) x (by omega) (by omega)
  simpa using h

set_option maxHeartbeats 400000 in
theorem dec_any (a s : ByteArray) (w : World) (hs : s.size ≤ 100000) (ha : a.size = 64) (A : M.Alph a.data.toList) :
    Calls Try.prog 21 #[.string a, .string s] w (DecPost a s w) := by
  obtain ⟨i0, hi0, hz0, hz1, hz2⟩ := info_parts infoByte
  have hA := Lib.hid ha
  have ha1 : 64 ≤ a.size := by omega
  have ha2 : a.size ≤ 64 := by omega
  have HAl := Lib.hid A
  clear ha A
  go_enter Try.func21, Try.ntmps21
  go_wp2
  go_loopw [1, 6] (fun x v wr => DecAt a s w x v wr) (fun x _ _ => match x with | .string t => t.size | _ => 0)
  case atStart => exact ⟨s, [], rfl, Nat.le_refl _, by simp, by cases M.dec a.data.toList s.data.toList <;> simp, World.ownsRow_nil _ _ _ _, Below.refl _ _⟩
  case round =>
    obtain ⟨t, out, rfl, hts, hol, hdec, hown, hbel⟩ := hrel
    have HD := Lib.hid hdec
    have HO := Lib.hid hown
    have HB := Lib.hid hbel
    have hbs := hbel.size
    clear hdec hown hbel
    by_cases h0 : 0 < t.size
    · obtain ⟨m, hm, hm0, hm4, hmn⟩ : ∃ m, m = min 4 t.size ∧ 0 < m ∧ m ≤ 4 ∧ m ≤ t.size := ⟨min 4 t.size, rfl, by omega, by omega, by omega⟩
      have hmin : min (4 : Int) (t.size : Int) = (m : Int) := by omega
      have HM := Lib.hid hm
      have hne2 : t.toList.isEmpty = false := by
        rw [ByteArray.toList_eq, List.isEmpty_eq_false_iff]; intro h; have h2 : t.data.toList.length = t.size := by simp
        rw [h, List.length_nil] at h2; omega
      clear hm
      go_wp2
      go_loop [8, 17] (fun x i => DecIn a t x i) (fun _ i => 4 - (intOf i).toNat)
      case atStart => exact ⟨0, [], by omega, rfl, by simp; rfl, rfl⟩
      case round =>
        obtain ⟨k, ks, hk, rfl, hks, rfl⟩ := hrel
        have hkl := M.idxs_length hks
        rw [List.length_take] at hkl
        have htl : t.data.toList.length = t.size := by simp
        have hkl2 : ks.length = min k t.size := by rw [hkl, htl]; omega
        obtain ⟨N, hN⟩ : ∃ N, N = M.num (M.pad ks k) := ⟨_, rfl⟩
        have hNlt : N < 16777216 := by
          rw [hN]; exact M.num_pad_lt ks k hk (by omega) (M.idxs_lt HAl.out hks)
        rw [← hN]
        have HN := Lib.hid hN
        have HK := Lib.hid hks
        have HKL := Lib.hid hkl2
        clear hN hks hkl htl hkl2
        by_cases hk4 : k < 4
        · by_cases hkm : k < m
          · obtain ⟨c, hc⟩ : ∃ c, c = t[k]'(by omega) := ⟨_, rfl⟩
            have HC := Lib.hid hc
            clear hc
            rcases HAl.out.forth c with hneg | ⟨hp0, hp1, _⟩
            · have hneg' : Lib.indexByte a.data.toList c < 0 := by omega
              go_wp2_with fail
              refine (indexByte_call a _ _).mono ?_
              rintro e w3 ⟨rfl, rfl⟩
              rw [← HC.out]
              go_wp2
              go_ret2
              refine ⟨HB.out, ?_⟩
              have hn : M.idx a.data.toList c = none := by unfold M.idx; rw [if_pos hneg']
              have hmem : c ∈ t.data.toList.take 4 := by
                have h1 : c = t.data.toList[k]'(by simp; omega) := by rw [HC.out]; rfl
                rw [h1, ← List.getElem_take (j := 4) (h := by simp; omega)]
                exact List.getElem_mem _
              have hd0 := HD.out
              rw [M.dec_none_of (by simp; omega) (M.idxs_none_of hn hmem)] at hd0
              rw [hd0]; rfl
            · obtain ⟨q, hq⟩ := Int.eq_ofNat_of_zero_le hp0
              have hq64 : q < 64 := by omega
              have hor := or6 N q hNlt hq64
              go_wp2_with fail
              refine (indexByte_call a _ _).mono ?_
              rintro e w3 ⟨rfl, rfl⟩
              rw [← HC.out, hq]
              have HQ := Lib.hid hq
              clear hq
              go_wp2
              go_round
              case rel =>
                have h1 := HKL.out
                have hks2 : min k t.size = k := by omega
                have hks3 : min (k + 1) t.size = k + 1 := by omega
                have hidx : M.idx a.data.toList c = some q := by unfold M.idx; rw [HQ.out, if_neg (by omega)]; simp
                refine ⟨k + 1, ks ++ [q], by omega, by go_num, ?_, ?_⟩
                · rw [hks3, List.take_succ_eq_append_getElem (by simp; omega)]
                  have hk' := HK.out
                  rw [hks2] at hk'
                  refine M.idxs_snoc hk' ?_
                  rw [← hidx, HC.out]; rfl
                · rw [M.pad_full ks k q (by omega), M.num_snoc, ← HN.out]; go_num
              case measure => simp [intOf]; omega
          · have hor := or6 N 0 hNlt (by omega)
            simp only [Int.natCast_zero, Nat.add_zero] at hor
            go_wp2
            go_round
            case rel =>
              have h1 := HKL.out
              have hks2 : min k t.size = t.size := by omega
              have hks3 : min (k + 1) t.size = t.size := by omega
              refine ⟨k + 1, ks, by omega, by go_num, ?_, ?_⟩
              · rw [hks3, ← hks2]; exact HK.out
              · rw [M.pad_more ks k (by omega), M.num_snoc, ← HN.out]; go_num
            case measure => simp [intOf]; omega
        · have hk5 : k = 4 := by omega
          subst hk5
          have hst := M.dec_step (a := a.data.toList) (t := t.data.toList) (ks := ks) (m := m) (by simp; omega) (by rw [HM.out]; simp) (by rw [← HK.out, HM.out])
          have hN4 : M.bits4 ks = N := by rw [HN.out, M.num_pad4 ks (by have := HKL.out; omega)]
          rw [hN4] at hst
          have HST := Lib.hid hst
          clear hst
          have hm' : m = 1 ∨ m = 2 ∨ m = 3 ∨ m = 4 := by omega
          rcases hm' with rfl | rfl | rfl | rfl
          · have hbad : M.bad 1 N = true := by simp [M.bad]
            go_wp2
            go_ret2
            refine ⟨HB.out, ?_⟩
            have hd0 := HD.out
            rw [HST.out, hbad] at hd0
            rw [hd0]; rfl
          · have hmask := mask16 N hNlt
            cases hbad : M.bad 2 N with
            | true =>
              have hb : (bits .and .i64 (N : Int) 65535 != 0) = true := by
                rw [hmask]; simp [M.bad] at hbad; simp; omega
              clear hmask
              go_wp2
              go_ret2
              refine ⟨HB.out, ?_⟩
              have hd0 := HD.out
              rw [HST.out, hbad] at hd0
              rw [hd0]; rfl
            | false =>
              have hb : (bits .and .i64 (N : Int) 65535 != 0) = false := by
                rw [hmask]; simp [M.bad] at hbad; simp; omega
              clear hmask
              have HBad := Lib.hid hbad
              clear hbad
              have c1 : ∀ j u, ([.int .u8 ((N : Int) / 65536)] : List Value)[j]? = some u → (wr.alloc (Obj.cells #[.int .u8 ((N : Int) / 65536), .int .u8 ((N : Int) / 256 % 256), .int .u8 ((N : Int) % 256)] 40)).cell? ((⟨wr.heap.size, 0, none⟩ : Addr).add j) = some u := by
                intro j u hj
                match j, hj with
                | 0, hj => simp at hj; subst hj; simp [Addr.add]
                | j + 1, hj => simp at hj
              have c2 : ∀ u ∈ ([.int .u8 ((N : Int) / 65536)] : List Value), u.oneCell' = true := by
                intro u hu; simp at hu; subst hu; rfl
              have C1 := Lib.hid c1
              have C2 := Lib.hid c2
              clear c1 c2
              go_wp2_with (at_builtin; refine wpList_append_own _ rfl (.tmp 59) (.tmp 62) 22 rfl w.heap.size 5 i0 (.int .u8 0) 1 1 Try.underlying22 hi0 hz0 hz1 hz2 rfl (by decide) _ _ _ rfl (HO.out.alloc _) ⟨wr.heap.size, 0, none⟩ 1 3 [.int .u8 ((N : Int) / 65536)] rfl rfl C1.out C2.out (by unfold maxLen; omega) (by omega) (by simp; omega) ?_)
              intro v' w2 hown' hgrow _
              have HO2 := Lib.hid hown'
              have HW2 := Lib.hid hgrow
              clear hown' hgrow
              go_wp2
              go_roundw
              case rel =>
                refine ⟨t.extract 2 t.size, out ++ (M.three N).take 1, rfl, by simp; omega, by simp [M.three]; omega, ?_, ?_, ?_⟩
                · rw [HD.out, HST.out, HBad.out, Lib.extract_data]
                  simp only [cond_false, Option.map_map, List.append_assoc]
                  have e : List.take (t.size - 2) (List.drop 2 t.data.toList) = List.drop 2 t.data.toList := by rw [List.take_of_length_le (by simp)]
                  rw [e]
                  rfl
                · have h := HO2.out
                  rw [Lib.byteCells_append]
                  have e : Lib.byteCells ((M.three N).take 1) = [.int .u8 ((N : Int) / 65536)] := by
                    simp [Lib.byteCells, M.three]; omega
                  rw [e]
                  simpa [M.three] using h
                · exact (HB.out.alloc hbs _).grown HW2.out (by simp; omega) (fun k hk => (HO.out.lt k hk).1)
              case measure => simp; omega
          · have hmask := mask8 N hNlt
            cases hbad : M.bad 3 N with
            | true =>
              have hb : (bits .and .i64 (N : Int) 255 != 0) = true := by
                rw [hmask]; simp [M.bad] at hbad; simp; omega
              clear hmask
              go_wp2
              go_ret2
              refine ⟨HB.out, ?_⟩
              have hd0 := HD.out
              rw [HST.out, hbad] at hd0
              rw [hd0]; rfl
            | false =>
              have hb : (bits .and .i64 (N : Int) 255 != 0) = false := by
                rw [hmask]; simp [M.bad] at hbad; simp; omega
              clear hmask
              have HBad := Lib.hid hbad
              clear hbad
              have c1 : ∀ j u, ([.int .u8 ((N : Int) / 65536), .int .u8 ((N : Int) / 256 % 256)] : List Value)[j]? = some u → (wr.alloc (Obj.cells #[.int .u8 ((N : Int) / 65536), .int .u8 ((N : Int) / 256 % 256), .int .u8 ((N : Int) % 256)] 40)).cell? ((⟨wr.heap.size, 0, none⟩ : Addr).add j) = some u := by
                intro j u hj
                match j, hj with
                | 0, hj => simp at hj; subst hj; simp [Addr.add]
                | 1, hj => simp at hj; subst hj; simp [Addr.add]
                | j + 2, hj => simp at hj
              have c2 : ∀ u ∈ ([.int .u8 ((N : Int) / 65536), .int .u8 ((N : Int) / 256 % 256)] : List Value), u.oneCell' = true := by
                intro u hu; simp at hu; rcases hu with rfl | rfl <;> rfl
              have C1 := Lib.hid c1
              have C2 := Lib.hid c2
              clear c1 c2
              go_wp2_with (at_builtin; refine wpList_append_own _ rfl (.tmp 59) (.tmp 62) 22 rfl w.heap.size 5 i0 (.int .u8 0) 1 1 Try.underlying22 hi0 hz0 hz1 hz2 rfl (by decide) _ _ _ rfl (HO.out.alloc _) ⟨wr.heap.size, 0, none⟩ 2 3 [.int .u8 ((N : Int) / 65536), .int .u8 ((N : Int) / 256 % 256)] rfl rfl C1.out C2.out (by unfold maxLen; omega) (by omega) (by simp; omega) ?_)
              intro v' w2 hown' hgrow _
              have HO2 := Lib.hid hown'
              have HW2 := Lib.hid hgrow
              clear hown' hgrow
              go_wp2
              go_roundw
              case rel =>
                refine ⟨t.extract 3 t.size, out ++ (M.three N).take 2, rfl, by simp; omega, by simp [M.three]; omega, ?_, ?_, ?_⟩
                · rw [HD.out, HST.out, HBad.out, Lib.extract_data]
                  simp only [cond_false, Option.map_map, List.append_assoc]
                  have e : List.take (t.size - 3) (List.drop 3 t.data.toList) = List.drop 3 t.data.toList := by rw [List.take_of_length_le (by simp)]
                  rw [e]
                  rfl
                · have h := HO2.out
                  rw [Lib.byteCells_append]
                  have e : Lib.byteCells ((M.three N).take 2) = [.int .u8 ((N : Int) / 65536), .int .u8 ((N : Int) / 256 % 256)] := by
                    simp [Lib.byteCells, M.three]; omega
                  rw [e]
                  simpa [M.three] using h
                · exact (HB.out.alloc hbs _).grown HW2.out (by simp; omega) (fun k hk => (HO.out.lt k hk).1)
              case measure => simp; omega
          · have hmask := mask0 N hNlt
            have hbad : M.bad 4 N = false := by simp [M.bad, Nat.mod_one]
            have hb : (bits .and .i64 (N : Int) 0 != 0) = false := by rw [hmask]; rfl
            clear hmask
            have HBad := Lib.hid hbad
            clear hbad
            have c1 : ∀ j u, ([.int .u8 ((N : Int) / 65536), .int .u8 ((N : Int) / 256 % 256), .int .u8 ((N : Int) % 256)] : List Value)[j]? = some u → (wr.alloc (Obj.cells #[.int .u8 ((N : Int) / 65536), .int .u8 ((N : Int) / 256 % 256), .int .u8 ((N : Int) % 256)] 40)).cell? ((⟨wr.heap.size, 0, none⟩ : Addr).add j) = some u := by
              intro j u hj
              match j, hj with
              | 0, hj => simp at hj; subst hj; simp [Addr.add]
              | 1, hj => simp at hj; subst hj; simp [Addr.add]
              | 2, hj => simp at hj; subst hj; simp [Addr.add]
              | j + 3, hj => simp at hj
            have c2 : ∀ u ∈ ([.int .u8 ((N : Int) / 65536), .int .u8 ((N : Int) / 256 % 256), .int .u8 ((N : Int) % 256)] : List Value), u.oneCell' = true := by
              intro u hu; simp at hu; rcases hu with rfl | rfl | rfl <;> rfl
            have C1 := Lib.hid c1
            have C2 := Lib.hid c2
            clear c1 c2
            go_wp2_with (at_builtin; refine wpList_append_own _ rfl (.tmp 59) (.tmp 62) 22 rfl w.heap.size 5 i0 (.int .u8 0) 1 1 Try.underlying22 hi0 hz0 hz1 hz2 rfl (by decide) _ _ _ rfl (HO.out.alloc _) ⟨wr.heap.size, 0, none⟩ 3 3 [.int .u8 ((N : Int) / 65536), .int .u8 ((N : Int) / 256 % 256), .int .u8 ((N : Int) % 256)] rfl rfl C1.out C2.out (by unfold maxLen; omega) (by omega) (by simp; omega) ?_)
            intro v' w2 hown' hgrow _
            have HO2 := Lib.hid hown'
            have HW2 := Lib.hid hgrow
            clear hown' hgrow
            go_wp2
            go_roundw
            case rel =>
              refine ⟨t.extract 4 t.size, out ++ (M.three N).take 3, rfl, by simp; omega, by simp [M.three]; omega, ?_, ?_, ?_⟩
              · rw [HD.out, HST.out, HBad.out, Lib.extract_data]
                simp only [cond_false, Option.map_map, List.append_assoc]
                have e : List.take (t.size - 4) (List.drop 4 t.data.toList) = List.drop 4 t.data.toList := by rw [List.take_of_length_le (by simp)]
                rw [e]
                rfl
              · have h := HO2.out
                rw [Lib.byteCells_append]
                have e : Lib.byteCells ((M.three N).take 3) = [.int .u8 ((N : Int) / 65536), .int .u8 ((N : Int) / 256 % 256), .int .u8 ((N : Int) % 256)] := by
                  simp [Lib.byteCells, M.three]; omega
                rw [e]
                simpa [M.three] using h
              · exact (HB.out.alloc hbs _).grown HW2.out (by simp; omega) (fun k hk => (HO.out.lt k hk).1)
            case measure => simp; omega
    · have HT : Hid (t.size = 0) := by unfold Hid; omega
      have hd : t.data.toList = [] := List.eq_nil_of_length_eq_zero (by simpa using HT.out)
      have hne2 : t.toList.isEmpty = true := by rw [ByteArray.toList_eq, hd]; rfl
      have HD2 := Lib.hid hd
      clear hd
      go_wp2
      go_ret2
      refine ⟨HB.out, ?_⟩
      have hd0 := HD.out
      rw [HD2.out] at hd0
      rw [hd0]
      exact ⟨_, rfl, by simpa using HO.out⟩
end Go.Proofs.Ytjkbiddebiioeaa
