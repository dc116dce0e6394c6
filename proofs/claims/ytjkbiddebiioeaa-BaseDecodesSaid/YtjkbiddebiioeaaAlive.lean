/-
  The fixed fact holds; equal bytes are told to be so; a copy reads as what was copied.
-/
import Derived.Test.YtjkbiddebiioeaaTops
import Derived.Laws.IdiomStrings
import Derived.Lib.BufferRead
namespace Go.Proofs.Ytjkbiddebiioeaa
open Go.RowKit
set_option linter.unusedVariables false

theorem same_some (n : Nat) (x : Nat → Int) (ba oa ca bb ob cb : Nat) (w : World) (hn : n ≤ 1000000)
   (ha : ∀ j, j < n → w.cell? ⟨ba, oa + j, none⟩ = some (.int .u8 (x j)))
   (hb : ∀ j, j < n → w.cell? ⟨bb, ob + j, none⟩ = some (.int .u8 (x j))) :
    Calls Try.prog 15 #[.slice (some ⟨ba, oa, none⟩) n ca, .slice (some ⟨bb, ob, none⟩) n cb] w fun e w' => e = .returned (.bool true) ∧ ∃ n, w' = w.drewN n := by
  have HA := Lib.hid ha
  have HB := Lib.hid hb
  clear ha hb
  have hz : ((n : Int) != (n : Int)) = false := by simp
  go_enter Try.func15, Try.ntmps15
  go_wp2
  clear hz
  go_loopw [5] (fun i wr => ∃ k m : Nat, k ≤ n ∧ i = .int .i64 k ∧ Hid (wr = w.drewN m)) (fun i _ => n - (intOf i).toNat)
  case atStart => exact ⟨0, 0, Nat.zero_le _, rfl, rfl⟩
  case round =>
    obtain ⟨k, m, hk, rfl, hw⟩ := hrel
    obtain rfl := hw.out
    clear hw
    by_cases hlt : k < n
    · have hcA : w.cell? ⟨ba, oa + k, none⟩ = some (.int .u8 (x k)) := HA.out k hlt
      have hcB : w.cell? ⟨bb, ob + k, none⟩ = some (.int .u8 (x k)) := HB.out k hlt
      have ht : (x k != x k) = false := by simp
      go_wp2_with (fail)
      go_quiet (fail)
      go_wp2
      go_roundw
      case rel => exact ⟨k + 1, _, by omega, by go_num, rfl⟩
      case measure => simp [intOf]; omega
    · have hge : n ≤ k := by omega
      go_wp2
      go_ret
      exact ⟨rfl, _, rfl⟩

theorem same_none (A B : Option Addr) (ca cb : Nat) (w : World) :
    Calls Try.prog 15 #[.slice A 0 ca, .slice B 0 cb] w fun e w' => e = .returned (.bool true) ∧ ∃ n, w' = w.drewN n := by
  go_enter Try.func15, Try.ntmps15
  go_wp2
  go_loop [5] (fun i => i = .int .i64 0) (fun _ => 0)
  case atStart => rfl
  case round =>
    obtain rfl := hrel
    go_wp2
    go_ret
    exact ⟨rfl, 0, rfl⟩

theorem same_true (l : List UInt8) (v u : Value) (B C : Nat) (w : World) (hl : l.length ≤ 1000000) (hv : Bytes w B v l) (hu : Bytes w C u l) :
    Calls Try.prog 15 #[v, u] w fun e w' => e = .returned (.bool true) ∧ ∃ n, w' = w.drewN n := by
  obtain ⟨A, c, rfl, h1, h2, h3, h4⟩ := hv
  obtain ⟨A', c', rfl, k1, k2, k3, k4⟩ := hu
  by_cases h0 : l.length = 0
  · rw [h0]; exact same_none A A' c c' w
  · cases A with
    | none => exact absurd (h3 rfl) (by omega)
    | some x =>
      cases A' with
      | none => exact absurd (k3 rfl) (by omega)
      | some y =>
        obtain ⟨hs, _, hc⟩ := h4 x rfl (by omega)
        obtain ⟨ks, _, kc⟩ := k4 y rfl (by omega)
        obtain ⟨b, o, sp⟩ := x
        obtain ⟨b', o', sp'⟩ := y
        obtain rfl : sp = none := hs
        obtain rfl : sp' = none := ks
        refine same_some l.length (fun j => (l.getD j 0).toNat) b o c b' o' c' w hl ?_ ?_
        · intro j hj; rw [hc j (l.getD j 0) (by simp [hj])]
        · intro j hj; rw [kc j (l.getD j 0) (by simp [hj])]

theorem run_string_of (w : World) (B : Nat) (v : Value) (l : List UInt8) (h : Bytes w B v l) : (convert 22 9 v).run Try.prog w = .ok (.string ⟨l.toArray⟩) w := by
  obtain ⟨A, c, rfl, h1, h2, h3, h4⟩ := h
  cases A with
  | none =>
    have : l = [] := List.eq_nil_of_length_eq_zero (by have := h3 rfl; omega)
    subst this
    exact Lib.run_convert_nil_bytes w 22 9 5 c Try.underlying22 Try.underlying5 Try.underlying9
  | some x =>
    refine run_convert_bytes_back w 22 9 5 x c l Try.underlying22 Try.underlying5 Try.underlying9 ?_
    intro j hj
    obtain ⟨hs, hb, hc⟩ := h4 x rfl (by omega)
    obtain ⟨b, o, sp⟩ := x
    obtain rfl : sp = none := hs
    have e : (⟨b, o, none⟩ : Addr).add j = ⟨b, o + j, none⟩ := by unfold Addr.add; split <;> simp_all
    rw [e]
    exact hc j _ (List.getElem?_eq_getElem hj)

theorem bytes_255 (w : World) : Bytes (w.alloc (Obj.cells #[Value.int IntKind.u8 255] 5)) (w.alloc (Obj.cells #[Value.int IntKind.u8 255] 5)).heap.size (.slice (some ⟨w.heap.size, 0, none⟩) 1 1) [255] := by
  refine ⟨_, 1, rfl, by simp, by omega, (fun h => by cases h), fun x hx _ => ?_⟩
  injection hx with hx; subst hx
  refine ⟨rfl, by simp, fun j u hu => ?_⟩
  match j, hu with
  | 0, hu => simp at hu; subst hu; simp
  | j + 1, hu => simp at hu

theorem alive_any (w : World) : Calls Try.prog 7 #[] w fun e w' => e = .returned (.bool true) ∧ Below w.heap.size w w' := by
  go_enter Try.func7, Try.ntmps7
  go_wp2_with fail
  refine (dec_f11 _ w (by decide)).mono ?_
  rintro e w1 ⟨hb1, v1, rfl, hv1⟩
  have HB1 := Lib.hid hb1
  have HV1 := Lib.hid hv1
  have c1 : code usual ⟨#[90, 109, 57, 118, 89, 103]⟩ = 0 := by decide +kernel
  have o1 : out usual ⟨#[90, 109, 57, 118, 89, 103]⟩ = [102, 111, 111, 98] := by decide +kernel
  rw [c1]
  rw [o1] at HV1
  clear hb1 hv1 c1 o1
  go_wp2_with fail
  refine (dec_f11 _ w1 (by decide)).mono ?_
  rintro e w2 ⟨hb2, v2, rfl, hv2⟩
  have HB2 := Lib.hid hb2
  have c2 : code usual ⟨#[90, 109, 57, 118, 89, 104]⟩ = 2 := by decide +kernel
  rw [c2]
  clear hb2 hv2 c2
  go_wp2_with fail
  refine (enc_f9 [255] _ _ (by decide) (bytes_255 w2)).mono ?_
  rintro e w3 ⟨rfl, hb3⟩
  have HB3 := Lib.hid hb3
  have c3 : M.enc usual [255] = [47, 119] := by decide +kernel
  rw [c3]
  clear hb3 c3
  go_wp2_with fail
  refine (enc_f10 [255] _ _ (by decide) (bytes_255 w3)).mono ?_
  rintro e w4 ⟨rfl, hb4⟩
  have HB4 := Lib.hid hb4
  have c4 : M.enc safe [255] = [95, 119] := by decide +kernel
  rw [c4]
  clear hb4 c4
  have hall : Below w1.heap.size w1 w4 := by
    have h2 := HB2.out
    have h3 := ((Below.refl w2.heap.size w2).alloc (Nat.le_refl _) (Obj.cells #[Value.int IntKind.u8 255] 5)).trans (HB3.out.mono (by simp))
    have h4 := ((Below.refl w3.heap.size w3).alloc (Nat.le_refl _) (Obj.cells #[Value.int IntKind.u8 255] 5)).trans (HB4.out.mono (by simp))
    exact (h2.trans (h3.mono h2.size)).trans (h4.mono (Nat.le_trans h2.size h3.size))
  have hstr := run_string_of w4 _ v1 _ (HV1.out.below hall)
  have HALL := Lib.hid hall
  clear hall
  go_wp2
  go_ret
  exact ⟨rfl, HB1.out.trans (HALL.out.mono HB1.out.size)⟩
end Go.Proofs.Ytjkbiddebiioeaa
