/-
  What the exported functions of the base layer and of its reference answer.
-/
import Derived.Test.YtjkbiddebiioeaaRefDec
namespace Go.Proofs.Ytjkbiddebiioeaa
open Go.RowKit
set_option linter.unusedVariables false

def usual : List UInt8 := [65, 66, 67, 68, 69, 70, 71, 72, 73, 74, 75, 76, 77, 78, 79, 80, 81, 82, 83, 84, 85, 86, 87, 88, 89, 90, 97, 98, 99, 100, 101, 102, 103, 104, 105, 106, 107, 108, 109, 110, 111, 112, 113, 114, 115, 116, 117, 118, 119, 120, 121, 122, 48, 49, 50, 51, 52, 53, 54, 55, 56, 57, 43, 47]
def safe : List UInt8 := [65, 66, 67, 68, 69, 70, 71, 72, 73, 74, 75, 76, 77, 78, 79, 80, 81, 82, 83, 84, 85, 86, 87, 88, 89, 90, 97, 98, 99, 100, 101, 102, 103, 104, 105, 106, 107, 108, 109, 110, 111, 112, 113, 114, 115, 116, 117, 118, 119, 120, 121, 122, 48, 49, 50, 51, 52, 53, 54, 55, 56, 57, 45, 95]

theorem usual_back : ∀ k : Fin 64, Lib.indexByte usual (M.lt usual k) = (k.val : Int) := by decide +kernel
theorem usual_forth : ∀ n : Fin 256, Lib.indexByte usual (UInt8.ofNat n) = -1 ∨ (0 ≤ Lib.indexByte usual (UInt8.ofNat n) ∧ Lib.indexByte usual (UInt8.ofNat n) < 64 ∧ M.lt usual (Lib.indexByte usual (UInt8.ofNat n)).toNat = UInt8.ofNat n) := by decide +kernel
theorem usual_alph : M.Alph usual := ⟨rfl, fun k hk => usual_back ⟨k, hk⟩, fun c => by have h := usual_forth ⟨c.toNat, c.toNat_lt⟩; simpa using h⟩
theorem safe_back : ∀ k : Fin 64, Lib.indexByte safe (M.lt safe k) = (k.val : Int) := by decide +kernel
theorem safe_forth : ∀ n : Fin 256, Lib.indexByte safe (UInt8.ofNat n) = -1 ∨ (0 ≤ Lib.indexByte safe (UInt8.ofNat n) ∧ Lib.indexByte safe (UInt8.ofNat n) < 64 ∧ M.lt safe (Lib.indexByte safe (UInt8.ofNat n)).toNat = UInt8.ofNat n) := by decide +kernel
theorem safe_alph : M.Alph safe := ⟨rfl, fun k hk => safe_back ⟨k, hk⟩, fun c => by have h := safe_forth ⟨c.toNat, c.toNat_lt⟩; simpa using h⟩

theorem enc_f9 (l : List UInt8) (v : Value) (w : World) (hl : l.length ≤ 100000) (hv : Bytes w w.heap.size v l) :
    Calls Try.prog 9 #[v] w fun e w' => e = .returned (.string ⟨(M.enc usual l).toArray⟩) ∧ Below w.heap.size w w' := by
  have HV := Lib.hid hv
  clear hv
  go_enter Try.func9, Try.ntmps9
  go_wp2_with fail
  refine (enc_any l v ⟨usual.toArray⟩ w hl HV.out rfl).mono ?_
  rintro e w' ⟨rfl, hb⟩
  have HB := Lib.hid hb
  clear hb
  go_wp2
  go_ret
  exact ⟨rfl, HB.out⟩

theorem enc_f10 (l : List UInt8) (v : Value) (w : World) (hl : l.length ≤ 100000) (hv : Bytes w w.heap.size v l) :
    Calls Try.prog 10 #[v] w fun e w' => e = .returned (.string ⟨(M.enc safe l).toArray⟩) ∧ Below w.heap.size w w' := by
  have HV := Lib.hid hv
  clear hv
  go_enter Try.func10, Try.ntmps10
  go_wp2_with fail
  refine (enc_any l v ⟨safe.toArray⟩ w hl HV.out rfl).mono ?_
  rintro e w' ⟨rfl, hb⟩
  have HB := Lib.hid hb
  clear hb
  go_wp2
  go_ret
  exact ⟨rfl, HB.out⟩

theorem refEnc_f16 (l : List UInt8) (v : Value) (w : World) (B : Nat) (hl : l.length ≤ 100000) (hv : Bytes w B v l) :
    Calls Try.prog 16 #[v] w fun e w' => e = .returned (.string ⟨(M.enc usual l).toArray⟩) ∧ w = w' := by
  have HV := Lib.hid hv
  clear hv
  go_enter Try.func16, Try.ntmps16
  go_wp2_with fail
  refine (refEnc l v B ⟨usual.toArray⟩ w HV.out rfl hl).mono ?_
  rintro e w' ⟨rfl, rfl⟩
  go_wp2
  go_ret
  exact ⟨rfl, rfl⟩

theorem refEnc_f17 (l : List UInt8) (v : Value) (w : World) (B : Nat) (hl : l.length ≤ 100000) (hv : Bytes w B v l) :
    Calls Try.prog 17 #[v] w fun e w' => e = .returned (.string ⟨(M.enc safe l).toArray⟩) ∧ w = w' := by
  have HV := Lib.hid hv
  clear hv
  go_enter Try.func17, Try.ntmps17
  go_wp2_with fail
  refine (refEnc l v B ⟨safe.toArray⟩ w HV.out rfl hl).mono ?_
  rintro e w' ⟨rfl, rfl⟩
  go_wp2
  go_ret
  exact ⟨rfl, rfl⟩

/-- What a text is decoded to; and the error's number. -/
def out (L : List UInt8) (s : ByteArray) : List UInt8 := (M.dec L s.data.toList).getD []
def code (L : List UInt8) (s : ByteArray) : Int := match M.dec L s.data.toList with | none => 2 | some _ => 0

def DecR (L : List UInt8) (s : ByteArray) (w : World) (e : Ending) (w' : World) : Prop :=
  Below w.heap.size w w' ∧ ∃ v, e = .returned (.tuple #[v, .int .i64 (code L s)]) ∧ Bytes w' w'.heap.size v (out L s)

theorem bytes_nil (w : World) (B : Nat) : Bytes w B (.slice none 0 0) [] := ⟨none, 0, rfl, by simp, by omega, fun _ => rfl, fun x hx _ => by cases hx⟩

theorem decR_of (L : List UInt8) (s : ByteArray) (w : World) (e : Ending) (w' : World) (h : DecPost ⟨L.toArray⟩ s w e w') : DecR L s w e w' := by
  obtain ⟨hb, h⟩ := h
  refine ⟨hb, ?_⟩
  unfold out code
  have e1 : (⟨L.toArray⟩ : ByteArray).data.toList = L := rfl
  rw [e1] at h
  cases hd : M.dec L s.data.toList with
  | none => rw [hd] at h; exact ⟨_, h, bytes_nil _ _⟩
  | some l => rw [hd] at h; obtain ⟨v, h1, h2⟩ := h; exact ⟨v, h1, bytes_of_own h2 rfl⟩

theorem dec_f11 (s : ByteArray) (w : World) (hs : s.size ≤ 100000) : Calls Try.prog 11 #[.string s] w (DecR usual s w) := by
  go_enter Try.func11, Try.ntmps11
  go_wp2_with fail
  refine (dec_any ⟨usual.toArray⟩ s w hs rfl usual_alph).mono ?_
  intro e w' h
  obtain ⟨hb, v, rfl, hv⟩ := decR_of _ _ _ _ _ h
  have HB := Lib.hid hb
  have HV := Lib.hid hv
  clear hb hv h
  go_wp2
  go_ret2
  exact ⟨HB.out, _, rfl, HV.out⟩

theorem dec_f13 (s : ByteArray) (w : World) (hs : s.size ≤ 100000) : Calls Try.prog 13 #[.string s] w (DecR safe s w) := by
  go_enter Try.func13, Try.ntmps13
  go_wp2_with fail
  refine (dec_any ⟨safe.toArray⟩ s w hs rfl safe_alph).mono ?_
  intro e w' h
  obtain ⟨hb, v, rfl, hv⟩ := decR_of _ _ _ _ _ h
  have HB := Lib.hid hb
  have HV := Lib.hid hv
  clear hb hv h
  go_wp2
  go_ret2
  exact ⟨HB.out, _, rfl, HV.out⟩

theorem dec_f12 (s : ByteArray) (w : World) (hs : s.size ≤ 100000) : Calls Try.prog 12 #[.string s] w (DecR usual s w) := by
  go_enter Try.func12, Try.ntmps12
  go_wp2_with fail
  refine (refDec_any ⟨usual.toArray⟩ s w hs rfl usual_alph).mono ?_
  intro e w' h
  obtain ⟨hb, v, rfl, hv⟩ := decR_of _ _ _ _ _ h
  have HB := Lib.hid hb
  have HV := Lib.hid hv
  clear hb hv h
  go_wp2
  go_ret2
  exact ⟨HB.out, _, rfl, HV.out⟩

theorem dec_f14 (s : ByteArray) (w : World) (hs : s.size ≤ 100000) : Calls Try.prog 14 #[.string s] w (DecR safe s w) := by
  go_enter Try.func14, Try.ntmps14
  go_wp2_with fail
  refine (refDec_any ⟨safe.toArray⟩ s w hs rfl safe_alph).mono ?_
  intro e w' h
  obtain ⟨hb, v, rfl, hv⟩ := decR_of _ _ _ _ _ h
  have HB := Lib.hid hb
  have HV := Lib.hid hv
  clear hb hv h
  go_wp2
  go_ret2
  exact ⟨HB.out, _, rfl, HV.out⟩

def szI (n : Int) : Int := if n < 0 ∨ 1099511627776 < n then 0 else (4 * n + 2) / 3
theorem size_f18 (n : Int) (w : World) : Calls Try.prog 18 #[.int .i64 n] w fun e w' => e = .returned (.int .i64 (szI n)) ∧ w = w' := by
  by_cases h1 : n < 0
  · have hs : szI n = 0 := by unfold szI; rw [if_pos (Or.inl h1)]
    rw [hs]
    clear hs
    go_enter Try.func18, Try.ntmps18
    go_wp2
    go_ret
    exact ⟨rfl, rfl⟩
  · by_cases h2 : 1099511627776 < n
    · have hs : szI n = 0 := by unfold szI; rw [if_pos (Or.inr h2)]
      rw [hs]
      clear hs
      go_enter Try.func18, Try.ntmps18
      go_wp2
      go_ret
      exact ⟨rfl, rfl⟩
    · have hs : szI n = (n * 4 + 2) / 3 := by unfold szI; rw [if_neg (by omega)]; omega
      rw [hs]
      clear hs
      have h3 : 0 ≤ n := by omega
      have h4 : n ≤ 1099511627776 := by omega
      go_enter Try.func18, Try.ntmps18
      go_wp2
      go_ret
      exact ⟨rfl, rfl⟩
theorem size_f19 (n : Int) (w : World) : Calls Try.prog 19 #[.int .i64 n] w fun e w' => e = .returned (.int .i64 (szI n)) ∧ w = w' := by
  by_cases h1 : n < 0
  · have hs : szI n = 0 := by unfold szI; rw [if_pos (Or.inl h1)]
    rw [hs]
    clear hs
    go_enter Try.func19, Try.ntmps19
    go_wp2
    go_ret
    exact ⟨rfl, rfl⟩
  · by_cases h2 : 1099511627776 < n
    · have hs : szI n = 0 := by unfold szI; rw [if_pos (Or.inr h2)]
      rw [hs]
      clear hs
      go_enter Try.func19, Try.ntmps19
      go_wp2
      go_ret
      exact ⟨rfl, rfl⟩
    · have hs : szI n = (8 * n + 5) / 6 := by unfold szI; rw [if_neg (by omega)]; omega
      rw [hs]
      clear hs
      have h3 : 0 ≤ n := by omega
      have h4 : n ≤ 1099511627776 := by omega
      go_enter Try.func19, Try.ntmps19
      go_wp2
      go_ret
      exact ⟨rfl, rfl⟩
end Go.Proofs.Ytjkbiddebiioeaa
