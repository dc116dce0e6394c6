import Derived.Test.YtbhjigejpdbeiaaDoorZMem3
set_option linter.unusedSimpArgs false
set_option linter.unusedVariables false

section
/-
  Copy, Same, great.
-/
namespace Go.Proofs.YtbhjigejpdbeiaaDoor
open Go.RowKit
set_option linter.unusedVariables false

/-- A disk's variable may be written. -/
structure Free (w : World) (b : Nat) : Prop where
  f0 : w.frozen? ⟨b, 0, none⟩ = false
  f1 : w.frozen? ⟨b, 1, none⟩ = false
  f2 : w.frozen? ⟨b, 2, none⟩ = false
  f3 : w.frozen? ⟨b, 3, none⟩ = false
theorem Free.below {w w' : World} {B b : Nat} (h : Free w b) (hb : Below B w w') (hB : b < B) : Free w' b :=
  ⟨(hb.frozen (p := ⟨b, 0, none⟩) hB).trans h.f0, (hb.frozen (p := ⟨b, 1, none⟩) hB).trans h.f1, (hb.frozen (p := ⟨b, 2, none⟩) hB).trans h.f2, (hb.frozen (p := ⟨b, 3, none⟩) hB).trans h.f3⟩
theorem frozen_new (w : World) (C : Array Value) (t : TypeId) (j : Nat) : (w.alloc (.cells C t)).frozen? ⟨w.heap.size, j, none⟩ = false := by
  have h := heap_alloc_new w (.cells C t)
  unfold World.frozen?
  dsimp only
  rw [h]
  simp
theorem free_new (w : World) (C : Array Value) (t : TypeId) : Free (w.alloc (.cells C t)) w.heap.size := ⟨frozen_new _ _ _ _, frozen_new _ _ _ _, frozen_new _ _ _ _, frozen_new _ _ _ _⟩
theorem free_new2 (w : World) (o : Obj) (C : Array Value) (t : TypeId) : Free ((w.alloc o).alloc (.cells C t)) (w.heap.size + 1) := by
  have h := free_new (w.alloc o) C t
  rwa [size_alloc] at h
theorem Var.set {w : World} {b n c n' c' : Nat} {A A' : Option Addr} {f : Int} {dn : Bool} (h : Var w b A A' n c n' c' f dn) (B B' : Option Addr) (m e m' e' : Nat) (g : Int) (dm : Bool) :
    Var ((((w.setCell ⟨b, 0, none⟩ (.slice B m e)).setCell ⟨b, 1, none⟩ (.slice B' m' e')).setCell ⟨b, 2, none⟩ (.int .i64 g)).setCell ⟨b, 3, none⟩ (.bool dm)) b B B' m e m' e' g dm := by
  obtain ⟨h0, h1, h2, h3, h4⟩ := h
  refine ⟨by simpa using h0, ?_, ?_, ?_, ?_⟩ <;> go_simp

theorem size_set (W : World) (p : Addr) (x : Value) : (W.setCell p x).heap.size = W.heap.size := by simp [World.setCell]
theorem RowOf.keep {w w' : World} {sz n c : Nat} {A : Option Addr} {X : List Value} (h : RowOf w sz A n c X) (hs : w.heap.size ≤ w'.heap.size) (hk : ∀ x, A = some x → 0 < n → x.block < w.heap.size → w'.heap[x.block]? = w.heap[x.block]?) : RowOf w' sz A n c X := by
  obtain ⟨h1, h2, h3, h4, h5⟩ := h
  refine ⟨h1, h2, h3, h4, fun x hx hn => ?_⟩
  obtain ⟨k1, k2, k3⟩ := h5 x hx hn
  refine ⟨k1, Nat.lt_of_lt_of_le k2 hs, fun j v hv => ?_⟩
  rw [World.cell?_of_block (w := w) (a := ⟨x.block, x.off + j, none⟩) (hk x hx hn k2)]
  exact k3 j v hv
theorem RowOf.setCell {w : World} {sz n c : Nat} {A : Option Addr} {X : List Value} (h : RowOf w sz A n c X) (p : Addr) (v : Value) (hp : ∀ x, A = some x → 0 < n → x.block ≠ p.block) : RowOf (w.setCell p v) sz A n c X :=
  h.keep (by rw [size_set]; exact Nat.le_refl _) (fun x hx h0 _ => Below.heap_setCell _ _ _ _ (hp x hx h0))
theorem RowOf.alloc {w : World} {sz n c : Nat} {A : Option Addr} {X : List Value} (h : RowOf w sz A n c X) (o : Obj) : RowOf (w.alloc o) sz A n c X :=
  h.keep (by simp) (fun x hx _ hb => Below.heap_alloc _ _ _ hb)
theorem RowOf.grown {w w' : World} {sz n c : Nat} {A : Option Addr} {X : List Value} {r : Option Nat} (h : RowOf w sz A n c X) (hg : w.grownBy w' r) (hr : ∀ x, A = some x → 0 < n → some x.block ≠ r) : RowOf w' sz A n c X :=
  h.keep hg.size (fun x hx h0 hb => hg.block _ hb (hr x hx h0))

abbrev set4 (W : World) (b : Nat) (A A' : Option Addr) (n c n' c' : Nat) (f : Int) (dn : Bool) : World :=
  (((W.setCell ⟨b, 0, none⟩ (.slice A n c)).setCell ⟨b, 1, none⟩ (.slice A' n' c')).setCell ⟨b, 2, none⟩ (.int .i64 f)).setCell ⟨b, 3, none⟩ (.bool dn)
theorem below_set4 {w W : World} {b : Nat} (hb : Below w.heap.size w W) (hbb : w.heap.size ≤ b) (A A' : Option Addr) (n c n' c' : Nat) (f : Int) (dn : Bool) : Below w.heap.size w (set4 W b A A' n c n' c' f dn) :=
  (((hb.setCell (p := ⟨b, 0, none⟩) hbb _).setCell (p := ⟨b, 1, none⟩) hbb _).setCell (p := ⟨b, 2, none⟩) hbb _).setCell (p := ⟨b, 3, none⟩) hbb _
theorem RowOf.set4 {W : World} {sz n c : Nat} {A : Option Addr} {X : List Value} (h : RowOf W sz A n c X) {b : Nat} (hb : ∀ x, A = some x → 0 < n → x.block ≠ b) (B B' : Option Addr) (m e m' e' : Nat) (g : Int) (dm : Bool) : RowOf (set4 W b B B' m e m' e' g dm) sz A n c X :=
  (((h.setCell _ _ hb).setCell _ _ hb).setCell _ _ hb).setCell _ _ hb
theorem set_disk {W : World} {b n c n' c' : Nat} {A A' : Option Addr} {f : Int} {dn : Bool} {d : Dk} (hd : DiskAt W (.agg #[.slice A n c, .slice A' n' c', .int .i64 f, .bool dn]) d) (hc : Clear b (.agg #[.slice A n c, .slice A' n' c', .int .i64 f, .bool dn])) :
    DiskAt (set4 W b A A' n c n' c' f dn) (.agg #[.slice A n c, .slice A' n' c', .int .i64 f, .bool dn]) d := by
  obtain ⟨B, m, e, B', m', e', h, k1, k2, k3, k4, k5⟩ := hd
  obtain ⟨c1, c2⟩ := hc _ _ _ _ _ _ _ _ h
  exact ⟨B, m, e, B', m', e', h, k1, k2, k3.set4 c1 _ _ _ _ _ _ _ _, k4.set4 c2 _ _ _ _ _ _ _ _, k5⟩
end Go.Proofs.YtbhjigejpdbeiaaDoor
end

section
/-
  filled; Torn: sectors written byte by byte.
-/
namespace Go.Proofs.YtbhjigejpdbeiaaDoor
open Go.RowKit
set_option linter.unusedVariables false

theorem range_setCell {w : World} {b o : Nat} {cs : List Value} (h : w.rangeAt b o cs) (j : Nat) (v : Value) (hj : j < cs.length) : (w.setCell ⟨b, o + j, none⟩ v).rangeAt b o (cs.set j v) := by
  intro i u hu
  rcases Nat.eq_or_lt_of_le (Nat.le_refl i) with _ | _
  · by_cases e : i = j
    · subst e
      rw [List.getElem?_set_self hj] at hu
      injection hu with hu
      subst hu
      exact World.cell?_setCell_same w _ _ (h i _ (List.getElem?_eq_getElem hj))
    · rw [List.getElem?_set_ne (fun q => e q.symm)] at hu
      rw [World.cell?_setCell_other _ _ _ _ (by intro q; injection q with q1 q2; omega)]
      exact h i u hu
  · omega
def fill (b : UInt8) : Sec := ⟨List.replicate 128 b, by simp⟩
/-- The first k bytes are b, the others 0. -/
def part0 (b : UInt8) (k : Nat) : List Value := List.replicate k (.int .u8 b.toNat) ++ List.replicate (128 - k) (.int .u8 0)
attribute [local irreducible] part0 fill

end Go.Proofs.YtbhjigejpdbeiaaDoor
end

section
/-
  A sector of a row is written.
-/
namespace Go.Proofs.YtbhjigejpdbeiaaDoor
open Go.RowKit
set_option linter.unusedVariables false

theorem range_put_row {w : World} {b o : Nat} {l : List Sec} (h : w.rangeAt b o (secsC l)) {j : Nat} (hj : j < l.length) (ht : w.there b (o + j * 128) 128) (s : Sec) :
    (putSec w b (o + j * 128) s).rangeAt b o (secsC (l.set j s)) := by
  obtain ⟨P, Q, h1, h2, h3⟩ := flat_split (secs_len l) (j := j) (cs := secC l[j]) (by rw [List.getElem?_map, List.getElem?_eq_getElem hj]; rfl)
  have e : secsC (l.set j s) = P ++ secC s ++ Q := by rw [secsC, List.map_set]; exact h3 _
  have e0 : secsC l = P ++ secC l[j] ++ Q := h1
  rw [e]
  rw [e0] at h
  have hs := secC_length s
  have hl := secC_length l[j]
  intro i v hv
  by_cases c1 : i < P.length
  · have hv' : (P ++ secC l[j] ++ Q)[i]? = some v := by
      rw [List.append_assoc, List.getElem?_append_left c1] at hv ⊢; exact hv
    have := h i v hv'
    unfold putSec
    rw [World.cell?_setCells_out b _ _ w ⟨b, o + i, none⟩ (fun _ _ => Or.inl (by show o + i < o + j * 128; omega))]
    exact this
  · by_cases c2 : i < P.length + 128
    · have hv' : (secC s)[i - P.length]? = some v := by
        rw [List.append_assoc, List.getElem?_append_right (by omega), List.getElem?_append_left (by omega)] at hv; exact hv
      have := range_putSec ht s (i - P.length) v hv'
      rw [show o + j * 128 + (i - P.length) = o + i by omega] at this
      exact this
    · have hv' : (P ++ secC l[j] ++ Q)[i]? = some v := by
        rw [List.getElem?_append_right (by rw [List.length_append]; omega), List.length_append] at hv ⊢
        rw [hl]; rw [hs] at hv; exact hv
      have := h i v hv'
      unfold putSec
      rw [World.cell?_setCells_out b _ _ w ⟨b, o + i, none⟩ (fun _ _ => Or.inr (by show o + j * 128 + (secC s).length ≤ o + i; omega))]
      exact this
theorem disk_rows {w : World} {A A' : Option Addr} {n c n' c' : Nat} {f : Int} {dn : Bool} {d : Dk} (h : DiskAt w (.agg #[.slice A n c, .slice A' n' c', .int .i64 f, .bool dn]) d) :
    n = d.secs.length ∧ n' = d.loose.length ∧ RowOf w 128 A n c (secsC d.secs) ∧ RowOf w 129 A' n' c' (wrsC d.loose) ∧ f = d.fuse ∧ dn = d.down := by
  obtain ⟨_, _, _, _, _, _, q, k1, k2, r1, r2, _⟩ := h
  injection q with q
  injection q with q
  injection q with q1 q
  injection q with q2 q
  injection q with q3 q
  injection q with q4 q
  injection q1 with q11 q12 q13
  injection q2 with q21 q22 q23
  injection q3 with _ q3
  injection q4 with q4
  subst q11; subst q12; subst q13; subst q21; subst q22; subst q23
  exact ⟨k1, k2, r1, r2, q3, q4⟩
theorem there_row {w : World} {b o n : Nat} (h : w.there b o (n * 128)) {j : Nat} (hj : j < n) : w.there b (o + j * 128) 128 := by
  intro i hi
  have hle : j * 128 + 128 ≤ n * 128 := by omega
  have := h (j * 128 + i) (by omega)
  rwa [← Nat.add_assoc] at this
end Go.Proofs.YtbhjigejpdbeiaaDoor
end

section
/-
  kept; Torn; filled.
-/
namespace Go.Proofs.YtbhjigejpdbeiaaDoor
open Go.RowKit
set_option linter.unusedVariables false

theorem kept_f (w : World) (k c : UInt8) : Calls Tryd.prog 50 #[.agg #[.int .u8 k.toNat, .int .u8 c.toNat]] w fun e w' => e = .returned (.int .i64 (Dk.kept (k, c))) ∧ Below w.heap.size w w' := by
  have hk := k.toNat_lt
  have hc := c.toNat_lt
  have HK := Lib.hid (show Dk.kept (k, c) = if k.toNat % 3 = 1 then 128 else if k.toNat % 3 = 2 then c.toNat % 128 else 0 from rfl)
  generalize k.toNat = x at *
  generalize c.toNat = y at *
  have hx : (x : Int) % 3 = ((x % 3 : Nat) : Int) := by omega
  have hy : (y : Int) % 128 = ((y % 128 : Nat) : Int) := by omega
  have HX := Lib.hid hx
  have HY := Lib.hid hy
  clear hx hy
  have hx0 : (0 : Int) ≤ x := by omega
  go_enter Tryd.func50, Tryd.ntmps50
  by_cases q1 : x % 3 = 1
  · have Q1 := Lib.hid q1
    have q : ((x : Int) % 3 == 1) = true := by simp; omega
    clear q1
    go_wp2
    go_ret
    exact ⟨by rw [HK.out, if_pos Q1.out]; rfl, (Below.refl _ _).alloc (Nat.le_refl _) _⟩
  by_cases q2 : x % 3 = 2
  · have Q1 := Lib.hid q1
    have Q2 := Lib.hid q2
    have q : ((x : Int) % 3 == 1) = false := by simp; omega
    have q' : ((x : Int) % 3 == 2) = true := by simp; omega
    clear q1 q2
    go_wp2
    go_ret
    exact ⟨by rw [HK.out, if_neg Q1.out, if_pos Q2.out, ← HY.out]; rfl, (Below.refl _ _).alloc (Nat.le_refl _) _⟩
  · have Q1 := Lib.hid q1
    have Q2 := Lib.hid q2
    have q : ((x : Int) % 3 == 1) = false := by simp; omega
    have q' : ((x : Int) % 3 == 2) = false := by simp; omega
    clear q1 q2
    go_wp2
    go_ret
    exact ⟨by rw [HK.out, if_neg Q1.out, if_neg Q2.out]; rfl, (Below.refl _ _).alloc (Nat.le_refl _) _⟩
end Go.Proofs.YtbhjigejpdbeiaaDoor
end

section
/-
  Torn.
-/
namespace Go.Proofs.YtbhjigejpdbeiaaDoor
open Go.RowKit
set_option linter.unusedVariables false

/-- The first k cells of a, the others of b. -/
def mix (a b : Sec) (k : Nat) : List Value := (secC a).take k ++ (secC b).drop k
theorem mix_zero (a b : Sec) : mix a b 0 = secC b := by simp [mix]
theorem mix_length (a b : Sec) (k : Nat) (hk : k ≤ 128) : (mix a b k).length = 128 := by
  simp [mix, secC_length]; omega
theorem mix_torn (a b : Sec) (k : Nat) : mix a b k = secC (Dk.torn a b k) := by
  simp [mix, secC, Dk.torn, Lib.byteCells]
theorem mix_set (a b : Sec) (k : Nat) (hk : k < 128) (u : Value) (hu : (secC a)[k]? = some u) : (mix a b k).set k u = mix a b (k + 1) := by
  unfold mix
  have hl := secC_length b
  have ha := secC_length a
  rw [List.set_append_right _ _ (by simp [ha]; omega), List.length_take, ha, Nat.min_eq_left (Nat.le_of_lt hk), Nat.sub_self, List.take_add_one, hu, List.append_assoc]
  congr 1
  have h : List.drop k (secC b) = (secC b)[k]'(by omega) :: List.drop (k + 1) (secC b) := List.drop_eq_getElem_cons (by omega)
  rw [h]
  rfl

set_option maxRecDepth 4000 in
theorem torn_f (w : World) (a b : Sec) (n : Nat) (hn : n ≤ 128) : Calls Tryd.prog 46 #[secV a, secV b, .int .i64 n] w fun e w' => SecOut (Dk.torn a b n) w e w' := by
  obtain ⟨w1, hw1⟩ : ∃ w1, w1 = ((w.alloc (secO a)).alloc (secO b)).alloc (secO zeroSec) := ⟨_, rfl⟩
  have ha1 : Below (w.alloc (secO a)).heap.size (w.alloc (secO a)) w1 := by rw [hw1]; exact below_two _ _ _
  have ha2 : Below ((w.alloc (secO a)).alloc (secO b)).heap.size ((w.alloc (secO a)).alloc (secO b)) w1 := by rw [hw1]; exact (Below.refl _ _).alloc (Nat.le_refl _) _
  have HRA := Lib.hid (show w1.rangeAt w.heap.size 0 (secC a) from range_below (range_new w (secC a) 81) ha1 (by simp))
  have HRB := Lib.hid (show w1.rangeAt (w.heap.size + 1) 0 (mix a b 0) from by
    rw [mix_zero]
    refine range_below (show ((w.alloc (secO a)).alloc (secO b)).rangeAt (w.heap.size + 1) 0 (secC b) by have := range_new (w.alloc (secO a)) (secC b) 81; rwa [size_alloc] at this) ha2 (by simp))
  have HTB := Lib.hid (show w1.there (w.heap.size + 1) 0 128 from by
    refine there_below (show ((w.alloc (secO a)).alloc (secO b)).there (w.heap.size + 1) 0 128 by have := there_new (w.alloc (secO a)) (secC b) 81; rwa [size_alloc, secC_length] at this) ha2 (by simp))
  have HTC := Lib.hid (show w1.there (w.heap.size + 2) 0 128 from by
    rw [hw1]; have := there_new ((w.alloc (secO a)).alloc (secO b)) (secC zeroSec) 81; rwa [size_alloc, size_alloc, secC_length] at this)
  have HB := Lib.hid (show Below w.heap.size w w1 from ((Below.refl w.heap.size w).alloc (Nat.le_refl _) _).trans (ha1.mono (by simp)))
  have HS := Lib.hid (show w1.heap.size = w.heap.size + 3 by rw [hw1]; simp)
  have HW := Lib.hid hw1
  clear hw1 ha1 ha2
  go_enter Tryd.func46, Tryd.ntmps46
  go_wp2
  rw [← HW.out]
  go_loopw [7] (fun i wr => ∃ k : Nat, k ≤ n ∧ i = .int .i64 k ∧ Below (w.heap.size + 1) w1 wr ∧ wr.rangeAt (w.heap.size + 1) 0 (mix a b k) ∧ wr.there (w.heap.size + 1) 0 128 ∧ wr.there (w.heap.size + 2) 0 128 ∧ w.heap.size + 3 ≤ wr.heap.size) (fun i _ => n - (intOf i).toNat)
  case atStart => exact ⟨0, by omega, rfl, Below.refl _ _, HRB.out, HTB.out, HTC.out, by rw [HS.out]; omega⟩
  case round =>
    obtain ⟨k, hk, rfl, hbel, hr, ht, ht2, hsz⟩ := hrel
    rename World => wr
    have HB1 := Lib.hid hbel
    have HR := Lib.hid hr
    have HT := Lib.hid ht
    have HT2 := Lib.hid ht2
    clear hbel hr ht ht2
    by_cases hkn : k < n
    · have hk128 : k < 128 := by omega
      obtain ⟨c1, c2⟩ := HT.out k hk128
      obtain ⟨v0, c3⟩ := Option.isSome_iff_exists.1 c1
      rw [Nat.zero_add] at c2 c3
      obtain ⟨u, hu⟩ : ∃ u, a.1[k]? = some u := ⟨_, List.getElem?_eq_getElem (by rw [a.2]; exact hk128)⟩
      have HU := Lib.hid (show (secC a)[k]? = some (.int .u8 u.toNat) by simp [secC, Lib.byteCells, hu])
      have c4 : wr.cell? ⟨w.heap.size, k, none⟩ = some (.int .u8 u.toNat) := by
        have h := range_below HRA.out HB1.out (by omega) k _ HU.out
        rwa [Nat.zero_add] at h
      clear c1 hu
      have c5 : (0 : Int) ≤ k := by omega
      have c6 : (k : Int) < 128 := by omega
      go_wp2
      go_roundw
      case rel =>
        refine ⟨k + 1, by omega, by go_num, HB1.out.setCell (p := ⟨w.heap.size + 1, k, none⟩) (Nat.le_refl _) _, ?_, there_setCell HT.out _ _, there_setCell HT2.out _ _, by rw [size_set]; exact hsz⟩
        have h := range_setCell HR.out k (.int .u8 u.toNat) (by rw [mix_length a b k (by omega)]; exact hk128)
        rw [mix_set a b k hk128 _ HU.out, Nat.zero_add] at h
        exact h
      case measure => simp [intOf]; omega
    · have hkk : k = n := by omega
      have HRF := Lib.hid (show wr.rangeAt (w.heap.size + 1) 0 (secC (Dk.torn a b n)) by
        have h := HR.out
        rw [hkk, mix_torn] at h
        exact h)
      have HK := Lib.hid hkk
      clear hkk
      have hld := load_secVar HRF.out
      have hst := store_sec HT2.out
      have HL := Lib.hid (load_put HT2.out)
      go_wp2
      refine bodyPost_ret (ret_cell rfl rfl (secVar_run (HL.out (Dk.torn a b n)))) rfl ?_
      exact ⟨rfl, below_putSec (HB.out.trans (HB1.out.mono (by omega))) (by omega) _ _⟩
end Go.Proofs.YtbhjigejpdbeiaaDoor
end
