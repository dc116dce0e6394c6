/-
  (rounds).all: blocks of 64 bytes, one by one, and the sum's bytes.
-/
import Derived.Test.YtbhjigejpdbeiaaDoorZCk
import Derived.Test.YtbhjigejpdbeiaaDoorZTa
import Derived.Test.YtbhjigejpdbeiaaDoorZRd
import Derived.Test.YtbhjigejpdbeiaaDoorZPd
import Derived.Test.YtbhjigejpdbeiaaDoorZFn
import Derived.BigRegionIn
set_option linter.unusedSimpArgs false
set_option linter.unusedVariables false
namespace Go.Proofs.YtbhjigejpdbeiaaDoor
open Go.RowKit Go.Shelf
set_option linter.unusedVariables false
set_option maxRecDepth 8000
attribute [local go_sem] Oper.semAt_some

@[irreducible] def a16Var (a : Addr) : Sem Value := loadVar 163 a
@[irreducible] def a8Var (a : Addr) : Sem Value := loadVar 150 a
@[go_sem ↓] theorem a16Var_def (a : Addr) : loadVar 163 a = a16Var a := by unfold a16Var; rfl
@[go_sem ↓] theorem a8Var_def (a : Addr) : loadVar 150 a = a8Var a := by unfold a8Var; rfl
theorem sizeA16 : (Tryd.prog.info? 163).map (·.size) = some 16 := by kernel_rfl
theorem sizeA8 : (Tryd.prog.info? 150).map (·.size) = some 8 := by kernel_rfl
theorem load_a16 {w : World} {b o : Nat} {l : List W32} (hl : l.length = 16) (h : w.rangeAt b o (wC l)) : (a16Var ⟨b, o, none⟩).run Tryd.prog w = .ok (.agg (wC l).toArray) w := by
  unfold a16Var; exact run_loadVar_mid w b o 163 (wC l) _ h Tryd.underlying163 rfl (by rw [sizeA16, wC_length, hl])
theorem load_a8 {w : World} {b o : Nat} {l : List W32} (hl : l.length = 8) (h : w.rangeAt b o (wC l)) : (a8Var ⟨b, o, none⟩).run Tryd.prog w = .ok (.agg (wC l).toArray) w := by
  unfold a8Var; exact run_loadVar_mid w b o 150 (wC l) _ h Tryd.underlying150 rfl (by rw [sizeA8, wC_length, hl])

theorem own_nil (w : World) (base : Nat) (E : TypeId) (sz : Nat) : w.ownsRow base E sz (.slice none 0 0) 0 [] := ⟨by simp, .inl ⟨rfl, rfl⟩⟩
theorem rC_words {w : World} {b : Nat} {S : Sha.St} (h : w.rangeAt b 0 (rC S)) : w.rangeAt b 0 (wC S.list) := fun j v hv => h j v (by
  rw [rC, List.getElem?_append_left (List.getElem?_eq_some_iff.1 hv).1]; exact hv)
/-- The bytes that are out: of k words, and t of the next. -/
def outB (S : Sha.St) (k t : Nat) : List UInt8 := ((S.list.take k).map Sha.bytesOf).flatten ++ (Sha.bytesOf (S.list.getD k 0)).take t
theorem bytes_app (a b : List UInt8) : Lib.byteCells (a ++ b) = Lib.byteCells a ++ Lib.byteCells b := by simp [Lib.byteCells]
def byteAt (x : W32) (t : Nat) : UInt8 := (Sha.bytesOf x).getD t 0
theorem outB_succ (S : Sha.St) (k t : Nat) (ht : t < 4) : outB S k (t + 1) = outB S k t ++ [byteAt (S.list.getD k 0) t] := by
  rw [outB, outB, List.append_assoc]
  congr 1
  generalize S.list.getD k 0 = x
  rcases (show t = 0 ∨ t = 1 ∨ t = 2 ∨ t = 3 by omega) with rfl | rfl | rfl | rfl <;> rfl
theorem outB_next (S : Sha.St) (k : Nat) (hk : k < 8) : outB S k 4 = outB S (k + 1) 0 := by
  rw [outB, outB, List.take_succ_eq_append_getElem (show k < S.list.length from hk), List.map_append, List.flatten_append, List.take_zero, List.append_nil]
  congr 1
  rw [List.getD_eq_getElem?_getD, List.getElem?_eq_getElem (show k < S.list.length from hk)]
  simp [Sha.bytesOf]
theorem outB_all (S : Sha.St) : outB S 8 0 = Sha.out S := by
  rw [outB, Sha.out, List.take_zero, List.append_nil]; rfl
theorem byteAt_val (x : W32) (t : Nat) (ht : t < 4) : (wi x / 2 ^ (8 * (3 - t))) % 256 = ((byteAt x t).toNat : Int) := by
  rw [wi_def]
  rcases (show t = 0 ∨ t = 1 ∨ t = 2 ∨ t = 3 by omega) with rfl | rfl | rfl | rfl <;> simp [byteAt, Sha.bytesOf]
theorem row_u8 (w : World) (n : Int) : RowOf (w.alloc (.cells #[.int .u8 n] 5)) 1 (some ⟨w.heap.size, 0, none⟩) 1 1 [.int .u8 n] :=
  ⟨rfl, Nat.le_refl _, by omega, (fun h => by cases h), fun y hy _ => by injection hy with hy; subst hy; exact ⟨rfl, by simp, range_new w [.int .u8 n] 5⟩⟩
/-- The state when the chunks have come. -/
def shaSt (P : List UInt8) (h : Sha.St) (pre : List (Fin 3)) : Sha.St := pre.foldl (fun s x => Sha.block s ((P.drop (x.1 * 64)).take 64)) h
theorem shaSt_snoc (P : List UInt8) (h : Sha.St) (pre : List (Fin 3)) (x : Fin 3) : shaSt P h (pre ++ [x]) = Sha.take (shaSt P h pre) (Sha.words ((P.drop (x.1 * 64)).take 64) 64) := by
  simp [shaSt, Sha.block]
theorem grown_via {W0 W wq w3 : World} {b : Nat} (h1 : W0.grownBy W (some b)) (h2 : Below W.heap.size W wq) (h3 : wq.grownBy w3 (some b)) : W0.grownBy w3 (some b) :=
  ⟨h3.os.trans (h2.os.trans h1.os), h3.tape.trans (h2.tape.trans h1.tape), h3.output.trans (h2.output.trans h1.output), Nat.le_trans h1.size (Nat.le_trans h2.size h3.size),
    fun k hk hkb => (h3.block k (Nat.lt_of_lt_of_le hk (Nat.le_trans h1.size h2.size)) hkb).trans ((h2.block k (Nat.lt_of_lt_of_le hk h1.size)).trans (h1.block k hk hkb))⟩
/-- What a call of all leaves. -/
def AllPost (b : Nat) (S : Sha.St) (w : World) (e : Ending) (w' : World) : Prop := (∃ v, e = .returned v ∧ w'.ownsRow w.heap.size 5 1 v 32 (Lib.byteCells (Sha.out S))) ∧ w.grownBy w' (some b)
theorem own_mono {w : World} {b b' sz n : Nat} {E : TypeId} {v : Value} {X : List Value} (h : w.ownsRow b E sz v n X) (hb : b' ≤ b) : w.ownsRow b' E sz v n X :=
  ⟨h.1, h.2.imp id fun ⟨g, cap, cur, h1, h2, h3, h4⟩ => ⟨g, cap, cur, h1, Nat.le_trans hb h2, h3, h4⟩⟩
theorem own_putObj {w : World} {b sz n D : Nat} {E : TypeId} {v : Value} {X : List Value} {ds : Option (List Deferred)} {o : Obj} (h : w.ownsRow b E sz v n X) (hD : w.heap[D]? = some (.deferred ds)) : (w.putObj D o).ownsRow b E sz v n X := by
  refine ⟨h.1, h.2.imp id fun ⟨g, cap, cur, h1, h2, h3, h4⟩ => ⟨g, cap, cur, h1, h2, ?_, h4⟩⟩
  refine (World.putObj_heap_other fun e => ?_).trans h3
  subst e
  rw [h3] at hD
  cases hD
theorem grown_end {w W0 W wr : World} {b D : Nat} {o : Obj} (h1 : Below w.heap.size w W0) (h2 : W0.grownBy W (some b)) (h3 : Below W.heap.size W wr) (hD : w.heap.size ≤ D) : w.grownBy (wr.putObj D o) (some b) := by
  have hs := h1.size
  have hs2 := h2.size
  have hs3 := h3.size
  exact ⟨h3.os.trans (h2.os.trans h1.os), h3.tape.trans (h2.tape.trans h1.tape), h3.output.trans (h2.output.trans h1.output), by simp; omega,
    fun k hk hkb => (World.putObj_heap_other (by omega)).trans ((h3.block k (by omega)).trans ((h2.block k (by omega) hkb).trans (h1.block k hk)))⟩
/-- Between two rounds. -/
def AlI (P : List UInt8) (h : Sha.St) (b : Nat) (W0 : World) (pre : List (Fin 3)) (W : World) : Prop := RoundsAt W b (shaSt P h pre) ∧ W0.grownBy W (some b)
theorem alI_own (P : List UInt8) (h : Sha.St) (b : Nat) (W0 : World) (hb : b < W0.heap.size) : OwnFrom W0.heap.size (AlI P h b W0) :=
  fun s A B row hs hg hr => by
    obtain ⟨⟨h1, h2, h3⟩, h4⟩ := hs
    have hne : some b ≠ row := fun e => by have := (hr b e.symm).1; omega
    have hbk := hg.block b h1 hne
    refine ⟨⟨Nat.lt_of_lt_of_le h1 hg.size, range_keepb h2 hbk, there_keepb h3 hbk⟩, ⟨hg.os.trans h4.os, hg.tape.trans h4.tape, hg.output.trans h4.output, Nat.le_trans h4.size hg.size, fun k hk hkb => ?_⟩⟩
    refine (hg.block k (Nat.lt_of_lt_of_le hk h4.size) (fun e => ?_)).trans (h4.block k hk hkb)
    have := (hr k e.symm).1
    omega

theorem Laid.keepb {w w' : World} (h : Laid w) (hs : 4 < w'.heap.size) (hk : ∀ k, k ≤ 4 → w'.heap[k]? = w.heap[k]?) : Laid w' :=
  ⟨range_keepb h.roots (hk _ (by decide)), range_keepb h.begins (hk _ (by decide)), hs⟩
theorem wC_set (l : List W32) (j : Nat) (x : W32) : wC (l.set j x) = (wC l).set j (.int .u32 (wi x)) := by simp [wC, List.map_set]

set_option maxHeartbeats 2000000 in
theorem all_in (w : World) (b g : Nat) (h4 : 4 < b) (h : Sha.St) (P : List UInt8) (hP : P.length = 192) (hR : RoundsAt w b h) (hL : Laid w) (hg : g < w.heap.size) (hr : w.rangeAt g 0 (Lib.byteCells P)) (hbg : b ≠ g) :
    CallsIn Fence.wide 4 Tryd.prog 91 #[.pointer (some ⟨b, 0, none⟩), .slice (some ⟨g, 0, none⟩) 192 192, .int .i64 4] w fun e w' => AllPost b (shaSt P h (chunks 3 3)) w e w' := by
  obtain ⟨w1, hw1⟩ : ∃ w1, w1 = (w.alloc (Obj.cells #[.pointer (some ⟨b, 0, none⟩)] 143)).alloc (Obj.cells #[.int .i64 4] 3) := ⟨_, rfl⟩
  have HW := Lib.hid hw1
  clear hw1
  have hc1 : w1.cell? ⟨w.heap.size + 1, 0, none⟩ = some (.int .i64 4) := by
    rw [HW.out]
    have := cell_of_new (w.alloc (Obj.cells #[.pointer (some ⟨b, 0, none⟩)] 143)) #[.int .i64 4] 3 0
    rw [size_alloc] at this
    exact this
  refine callsIn_of_wp_marks Tryd.func91 rfl trivial ?_ rfl
  simp only [Tryd.ntmps91, List.size_toArray, List.length_cons, List.length_nil, Nat.reduceAdd, Nat.reduceSub, Array.replicate_succ, Array.replicate_zero, List.push_toArray, List.append_toArray, List.nil_append, List.cons_append]
  gi_wp2_with fail
  rw [← HW.out]
  refine ⟨trivial, (chunk_in 3 (some ⟨g, 0, none⟩) 192 192 64 (by decide) w1).mono ?_⟩
  rintro e W0 ⟨rfl, hW0⟩
  have HL := Lib.hid hL
  have HR := Lib.hid hR
  have HRP := Lib.hid hr
  have HB0 := Lib.hid (show Below w.heap.size w W0 by rw [hW0, HW.out]; exact ((below_two _ _ _).alloc (by simp; omega) _).alloc (by simp; omega) _)
  have HS0 := Lib.hid (show W0.heap.size = w.heap.size + 4 ∧ w1.heap.size = w.heap.size + 2 by rw [hW0, HW.out]; simp)
  have HC0 := Lib.hid (show W0.cell? ⟨w.heap.size, 0, none⟩ = some (.pointer (some ⟨b, 0, none⟩)) ∧ W0.cell? ⟨w.heap.size + 1, 0, none⟩ = some (.int .i64 4) ∧ W0.cell? ⟨w1.heap.size, 0, none⟩ = some (.slice (some ⟨g, 0, none⟩) 192 192) ∧ W0.cell? ⟨w1.heap.size + 1, 0, none⟩ = some (.int .i64 64) by
    have k1 := cell_of_new w1 #[.slice (some ⟨g, 0, none⟩) 192 192] 28 0
    have k2 := cell_of_new (w1.alloc (.cells #[.slice (some ⟨g, 0, none⟩) 192 192] 28)) #[.int .i64 64] 3 0
    rw [size_alloc] at k2
    have hz : w1.heap.size = w.heap.size + 2 := by rw [HW.out]; simp
    have hb1 : Below w1.heap.size w1 W0 := by rw [hW0]; exact below_two _ _ _
    have hb2 : Below (w1.heap.size + 1) (w1.alloc (.cells #[.slice (some ⟨g, 0, none⟩) 192 192] 28)) W0 := by
      rw [hW0]; exact (Below.refl _ _).alloc (by simp) _
    have k0 := cell_of_new w #[.pointer (some ⟨b, 0, none⟩)] 143 0
    have hb3 : Below (w.heap.size + 1) (w.alloc (.cells #[.pointer (some ⟨b, 0, none⟩)] 143)) w1 := by
      rw [HW.out]; exact (Below.refl _ _).alloc (by simp) _
    refine ⟨?_, ?_, ?_, ?_⟩
    · exact (hb1.cell (p := ⟨w.heap.size, 0, none⟩) (by show w.heap.size < _; omega)).trans ((hb3.cell (p := ⟨w.heap.size, 0, none⟩) (by show w.heap.size < _; omega)).trans k0)
    · exact (hb1.cell (p := ⟨w.heap.size + 1, 0, none⟩) (by show w.heap.size + 1 < _; omega)).trans hc1
    · exact (hb2.cell (p := ⟨w1.heap.size, 0, none⟩) (by show w1.heap.size < _; omega)).trans k1
    · rw [hW0]; exact k2)
  clear hL hR hr hW0
  have hbs := HR.out.lt
  gi_wp2_with fail
  refine wpIn_rangeFunc_ownH rfl (by decide) (gf := 75) (lb := #[.pointer (some ⟨w1.heap.size, 0, none⟩), .pointer (some ⟨w1.heap.size + 1, 0, none⟩)]) rfl trivial (enters_of Tryd.func75 (by kernel_rfl) rfl)
    (chunk_stops 3 (by decide) w1.heap.size (w1.heap.size + 1) g 0 192 192 64 3 (by decide) (by decide) (by decide) (by decide) (by decide) (fun k => by omega) W0 (by have := HS0.out; omega) (by have := HS0.out; omega) HC0.out.2.2.1 HC0.out.2.2.2) kbox_t (kbox_b (by have := HS0.out; omega) (by have := HS0.out; omega)) (Below.refl _ _) (fun _ => rfl)
    (AlI P h b W0) (fun c pre W => False) (alI_own P h b W0 (by have := HS0.out; omega)) (fun c s A B row hs hg hr => hs)
    ⟨HR.out.below HB0.out hbs, World.grownBy.refl _ _⟩
    (fun (x : Fin 3) a' W => a' = { tmps := #[.pointer (some ⟨b, 0, none⟩), .slice (some ⟨g, 0, none⟩) 192 192, .int .i64 4, .pointer (some ⟨w.heap.size, 0, none⟩), undef, .pointer (some ⟨w.heap.size + 1, 0, none⟩), .slice none 0 0, .slice (some ⟨g, x.1 * 64, none⟩) 64 64, undef, undef, undef, undef, undef, undef, undef, .slice (some ⟨g, 0, none⟩) 192 192, .int .i64 4, .int .i64 64, .func (.func 75) #[] #[.pointer (some ⟨w1.heap.size, 0, none⟩), .pointer (some ⟨w1.heap.size + 1, 0, none⟩)], .slice (some ⟨g, x.1 * 64, none⟩) 64 64, undef, undef, undef, undef, undef, undef, undef, undef, undef, undef, undef, undef, undef, undef, undef, undef, undef, undef, undef, undef, undef, undef, undef, undef, undef, undef, undef, undef, undef, undef, undef, undef, undef, undef, undef, undef, undef, undef, undef, undef, undef, undef, undef, undef, undef, undef, undef], defers := [] }) (fun x a' s A B row hs hg hr => hs) ?assign ?body ?done ?stop
  case assign =>
    rintro l pre x W K hI hK
    have HKK := Lib.hid hK
    clear hK
    have hx := x.2
    have hm : min 64 (192 - x.1 * 64) = 64 := by omega
    rw [hm, Nat.zero_add]
    gi_wp2
    exact HKK.out _ _ (KeepsFrom.refl _ _) ⟨rfl, rfl⟩ hI rfl
  case body =>
    rintro l pre x a' W hl ⟨r, hr⟩ ⟨hI1, hI2⟩ rfl hlt
    have hx := x.2
    obtain ⟨L, hL⟩ : ∃ L, L = W.heap.size := ⟨_, rfl⟩
    obtain ⟨W1, hW1⟩ : ∃ W1, W1 = W.alloc (.cells (wC (List.replicate 16 0)).toArray 163) := ⟨_, rfl⟩
    have hz16 : (wC (List.replicate 16 0)).toArray = #[.int .u32 0, .int .u32 0, .int .u32 0, .int .u32 0, .int .u32 0, .int .u32 0, .int .u32 0, .int .u32 0, .int .u32 0, .int .u32 0, .int .u32 0, .int .u32 0, .int .u32 0, .int .u32 0, .int .u32 0, .int .u32 0] := by
      have h0 : wi 0#32 = 0 := by rw [wi_def]; rfl
      simp [wC, List.replicate, h0]
    have HW1 := Lib.hid hW1
    rw [hz16] at hW1
    gi_wp2_with fail
    rw [← hW1, ← hL]
    have hI1s := hI1.lt
    have hIs := hI2.size
    have HKEEP := Lib.hid (show ∀ wq, Below W.heap.size W wq → ∀ k, k < W0.heap.size → k ≠ b → wq.heap[k]? = W0.heap[k]? from fun wq hq k hk hkb =>
      (hq.block k (Nat.lt_of_lt_of_le hk hI2.size)).trans (hI2.block k hk (by simpa using hkb)))
    have HBW1 := Lib.hid (show Below W.heap.size W W1 by rw [HW1.out]; exact (Below.refl _ _).alloc (Nat.le_refl _) _)
    have HR1 := Lib.hid (show W1.rangeAt L 0 (wC (List.replicate 16 0)) by rw [HW1.out, hL]; exact range_new W _ 163)
    have HT1 := Lib.hid (show W1.there L 0 16 by rw [HW1.out, hL]; have := there_new W (wC (List.replicate 16 0)) 163; rwa [wC_length, List.length_replicate] at this)
    obtain ⟨B, hB⟩ : ∃ B, B = (P.drop (x.1 * 64)).take 64 := ⟨_, rfl⟩
    have hBl : B.length = 64 := by rw [hB]; simp [hP]; omega
    have HLL := Lib.hid hL
    have HBD := Lib.hid hB
    clear hW1 HW1 hL hB
    gi_loopw [22] (fun i wq => ∃ k : Nat, k ≤ 64 ∧ i = .int .i64 k ∧ Hid (Below W.heap.size W wq) ∧ Hid (wq.rangeAt L 0 (wC (Sha.words B k))) ∧ Hid (wq.there L 0 16)) (fun i _ => 64 - (intOf i).toNat)
    case atStart => exact ⟨0, by omega, rfl, HBW1, HR1, HT1⟩
    case round =>
      rename World => wq
      obtain ⟨k, hk, rfl, HBQ, HRQ, HTQ⟩ := hrel
      by_cases hk64 : k < 64
      · obtain ⟨q, hq⟩ : ∃ q, q = k / 4 := ⟨_, rfl⟩
        have hq16 : q < 16 := by omega
        have hsucc : Sha.words B (k + 1) = (Sha.words B k).set q (((Sha.words B k).getD q 0 <<< 8) ||| BitVec.ofNat 32 (B.getD k 0).toNat) := by rw [hq]; rfl
        have hcy := wC_at (Sha.words B k) q (by rw [Sha.words_length]; exact hq16)
        have hcl := HRQ.out q _ hcy
        rw [Nat.zero_add] at hcl
        have hfl := (HTQ.out q hq16).2
        rw [Nat.zero_add] at hfl
        have hbyte : (Lib.byteCells P)[x.1 * 64 + k]? = some (.int .u8 (B.getD k 0).toNat) := by
          rw [HBD.out, List.getD_eq_getElem?_getD, List.getElem?_take, if_pos hk64, List.getElem?_drop]
          simp [Lib.byteCells, List.getElem?_map]
          rw [List.getElem?_eq_getElem (by omega)]
          simp
        have hcb : wq.cell? ⟨g, x.1 * 64 + k, none⟩ = some (.int .u8 (B.getD k 0).toNat) := by
          have h1 := HRP.out _ _ hbyte
          rw [Nat.zero_add] at h1
          have h2 := (HB0.out.cell (p := ⟨g, x.1 * 64 + k, none⟩) hg).trans h1
          exact (World.cell?_of_block (a := ⟨g, x.1 * 64 + k, none⟩) (HKEEP.out wq HBQ.out g (by have := HS0.out; omega) (Ne.symm hbg))).trans h2
        have hc4 : wq.cell? ⟨w.heap.size + 1, 0, none⟩ = some (.int .i64 4) :=
          (World.cell?_of_block (a := ⟨w.heap.size + 1, 0, none⟩) (HKEEP.out wq HBQ.out (w.heap.size + 1) (by have := HS0.out; omega) (by omega))).trans HC0.out.2.1
        have hyr := wi_range ((Sha.words B k).getD q 0)
        have hsh : wi ((Sha.words B k).getD q 0) * (256 : Int) % (4294967296 : Int) = wi ((Sha.words B k).getD q 0 <<< 8) := shl_w _ 8
        have hzz : (((B.getD k 0).toNat : Nat) : Int) = wi (BitVec.ofNat 32 (B.getD k 0).toNat) := by
          have := (B.getD k 0).toNat_lt
          rw [wi_def, BitVec.toNat_ofNat, Nat.mod_eq_of_lt (by omega)]
        rw [hzz] at hcb
        have hzr := wi_range (BitVec.ofNat 32 (B.getD k 0).toNat)
        generalize (Sha.words B k).getD q 0 = y at *
        generalize BitVec.ofNat 32 (B.getD k 0).toNat = z at *
        have hzw : IntKind.u32.wrap (wi z) = wi z := by rw [IntKind.wrap_u32]; omega
        have htd : Int.tdiv (k : Int) 4 = (q : Int) := by rw [Int.tdiv_eq_ediv_of_nonneg (by omega)]; omega
        have hdv : (k : Int) / 4 = (q : Int) := by omega
        have hq0 : (0 : Int) ≤ q := by omega
        have hq1 : (q : Int) < 16 := by omega
        have hqw : IntKind.i64.wrap (q : Int) = q := IntWalk.i64_in _ (by omega)
        clear hzz hbyte hcy hr hlt hq
        gi_wp2_with fail
        refine wpIn_region_still_tail 13 (by kernel_rfl) (by kernel_rfl) (by kernel_rfl) (by rintro ⟨_, _, h⟩; exact h) ?_
        simp only [List.take_succ_cons, List.take_zero, List.drop_succ_cons, List.drop_zero]
        repeat still_step
        try refine wpStill_nil ?_
        change wpList _ _ _ _ _ wq.drew
        go_wp2
        gi_wp2
        go_roundw
        case rel =>
          refine ⟨k + 1, by omega, by go_num, Lib.hid ((HBQ.out.drew).setCell (p := ⟨L, q, none⟩) (by rw [HLL.out]; exact Nat.le_refl _) _), Lib.hid ?_, Lib.hid (there_setCell (w := wq.drew) HTQ.out _ _)⟩
          have := range_setCell (w := wq.drew) HRQ.out q (.int .u32 (wi (y <<< 8 ||| z))) (by rw [wC_length, Sha.words_length]; exact hq16)
          rw [Nat.zero_add] at this
          rw [hsucc, wC_set]
          exact this
        case measure => simp [intOf]; omega
      · obtain rfl : k = 64 := by omega
        have hc3 : wq.cell? ⟨w.heap.size, 0, none⟩ = some (.pointer (some ⟨b, 0, none⟩)) :=
          (World.cell?_of_block (a := ⟨w.heap.size, 0, none⟩) (HKEEP.out wq HBQ.out (w.heap.size) (by have := HS0.out; omega) (by omega))).trans HC0.out.1
        have hla := load_a16 (Sha.words_length B 64) HRQ.out
        have HRq := Lib.hid (hI1.below HBQ.out hI1.lt)
        have HLq := Lib.hid (show Laid wq from HL.out.keepb (by have := HBQ.out.size; have := HL.out.size; have := HS0.out; omega) (fun k hk => (HKEEP.out wq HBQ.out k (by have := HL.out.size; have := HS0.out; omega) (by omega)).trans (HB0.out.block k (by have := HL.out.size; omega))))
        have HI2 := Lib.hid hI2
        gi_wp2_with fail
        refine ⟨trivial, (callsIn_round (take_f wq b (shaSt P h pre) (Sha.words B 64) (Sha.words_length _ _) HRq.out HLq.out)).mono ?_⟩
        rintro e w3 ⟨rfl, h1, h2⟩
        gi_wp2
        have hkk : ∀ k, k < W.heap.size → k ≠ b → w3.heap[k]? = W.heap[k]? := fun k hk hkb =>
          (h2.block k (Nat.lt_of_lt_of_le hk HBQ.out.size) (by simpa using hkb)).trans (HBQ.out.block k hk)
        have hs3 : W.heap.size ≤ w3.heap.size := Nat.le_trans HBQ.out.size h2.size
        have hz := HS0.out
        have hIs2 := HI2.out.size
        refine ⟨⟨hs3, fun k o hB hk _ => (hkk k (Array.getElem?_eq_some_iff.1 hk).1 (by omega)).trans hk⟩, ⟨World.cell?_of_block (a := ⟨w1.heap.size, 0, none⟩) (hkk w1.heap.size (by omega) (by omega)), World.cell?_of_block (a := ⟨w1.heap.size + 1, 0, none⟩) (hkk (w1.heap.size + 1) (by omega) (by omega))⟩, ?_, grown_via HI2.out HBQ.out h2⟩
        rw [shaSt_snoc, ← HBD.out]
        exact h1
  case done =>
    rintro D ys W hD rfl ⟨hI1, hI2⟩ hK
    have HI1 := Lib.hid hI1
    have HI2 := Lib.hid hI2
    have HKD := Lib.hid hK
    clear hI1 hI2 hK
    have hz := HS0.out
    have hc3 : W.cell? ⟨w.heap.size, 0, none⟩ = some (.pointer (some ⟨b, 0, none⟩)) :=
      (World.cell?_of_block (a := ⟨w.heap.size, 0, none⟩) (HI2.out.block w.heap.size (by omega) (by simp; omega))).trans HC0.out.1
    have hc4 : W.cell? ⟨w.heap.size + 1, 0, none⟩ = some (.int .i64 4) :=
      (World.cell?_of_block (a := ⟨w.heap.size + 1, 0, none⟩) (HI2.out.block (w.heap.size + 1) (by omega) (by simp; omega))).trans HC0.out.2.1
    obtain ⟨S, hS⟩ : ∃ S, S = shaSt P h (chunks 3 3) := ⟨_, rfl⟩
    rw [← hS] at HI1
    have HSD := Lib.hid hS
    clear hS
    have hla := load_a8 (w := W) (b := b) (o := 0) (l := S.list) rfl (rC_words HI1.out.range)
    have HC4 := Lib.hid hc4
    have hWs : w.heap.size + 1 < W.heap.size := by have := HI2.out.size; omega
    clear hz
    gi_wp2_with fail
    refine wpIn_wide.2 ?_
    clear hc3 hc4 hla
    go_loopw [11, 48] (fun v i wr => ∃ k : Nat, k ≤ 8 ∧ i = .int .i64 k ∧ Hid (wr.ownsRow W.heap.size 5 1 v (4 * k) (Lib.byteCells (outB S k 0))) ∧ Hid (Below W.heap.size W wr)) (fun _ i _ => 8 - (intOf i).toNat)
    case atStart => exact ⟨0, by omega, rfl, Lib.hid (own_nil _ _ _ _), Lib.hid (Below.refl _ _)⟩
    case round =>
      obtain ⟨k, hk, rfl, HO, HB⟩ := hrel
      by_cases hk8 : k < 8
      · have hix : ∀ W, (Instr.index 150 (.agg (wC S.list).toArray) (.int .i64 (k : Int))).run Tryd.prog W = .ok _ W := run_index_u32 (wC S.list).toArray k 8 _ hk8 (by rw [List.getElem?_toArray]; exact wC_at S.list k hk8) 150 Tryd.underlying150
        have hc4 := (HB.out.cell (p := ⟨w.heap.size + 1, 0, none⟩) hWs).trans HC4.out
        have hd8 : decide ((k : Int) < 8) = true := by simp; omega
        obtain ⟨x, hx⟩ : ∃ x, x = S.list.getD k 0 := ⟨_, rfl⟩
        rw [← hx] at hix
        have HXD := Lib.hid hx.symm
        clear hx
        go_wp2_with fail
        clear hix hc4
        go_loopw [11, 14] (fun v i wz => ∃ t : Nat, t ≤ 4 ∧ i = .int .i64 (3 - (t : Int)) ∧ Hid (wz.ownsRow W.heap.size 5 1 v (4 * k + t) (Lib.byteCells (outB S k t))) ∧ Hid (Below W.heap.size W wz)) (fun _ i _ => (intOf i + 1).toNat)
        case atStart => exact ⟨0, by omega, rfl, HO, HB⟩
        case round =>
          rename World => wz
          obtain ⟨t, ht, rfl, HO2, HB2⟩ := hrel
          by_cases ht4 : t < 4
          · have hsn := outB_succ S k t ht4
            have hby := byteAt_val x t ht4
            have HNB := Lib.hid (fun (n : Int) => row_u8 wz n)
            rcases (show t = 0 ∨ t = 1 ∨ t = 2 ∨ t = 3 by omega) with rfl | rfl | rfl | rfl
            · have hb0 : wi x / 16777216 % 256 = ((byteAt x 0).toNat : Int) := by simpa using hby
              clear hby
              go_wp2_with (at_builtin; refine append_row rfl (.tmp 57) (.tmp 63) 28 5 rfl Tryd.underlying28 W.heap.size (.int .u8 0) 1 1 infoU8 (by rfl) (by decide) _ _ _ rfl (own_below HO2.out ((Below.refl _ _).alloc (Nat.le_refl _) _) (Nat.le_refl _)) _ 1 1 (Lib.byteCells [byteAt x 0]) rfl (HNB.out _) (bytes_one _) (by omega) (by decide) (by have := HB2.out.size; simp; omega) ?_)
              intro v' w' k1 k2
              have K1 := Lib.hid k1
              have K2 := Lib.hid (below_owned (HB2.out.alloc HB2.out.size _) (own_below HO2.out ((Below.refl _ _).alloc (Nat.le_refl _) _) (Nat.le_refl _)) k2 (Nat.le_refl _) (by have := HB2.out.size; simp; omega))
              clear k1 k2
              go_wp2
              go_roundw
              case rel => exact ⟨1, by omega, by rfl, Lib.hid (by rw [hsn, bytes_app, HXD.out]; exact K1.out), K2⟩
              case measure => simp [intOf]
            · have hb1 : wi x / 65536 % 256 = ((byteAt x 1).toNat : Int) := by simpa using hby
              clear hby
              go_wp2_with (at_builtin; refine append_row rfl (.tmp 57) (.tmp 63) 28 5 rfl Tryd.underlying28 W.heap.size (.int .u8 0) 1 1 infoU8 (by rfl) (by decide) _ _ _ rfl (own_below HO2.out ((Below.refl _ _).alloc (Nat.le_refl _) _) (Nat.le_refl _)) _ 1 1 (Lib.byteCells [byteAt x 1]) rfl (HNB.out _) (bytes_one _) (by omega) (by decide) (by have := HB2.out.size; simp; omega) ?_)
              intro v' w' k1 k2
              have K1 := Lib.hid k1
              have K2 := Lib.hid (below_owned (HB2.out.alloc HB2.out.size _) (own_below HO2.out ((Below.refl _ _).alloc (Nat.le_refl _) _) (Nat.le_refl _)) k2 (Nat.le_refl _) (by have := HB2.out.size; simp; omega))
              clear k1 k2
              go_wp2
              go_roundw
              case rel => exact ⟨2, by omega, by rfl, Lib.hid (by rw [hsn, bytes_app, HXD.out]; exact K1.out), K2⟩
              case measure => simp [intOf]
            · have hb2 : wi x / 256 % 256 = ((byteAt x 2).toNat : Int) := by simpa using hby
              clear hby
              go_wp2_with (at_builtin; refine append_row rfl (.tmp 57) (.tmp 63) 28 5 rfl Tryd.underlying28 W.heap.size (.int .u8 0) 1 1 infoU8 (by rfl) (by decide) _ _ _ rfl (own_below HO2.out ((Below.refl _ _).alloc (Nat.le_refl _) _) (Nat.le_refl _)) _ 1 1 (Lib.byteCells [byteAt x 2]) rfl (HNB.out _) (bytes_one _) (by omega) (by decide) (by have := HB2.out.size; simp; omega) ?_)
              intro v' w' k1 k2
              have K1 := Lib.hid k1
              have K2 := Lib.hid (below_owned (HB2.out.alloc HB2.out.size _) (own_below HO2.out ((Below.refl _ _).alloc (Nat.le_refl _) _) (Nat.le_refl _)) k2 (Nat.le_refl _) (by have := HB2.out.size; simp; omega))
              clear k1 k2
              go_wp2
              go_roundw
              case rel => exact ⟨3, by omega, by rfl, Lib.hid (by rw [hsn, bytes_app, HXD.out]; exact K1.out), K2⟩
              case measure => simp [intOf]
            · have hb3 : wi x % 256 = ((byteAt x 3).toNat : Int) := by simpa using hby
              clear hby
              go_wp2_with (at_builtin; refine append_row rfl (.tmp 57) (.tmp 63) 28 5 rfl Tryd.underlying28 W.heap.size (.int .u8 0) 1 1 infoU8 (by rfl) (by decide) _ _ _ rfl (own_below HO2.out ((Below.refl _ _).alloc (Nat.le_refl _) _) (Nat.le_refl _)) _ 1 1 (Lib.byteCells [byteAt x 3]) rfl (HNB.out _) (bytes_one _) (by omega) (by decide) (by have := HB2.out.size; simp; omega) ?_)
              intro v' w' k1 k2
              have K1 := Lib.hid k1
              have K2 := Lib.hid (below_owned (HB2.out.alloc HB2.out.size _) (own_below HO2.out ((Below.refl _ _).alloc (Nat.le_refl _) _) (Nat.le_refl _)) k2 (Nat.le_refl _) (by have := HB2.out.size; simp; omega))
              clear k1 k2
              go_wp2
              go_roundw
              case rel => exact ⟨4, by omega, by rfl, Lib.hid (by rw [hsn, bytes_app, HXD.out]; exact K1.out), K2⟩
              case measure => simp [intOf]
          · obtain rfl : t = 4 := by omega
            go_wp2
            refine ⟨⟨k + 1, by omega, by go_num, Lib.hid ?_, HB2⟩, by simp [intOf]; omega⟩
            rw [← outB_next S k hk8]
            exact HO2.out
      · obtain rfl : k = 8 := by omega
        have HO8 := HO
        rw [outB_all] at HO8
        have HKZ := Lib.hid (show wr.heap[D]? = some (.deferred (some [])) from (HB.out.block D (Array.getElem?_eq_some_iff.1 HKD.out).1).trans HKD.out)
        go_wp2
        gi_wp2
        refine ⟨by simp, .inl ⟨_, _, rfl, run_takeDeferred HKZ.out, ?_⟩⟩
        refine ⟨u11, by simp [results], ⟨u11, rfl, ?_⟩, ?_⟩
        · rw [← HSD.out]
          exact own_putObj (own_mono HO8.out (by omega)) HKZ.out
        · exact grown_end HB0.out HI2.out HB.out (by have := HB0.out.size; omega)
  case stop =>
    rintro D c pre W hD hp hI hK
    exact hI.elim
end Go.Proofs.YtbhjigejpdbeiaaDoor
