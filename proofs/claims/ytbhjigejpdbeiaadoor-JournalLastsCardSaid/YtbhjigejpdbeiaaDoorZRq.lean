/-
  Words for the reference's sum of 120 bytes.
-/
import Derived.Test.YtbhjigejpdbeiaaDoorZRw
import Derived.Test.YtbhjigejpdbeiaaDoorZSm
import Derived.Outline
import Derived.OwnWalk
set_option linter.unusedSimpArgs false
set_option linter.unusedVariables false
namespace Go.Proofs.YtbhjigejpdbeiaaDoor
open Go.RowKit Go.Shelf
set_option linter.unusedVariables false

@[irreducible] def i43Set (a : Addr) (v : Value) : Sem Unit := storeVar 168 a v
@[go_sem ↓] theorem i43Set_def (a : Addr) (v : Value) : storeVar 168 a v = i43Set a v := by unfold i43Set; rfl
@[irreducible] def q8Set (a : Addr) (v : Value) : Sem Unit := storeVar 153 a v
@[go_sem ↓] theorem q8Set_def (a : Addr) (v : Value) : storeVar 153 a v = q8Set a v := by unfold q8Set; rfl

def iC (l : List Nat) : List Value := l.map fun (n : Nat) => Value.int .i64 (n : Int)
theorem iC_one (l : List Nat) : ∀ v ∈ iC l, v.oneCell' = true := by
  intro v hv
  obtain ⟨u, _, rfl⟩ := List.mem_map.1 hv
  rfl
def bitsL : List Nat := [2, 13, 22, 6, 11, 25, 7, 18, 3, 17, 19, 10]
theorem sizeI43 : (Tryd.prog.info? 168).map (·.size) = some 12 := by kernel_rfl
theorem store_i43 {w : World} {b o : Nat} (h : w.there b o 12) : (i43Set ⟨b, o, none⟩ (.agg (iC bitsL).toArray)).run Tryd.prog w = .ok () (w.setCells b o (iC bitsL)) := by
  unfold i43Set; exact run_storeVar_mid w b o 168 (iC bitsL).toArray (by simpa [iC, bitsL] using h) (by rw [sizeI43]; rfl) (all_oneCell_toArray (iC_one _))

/-- Words of 32 bits in cells of 64. -/
def qW (l : List W32) : List Value := l.map fun x => .int .u64 (wi x)
theorem qW_length (l : List W32) : (qW l).length = l.length := by simp [qW]
theorem qW_one (l : List W32) : ∀ v ∈ qW l, v.oneCell' = true := by
  intro v hv
  obtain ⟨u, _, rfl⟩ := List.mem_map.1 hv
  rfl
theorem qW_at (l : List W32) (i : Nat) (h : i < l.length) : (qW l)[i]? = some (.int .u64 (wi (l.getD i 0))) := by
  rw [qW, List.getElem?_map, List.getElem?_eq_getElem h, List.getD_eq_getElem?_getD, List.getElem?_eq_getElem h]; rfl
theorem qW_set (l : List W32) (j : Nat) (x : W32) : qW (l.set j x) = (qW l).set j (.int .u64 (wi x)) := by simp [qW, List.map_set]

/-- One byte is appended to bytes that the call owns. -/
theorem append_byte {w wr : World} {ops : Array Oper} {rest : List Oper} {o : Oper} {a : Act} {Q : Exit → Act → World → Prop} (hgd : o.guard = none) (s x : Operand)
    (ho : o.op = .call { callee := .builtin .append, args := #[s, x], argTypes := #[28, 28] }) (base : Nat) (v : Value) (n : Nat) (xs : List UInt8) (hs : a.eval s = v)
    (hown : Hid (wr.ownsRow base 5 1 v n (Lib.byteCells xs))) (hb : Hid (Below base w wr)) (hbw : base ≤ w.heap.size) (u : UInt8) (z : Int) (hz : z = (u.toNat : Int)) (hx : a.eval x = .slice (some ⟨wr.heap.size, 0, none⟩) 1 1) (h63 : n + 1 ≤ 1000000)
    (h : ∀ v' w', Hid (w'.ownsRow base 5 1 v' (n + 1) (Lib.byteCells (xs ++ [u]))) → Hid (Below base w w') → wpList Tryd.prog ops Q rest (a.put o.dst v') w') :
    wpList Tryd.prog ops Q (o :: rest) a (wr.alloc (.cells #[.int .u8 z] 5)) := by
  subst hz
  have hsz := hb.out.size
  refine append_row hgd s x 28 5 ho Tryd.underlying28 base (.int .u8 0) 1 1 infoU8 (by rfl) (by decide) v n (Lib.byteCells xs) hs (own_below hown.out ((Below.refl _ _).alloc (Nat.le_refl _) _) (Nat.le_refl _)) _ 1 1 (Lib.byteCells [u]) hx (row_u8 wr u.toNat) (bytes_one _) h63 (by decide) (by simp; omega) ?_
  intro v' w' k1 k2
  refine h v' w' (Lib.hid ?_) (Lib.hid ?_)
  · rw [bytes_app]; exact k1
  · exact below_owned (hb.out.alloc (by omega) _) (own_below hown.out ((Below.refl _ _).alloc (Nat.le_refl _) _) (Nat.le_refl _)) k2 (Nat.le_refl _) (by simp; omega)
def sliceLen : Value → Nat
  | .slice _ n _ => n
  | _ => 0
/-- The length's bytes. -/
def lenB : List UInt8 := [0, 0, 0, 0, 0, 0, 3, 192]
def ipad (bs : List UInt8) (k t : Nat) : List UInt8 := bs ++ 128 :: List.replicate k 0 ++ lenB.take t
theorem ipad_zero (bs : List UInt8) (k : Nat) : ipad bs k 0 ++ [0] = ipad bs (k + 1) 0 := by
  simp [ipad, List.replicate_succ']
theorem ipad_succ (bs : List UInt8) (k t : Nat) (ht : t < 8) : ipad bs k t ++ [lenB.getD t 0] = ipad bs k (t + 1) := by
  rw [ipad, ipad, List.append_assoc, List.append_cancel_left_eq]
  rcases (show t = 0 ∨ t = 1 ∨ t = 2 ∨ t = 3 ∨ t = 4 ∨ t = 5 ∨ t = 6 ∨ t = 7 by omega) with rfl | rfl | rfl | rfl | rfl | rfl | rfl | rfl <;> rfl
theorem ipad_all (bs : List UInt8) : ipad bs 63 8 = Sha.pad bs := by
  simp [ipad, Sha.pad, lenB, List.replicate]
theorem lenB_val (t : Nat) (ht : t < 8) : (960 : Int) / 2 ^ (56 - 8 * t) % 256 = ((lenB.getD t 0).toNat : Int) := by
  rcases (show t = 0 ∨ t = 1 ∨ t = 2 ∨ t = 3 ∨ t = 4 ∨ t = 5 ∨ t = 6 ∨ t = 7 by omega) with rfl | rfl | rfl | rfl | rfl | rfl | rfl | rfl <;> decide

theorem getD_app {α : Type} (a b : List α) (i : Nat) (d : α) (h : i < a.length) : (a ++ b).getD i d = a.getD i d := by
  rw [List.getD_eq_getElem?_getD, List.getElem?_append_left h, ← List.getD_eq_getElem?_getD]
/-- What lies in a cell. -/
@[irreducible] def cellOf (W : World) (a : Addr) : Value := (W.cell? a).getD undef
theorem cellOf_some {W : World} {a : Addr} {v : Value} (h : W.cell? a = some v) : W.cell? a = some (cellOf W a) := by unfold cellOf; rw [h]; rfl
theorem load_q8w {w : World} {b o : Nat} {l : List W32} (hl : l.length = 8) (h : w.rangeAt b o (qW l)) : (q8Var ⟨b, o, none⟩).run Tryd.prog w = .ok (.agg (qW l).toArray) w := by
  unfold q8Var; exact run_loadVar_mid w b o 153 (qW l) _ h Tryd.underlying153 rfl (by rw [sizeQ8, qW_length, hl])
theorem store_q8w {w : World} {b o : Nat} {l : List W32} (hl : l.length = 8) (h : w.there b o 8) : (q8Set ⟨b, o, none⟩ (.agg (qW l).toArray)).run Tryd.prog w = .ok () (w.setCells b o (qW l)) := by
  unfold q8Set; exact run_storeVar_mid w b o 153 (qW l).toArray (by simpa [qW_length, hl] using h) (by rw [sizeQ8]; simp [qW_length, hl]) (all_oneCell_toArray (qW_one l))
/-- The words of a block, while they are laid. -/
def mC (B : List UInt8) (k : Nat) : List Value := qW (Sha.words B k ++ List.replicate 64 0)
theorem mC_zero (B : List UInt8) : Tryd.zeroCells146 = (mC B 0).toArray := by kernel_rfl
theorem mC_length (B : List UInt8) (k : Nat) : (mC B k).length = 80 := by simp [mC, qW_length, Sha.words_length]
theorem mC_at (B : List UInt8) (k q : Nat) (hq : q < 16) : (mC B k)[q]? = some (.int .u64 (wi ((Sha.words B k).getD q 0))) := by
  rw [mC, qW_at _ q (by simp [Sha.words_length]; omega), getD_app _ _ _ _ (by rw [Sha.words_length]; exact hq)]
theorem mC_set (B : List UInt8) (k : Nat) (hk : k < 64) (x : W32) (hx : Sha.words B (k + 1) = (Sha.words B k).set (k / 4) x) : (mC B k).set (k / 4) (.int .u64 (wi x)) = mC B (k + 1) := by
  rw [mC, mC, ← qW_set, List.set_append_left _ _ (by rw [Sha.words_length]; omega), hx]
theorem words_shl (B : List UInt8) (k : Nat) : wi ((Sha.words B k).getD (k / 4) 0) * (256 : Int) = wi ((Sha.words B k).getD (k / 4) 0 <<< 8) := by
  have h := (Sha.words_get B k (k / 4)).2 (by omega) (by omega)
  have h2 : 256 ^ (k - 4 * (k / 4)) ≤ 256 ^ 3 := Nat.pow_le_pow_right (by decide) (by omega)
  have h3 := shl_w ((Sha.words B k).getD (k / 4) 0) 8
  generalize (Sha.words B k).getD (k / 4) 0 = y at *
  rw [wi_def] at h3 ⊢
  rw [← h3]
  have h4 : y.toNat < 256 ^ 3 := Nat.lt_of_lt_of_le h h2
  omega
/-- The schedule, while it is laid. -/
def sC (l : List W32) (q : Nat) : List Value := qW (Sha.sched l q ++ List.replicate (64 - q) 0)
theorem sC_zero (B : List UInt8) : mC B 64 = sC (Sha.words B 64) 0 := rfl
theorem sC_length (l : List W32) (hl : l.length = 16) (q : Nat) (hq : q ≤ 64) : (sC l q).length = 80 := by simp [sC, qW_length, Sha.sched_length, hl]; omega
theorem sC_at (l : List W32) (hl : l.length = 16) (q j : Nat) (hj : j < 16 + q) : (sC l q)[j]? = some (.int .u64 (wi ((Sha.sched l q).getD j 0))) := by
  have h : (Sha.sched l q).length = 16 + q := by rw [Sha.sched_length, hl]
  rw [sC, qW_at _ j (by simp [h]; omega), getD_app _ _ _ _ (by rw [h]; exact hj)]
theorem sC_set (l : List W32) (hl : l.length = 16) (q : Nat) (hq : q < 64) : (sC l q).set (16 + q) (.int .u64 (wi (Sha.next (Sha.sched l q)))) = sC l (q + 1) := by
  have h : (Sha.sched l q).length = 16 + q := by rw [Sha.sched_length, hl]
  rw [sC, sC, ← qW_set]
  congr 1
  rw [List.set_append_right _ _ (by omega), h, Nat.sub_self, show 64 - q = (64 - (q + 1)) + 1 by omega, List.replicate_succ, List.set_cons_zero]
  show _ = (Sha.sched l q ++ [Sha.next (Sha.sched l q)]) ++ _
  rw [List.append_assoc]
  rfl
/-- The state while the words are added, one by one. -/
def aQ (h S : Sha.St) (j : Nat) : List Value := qW ((h.add S).list.take j ++ h.list.drop j)
theorem aQ_end (h S : Sha.St) : aQ h S 8 = qW (h.add S).list := rfl
theorem aQ_length (h S : Sha.St) (j : Nat) (hj : j ≤ 8) : (aQ h S j).length = 8 := by
  have h1 : ∀ T : Sha.St, T.list.length = 8 := fun _ => rfl
  simp only [aQ, qW_length, List.length_append, List.length_take, List.length_drop, h1]
  omega
theorem aQ_at (h S : Sha.St) (j : Nat) (hj : j < 8) : (aQ h S j)[j]? = some (.int .u64 (wi (h.list.getD j 0))) := by
  rcases (show j = 0 ∨ j = 1 ∨ j = 2 ∨ j = 3 ∨ j = 4 ∨ j = 5 ∨ j = 6 ∨ j = 7 by omega) with rfl | rfl | rfl | rfl | rfl | rfl | rfl | rfl <;> rfl
theorem aQ_set (h S : Sha.St) (j : Nat) (hj : j < 8) : (aQ h S j).set j (.int .u64 (wi (h.list.getD j 0 + S.list.getD j 0))) = aQ h S (j + 1) := by
  rcases (show j = 0 ∨ j = 1 ∨ j = 2 ∨ j = 3 ∨ j = 4 ∨ j = 5 ∨ j = 6 ∨ j = 7 by omega) with rfl | rfl | rfl | rfl | rfl | rfl | rfl | rfl <;> rfl
theorem roots_q (i : Nat) (h : i < 80) : ∃ n : Nat, (Sha.roots.map fun (n : Nat) => Value.int .u64 (n : Int))[i]? = some (.int .u64 (n : Int)) ∧ (n : Int) / 4294967296 = wi (Sha.K i) := by
  obtain ⟨n, h1, h2⟩ := roots_at i h
  refine ⟨n, h1, ?_⟩
  have h3 : ∀ x ∈ Sha.roots, x < 18446744073709551616 := by decide +kernel
  rw [List.getElem?_map] at h1
  obtain ⟨m, hm, e⟩ := Option.map_eq_some_iff.1 h1
  have hx := h3 m (List.mem_of_getElem? hm)
  injection e with e1 e2
  have : m = n := by omega
  subst this
  rw [← h2]
  omega
theorem byteAt_q (x : W32) (t : Nat) (ht : t < 4) : wi x / 2 ^ (24 - 8 * t) % 256 = ((byteAt x t).toNat : Int) := by
  have h := byteAt_val x t ht
  rwa [show 8 * (3 - t) = 24 - 8 * t by omega] at h
theorem list8 (S : Sha.St) : S.list.length = 8 := rfl
theorem store_round {W : World} {Bv : Nat} (h : W.there Bv 0 8) (R : Sha.St) (k xm : W32) :
    (q8Set ⟨Bv, 0, none⟩ (.agg #[.int .u64 (wi ((R.h + Sha.big1 R.e + (R.e &&& R.f ^^^ ~~~R.e &&& R.g) + k + xm) + (Sha.big0 R.a + (R.a &&& R.b ^^^ R.a &&& R.c ^^^ R.b &&& R.c)))), .int .u64 (wi R.a), .int .u64 (wi R.b), .int .u64 (wi R.c), .int .u64 (wi (R.d + (R.h + Sha.big1 R.e + (R.e &&& R.f ^^^ ~~~R.e &&& R.g) + k + xm))), .int .u64 (wi R.e), .int .u64 (wi R.f), .int .u64 (wi R.g)])).run Tryd.prog W = .ok () (W.setCells Bv 0 (qW (Sha.round R k xm).list)) :=
  store_q8w (l := (Sha.round R k xm).list) (list8 _) h
theorem chunks_snoc3 (ch : Nat) (h : ch < 3) : chunks 3 (ch + 1) = chunks 3 ch ++ [⟨ch, h⟩] := chunks_succ 3 ch h
/-- The state while the beginnings are laid. -/
def hC (k : Nat) : List Value := qW (Sha.start.list.take k ++ zeroSt.list.drop k)
theorem hC_zero : (hC 0).toArray = #[.int .u64 0, .int .u64 0, .int .u64 0, .int .u64 0, .int .u64 0, .int .u64 0, .int .u64 0, .int .u64 0] := by
  have h0 : wi 0#32 = 0 := by rw [wi_def]; rfl
  simp [hC, qW, zeroSt, Sha.St.list, h0]
theorem hC_end : hC 8 = qW Sha.start.list := rfl
theorem hC_set (j : Nat) (hj : j < 8) : (hC j).set j (.int .u64 (wi (Sha.begin_ j))) = hC (j + 1) := by
  rcases (show j = 0 ∨ j = 1 ∨ j = 2 ∨ j = 3 ∨ j = 4 ∨ j = 5 ∨ j = 6 ∨ j = 7 by omega) with rfl | rfl | rfl | rfl | rfl | rfl | rfl | rfl <;> rfl
theorem hC_length (j : Nat) (hj : j ≤ 8) : (hC j).length = 8 := by
  have h1 : ∀ T : Sha.St, T.list.length = 8 := fun _ => rfl
  simp only [hC, List.length_append, qW_length, List.length_take, List.length_drop, h1]
  omega
theorem begins_q (i : Nat) (h : i < 8) : ∃ n : Nat, (Sha.begins.map fun (n : Nat) => Value.int .u64 (n : Int))[i]? = some (.int .u64 (n : Int)) ∧ (n : Int) / 4294967296 = wi (Sha.begin_ i) := by
  obtain ⟨n, h1, h2⟩ := begins_at i h
  refine ⟨n, h1, ?_⟩
  have h3 : ∀ x ∈ Sha.begins, x < 18446744073709551616 := by decide +kernel
  rw [qC, List.getElem?_map] at h1
  obtain ⟨m, hm, e⟩ := Option.map_eq_some_iff.1 h1
  have hx := h3 m (List.mem_of_getElem? hm)
  injection e with e1 e2
  have : m = n := by omega
  subst this
  rw [← h2]
  omega

end Go.Proofs.YtbhjigejpdbeiaaDoor
