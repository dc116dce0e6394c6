import Derived.Test.YtbhjigejpdbeiaaDoorKSz
import Derived.Lib.BufferRead
import Derived.Laws.IdiomStrings
set_option linter.unusedSimpArgs false
set_option linter.unusedVariables false

section
/-
  Bytes as a string; bytes.Equal, HasPrefix, CutPrefix.
-/
namespace Go.Proofs.YtbhjigejpdbeiaaDoor
open Go.RowKit Go.Shelf
set_option linter.unusedVariables false
set_option maxRecDepth 8000

theorem str_of_row (w : World) (A : Option Addr) (n c : Nat) (l : List UInt8) (h : RowOf w 1 A n c (Lib.byteCells l)) : (convert 28 9 (.slice A n c)).run Tryd.prog w = .ok (.string ⟨l.toArray⟩) w := by
  obtain ⟨h1, h2, h3, h4, h5⟩ := h
  rw [Lib.byteCells_length, Nat.mul_one] at h1
  subst h1
  cases A with
  | none =>
    have hc := h4 rfl
    have : l = [] := List.eq_nil_of_length_eq_zero (by omega)
    subst this
    exact Lib.run_convert_nil_bytes w 28 9 5 c Tryd.underlying28 Tryd.underlying5 Tryd.underlying9
  | some x =>
    refine run_convert_bytes_back w 28 9 5 x c l Tryd.underlying28 Tryd.underlying5 Tryd.underlying9 ?_
    intro j hj
    obtain ⟨hs, hb, hc⟩ := h5 x rfl (by omega)
    obtain ⟨b, o, sp⟩ := x
    obtain rfl : sp = none := hs
    rw [add_none]
    exact hc j _ (by rw [Lib.byteCells, List.getElem?_map, List.getElem?_eq_getElem hj]; rfl)
theorem bequal_f (w : World) (A A' : Option Addr) (n c n' c' : Nat) (x y : List UInt8) (h : RowOf w 1 A n c (Lib.byteCells x)) (h' : RowOf w 1 A' n' c' (Lib.byteCells y)) :
    Calls Tryd.prog 97 #[.slice A n c, .slice A' n' c'] w fun e w' => e = .returned (.bool (x == y)) ∧ w' = w := by
  have h1 := str_of_row w A n c x h
  have h2 := str_of_row w A' n' c' y h'
  clear h h'
  go_enter Tryd.func97, Tryd.ntmps97
  go_wp2
  go_ret
  exact ⟨rfl, rfl⟩
theorem row_take {w : World} {A : Option Addr} {n c : Nat} {l : List UInt8} (h : RowOf w 1 A n c (Lib.byteCells l)) (k : Nat) (hk : k ≤ n) : RowOf w 1 A k c (Lib.byteCells (l.take k)) := by
  obtain ⟨h1, h2, h3, h4, h5⟩ := h
  rw [Lib.byteCells_length, Nat.mul_one] at h1
  refine ⟨by rw [Lib.byteCells_length, List.length_take]; omega, by omega, h3, h4, fun x hx h0 => ?_⟩
  obtain ⟨k1, k2, k3⟩ := h5 x hx (by omega)
  exact ⟨k1, k2, range_take k k3⟩
/-- 'prefix' is three bytes long. -/
theorem hasPrefix_f (w : World) (A A' : Option Addr) (n c c' : Nat) (x y : List UInt8) (h : RowOf w 1 A n c (Lib.byteCells x)) (h' : RowOf w 1 A' 3 c' (Lib.byteCells y)) (hn : n ≤ 100) :
    Calls Tryd.prog 81 #[.slice A n c, .slice A' 3 c'] w fun e w' => e = .returned (.bool (decide (3 ≤ n) && (x.take 3 == y))) ∧ w' = w := by
  have hnc := h.2.1
  by_cases h3 : 3 ≤ n
  · have hd : decide ((3 : Int) ≤ (n : Int)) = true := by simp; omega
    have HE := Lib.hid (bequal_f w A A' 3 c 3 c' (x.take 3) y (row_take h 3 h3) h')
    have HD := Lib.hid (show decide (3 ≤ n) = true by simp [h3])
    have hc3 : 3 ≤ c := by omega
    have hcc := h.2.2.1
    have hcut : (Instr.slice 28 (.slice A n c) none (some (.int .i64 3)) none).run Tryd.prog w = .ok (.slice A 3 c) w := by
      go_simp
      intro hlt
      omega
    clear h h'
    go_enter Tryd.func81, Tryd.ntmps81
    go_wp2_with fail
    refine HE.out.mono ?_
    rintro e w' ⟨rfl, rfl⟩
    go_wp2
    go_ret
    refine ⟨?_, rfl⟩
    rw [HD.out]; rfl
  · have hd : decide ((3 : Int) ≤ (n : Int)) = false := by simp; omega
    have HD := Lib.hid (show decide (3 ≤ n) = false by simp [h3])
    clear h h'
    go_enter Tryd.func81, Tryd.ntmps81
    go_wp2
    go_ret
    refine ⟨?_, rfl⟩
    rw [HD.out]; rfl
theorem row_drop {w : World} {A : Option Addr} {n c : Nat} {l : List UInt8} (h : RowOf w 1 A n c (Lib.byteCells l)) (k : Nat) (hk : k < c) (hkn : k ≤ n) : RowOf w 1 (A.map fun a => ⟨a.block, a.off + k, a.spot⟩) (n - k) (c - k) (Lib.byteCells (l.drop k)) := by
  obtain ⟨h1, h2, h3, h4, h5⟩ := h
  rw [Lib.byteCells_length, Nat.mul_one] at h1
  refine ⟨by rw [Lib.byteCells_length, List.length_drop]; omega, by omega, by omega, fun h => ?_, fun x hx h0 => ?_⟩
  · cases A with
    | none => have := h4 rfl; omega
    | some a => cases h
  · cases A with
    | none => cases hx
    | some a =>
      injection hx with hx
      subst hx
      obtain ⟨k1, k2, k3⟩ := h5 a rfl (by omega)
      refine ⟨k1, k2, fun j v hv => ?_⟩
      show w.cell? ⟨a.block, a.off + k + j, none⟩ = some v
      rw [Nat.add_assoc]
      refine k3 (k + j) v ?_
      rw [Lib.byteCells, List.getElem?_map, List.getElem?_drop] at hv
      rw [Lib.byteCells, List.getElem?_map, hv]
/-- What lies behind three bytes. -/
theorem cutPrefix_f (w : World) (A A' : Option Addr) (n c c' : Nat) (x y : List UInt8) (h : RowOf w 1 A n c (Lib.byteCells x)) (h' : RowOf w 1 A' 3 c' (Lib.byteCells y)) (hn : n ≤ 100) :
    Calls Tryd.prog 64 #[.slice A n c, .slice A' 3 c'] w fun e w' => (∃ B m k, e = .returned (.tuple #[.slice B m k, .bool (decide (3 ≤ n) && (x.take 3 == y))]) ∧
      ((decide (3 ≤ n) && (x.take 3 == y)) = true → m = n - 3 ∧ RowOf w 1 B m k (Lib.byteCells (x.drop 3)))) ∧ w' = w := by
  have HH := Lib.hid (hasPrefix_f w A A' n c c' x y h h' hn)
  have hnc := h.2.1
  have hcc := h.2.2.1
  have HR := Lib.hid h
  generalize hb : (decide (3 ≤ n) && (x.take 3 == y)) = b at *
  have h3 : b = true → 3 ≤ n := fun e => by rw [e, Bool.and_eq_true, decide_eq_true_eq] at hb; exact hb.1
  clear h h' hb
  cases b with
  | false =>
    go_enter Tryd.func64, Tryd.ntmps64
    go_wp2_with fail
    refine HH.out.mono ?_
    rintro e w' ⟨rfl, rfl⟩
    go_wp2
    go_ret2
    exact ⟨⟨A, n, c, rfl, fun h => by cases h⟩, rfl⟩
  | true =>
    have hn3 : 3 ≤ n := h3 rfl
    clear h3
    obtain ⟨B, hB⟩ : ∃ B, B = (if c = 3 then A else A.map fun a => ⟨a.block, a.off + 3, a.spot⟩) := ⟨_, rfl⟩
    have HOUT := Lib.hid (show RowOf w 1 B (n - 3) (c - 3) (Lib.byteCells (x.drop 3)) by
      rw [hB]
      by_cases hc : c = 3
      · rw [if_pos hc]
        obtain rfl : n = 3 := by omega
        have hx : x.length = 3 := by have := HR.out.1; rw [Lib.byteCells_length] at this; omega
        rw [List.drop_eq_nil_of_le (by omega)]
        exact ⟨rfl, by omega, by omega, fun _ => by omega, fun y _ h0 => by omega⟩
      · rw [if_neg hc]
        exact row_drop HR.out 3 (by omega) hn3)
    have hcut : (Instr.slice 28 (.slice A n c) (some (.int .i64 3)) none none).run Tryd.prog w = .ok (.slice B (n - 3) (c - 3)) w := by
      have hAB : (if c = 3 then A else A.map fun a => a.add 3) = B := by
        rw [hB]
        by_cases hc : c = 3
        · rw [if_pos hc, if_pos hc]
        · rw [if_neg hc, if_neg hc]
          cases A with
          | none => rfl
          | some a =>
            obtain ⟨k1, k2, k3⟩ := HR.out.2.2.2.2 a rfl (by omega)
            obtain ⟨b, o, sp⟩ := a
            obtain rfl : sp = none := k1
            rw [Option.map_some, Option.map_some, add_none]
      rw [← hAB]
      have q1 : ¬ ((n : Int) < 3) := by omega
      go_simp
    clear hB
    go_enter Tryd.func64, Tryd.ntmps64
    go_wp2_with fail
    refine HH.out.mono ?_
    rintro e w' ⟨rfl, rfl⟩
    go_wp2
    go_ret2
    exact ⟨⟨B, n - 3, c - 3, rfl, fun _ => ⟨rfl, HOUT.out⟩⟩, rfl⟩
end Go.Proofs.YtbhjigejpdbeiaaDoor
end

section
/-
  append that tells where its row lies; rows of rows of bytes.
-/
namespace Go.Proofs.YtbhjigejpdbeiaaDoor
open Go.RowKit Go.Shelf
set_option linter.unusedVariables false
set_option maxRecDepth 8000

theorem list_of_step {w : World} {ops : Array Oper} {rest : List Oper} {o : Oper} {a : Act} {Q : Exit → Act → World → Prop} (hgd : o.guard = none)
    (h : if Region.wanted o (yielded ops a.tmps) = true then Oper.wp Tryd.prog o a w (wpList Tryd.prog ops Q rest) Q else True) : wpList Tryd.prog ops Q (o :: rest) a w := by
  have hw : Region.wanted o (yielded ops a.tmps) = true := by simp [Region.wanted, hgd]
  rw [if_pos hw] at h
  rw [wpList, if_pos hw]
  exact .inl h
theorem step_append_two {w : World} {ops : Array Oper} {o : Oper} {a : Act} {K : Act → World → Prop} {Q : Exit → Act → World → Prop} {Z : Prop} (hgd : o.guard = none) (s x : Operand) (T E : TypeId)
    (ho : o.op = .call { callee := .builtin .append, args := #[s, x], argTypes := #[T, T] }) (ht : Tryd.prog.underlying T = some (.slice E))
    (base : Nat) (z : Value) (size bytes : Nat) (hinf : (Tryd.prog.info? E).map (fun i => (i.zero, i.size, i.bytes)) = some (some z, size, bytes)) (hzs : z.cells.size = size) (hsz : 0 < size)
    (v : Value) (n : Nat) (xs : List Value) (hs : a.eval s = v) (hown : w.ownsRow base E size v n xs)
    (A : Option Addr) (m c : Nat) (X : List Value) (hx : a.eval x = .slice A m c) (hr : RowOf w size A m c X) (h1 : ∀ u ∈ X, u.oneCell' = true)
    (h63 : n + m ≤ 1000000) (hbytes : bytes ≤ 100000) (hbase : base ≤ w.heap.size)
    (h : ∀ v' w', w'.ownsRow base E size v' (n + m) (xs ++ X) → w.grownBy w' v.ownBlock → (v'.ownBlock = v.ownBlock ∨ ∀ g, v'.ownBlock = some g → w.heap.size ≤ g) → K (a.put o.dst v') w') :
    if Region.wanted o (yielded ops a.tmps) = true then Oper.wp Tryd.prog o a w K Q else Z := by
  have hw : Region.wanted o (yielded ops a.tmps) = true := by simp [Region.wanted, hgd]
  obtain ⟨i, hi, hz, hsize, hby⟩ := info_parts hinf
  obtain ⟨h2, h3, h4, h5, h6⟩ := hr
  cases A with
  | none =>
    rw [if_pos hw]
    have hc0 : c = 0 := h5 rfl
    subst hc0
    have hm0 : m = 0 := by omega
    subst hm0
    have hX : X = [] := List.eq_nil_of_length_eq_zero (by simpa using h2)
    subst hX
    have hrun := run_append_owned_none (P := Tryd.prog) (w := w) base T o.type E i size ht hi v n xs hown
    have hk := h v w (by simpa using hown) (World.grownBy.refl w _) (.inl rfl)
    unfold Oper.wp
    simp [execOp, ho, resolve, invoke, builtin, hs, hx, hrun, Result.andThen]
    exact hk
  | some ad =>
    have hnews : ∀ j u, X[j]? = some u → w.cell? (ad.add j) = some u := by
      intro j u hj
      have hj' := (List.getElem?_eq_some_iff.1 hj).1
      have hm0 : 0 < m := by
        rcases Nat.eq_zero_or_pos m with h | h
        · subst h; simp at h2; subst h2; simp at hj'
        · exact h
      obtain ⟨k1, k2, k3⟩ := h6 ad rfl hm0
      obtain ⟨b, of, sp⟩ := ad
      obtain rfl : sp = none := k1
      rw [add_none]
      exact k3 j u hj
    have hfresh : ∀ {v' : Value} {w' : World}, w'.ownsRow w.heap.size E size v' (n + m) (xs ++ X) → w'.ownsRow base E size v' (n + m) (xs ++ X) ∧ ∀ g, v'.ownBlock = some g → w.heap.size ≤ g := by
      intro v' w' k1
      refine ⟨⟨k1.1, ?_⟩, fun g hg => ?_⟩
      · rcases k1.2 with k | ⟨g', cap', cur, e1, e2, e3⟩
        · exact Or.inl k
        · exact Or.inr ⟨g', cap', cur, e1, Nat.le_trans hbase e2, e3⟩
      · rcases k1.2 with ⟨k, _⟩ | ⟨g', cap', cur, e1, e2, e3⟩
        · rw [k] at hg; cases hg
        · rw [e1] at hg
          injection hg with hg
          subst hg
          exact e2
    rcases hown.2 with ⟨rfl, hn0⟩ | ⟨g, cap, cur, rfl, hb, hg, hc, hm, hsz2, ht2⟩
    · subst hn0
      by_cases hm0 : m = 0
      · subst hm0
        have hX : X = [] := List.eq_nil_of_length_eq_zero (by simpa using h2)
        subst hX
        rw [if_pos hw]
        refine wp_append_own w s x T ho base E i z size bytes ht hi hz hsize hby hzs hsz _ 0 xs hs hown ad 0 c [] hx h2 hnews h1 (by unfold maxLen; omega) (by omega) hbase (fun v' w' k1 k2 k3 => ?_)
        exact h v' w' k1 k2 (.inl (by rw [k3.2 ⟨rfl, rfl⟩]))
      · refine step_append_grows hgd s x T ho E i z size bytes ht hi hz hsize hby hzs hsz none 0 0 xs hs (fun _ => ⟨rfl, rfl⟩) hown.1 (fun b hb => by cases hb) ad m c X hx h2 hnews h1 (by omega) (by unfold maxLen; omega) (Nat.le_trans (Nat.mul_le_mul h63 hbytes) (by omega)) (fun v' w' k1 k2 => ?_)
        obtain ⟨f1, f2⟩ := hfresh k1
        exact h v' w' f1 k2 (.inr f2)
    · by_cases hroom : n + m ≤ cap
      · rw [if_pos hw]
        exact wp_append_own_spare w s x T ho base E i size ht hi hsize g n cap xs hs hown ad m c X hx h2 hnews h1 hroom (fun w' k1 k2 => h _ w' k1 k2 (.inl rfl))
      · refine step_append_grows hgd s x T ho E i z size bytes ht hi hz hsize hby hzs hsz (some ⟨g, 0, none⟩) n cap xs hs (fun h => by cases h) hown.1 (fun b hb => by injection hb with hb; subst hb; exact hown.cells rfl) ad m c X hx h2 hnews h1 (by omega) (by unfold maxLen; omega) (Nat.le_trans (Nat.mul_le_mul h63 hbytes) (by omega)) (fun v' w' k1 k2 => ?_)
        obtain ⟨f1, f2⟩ := hfresh k1
        exact h v' w' f1 ⟨k2.os, k2.tape, k2.output, k2.size, fun k hk _ => k2.block k hk (by simp)⟩ (.inr f2)

/-! ### Rows of rows of bytes -/
/-- Each value is a row of bytes, from a block on, and not in block g. -/
structure RowSet (w : World) (base : Nat) (g : Option Nat) (vs : List Value) (rs : List (List UInt8)) : Prop where
  len : vs.length = rs.length
  row : ∀ (i : Nat) (r : List UInt8), rs[i]? = some r → ∃ B m k, vs[i]? = some (Value.slice B m k) ∧ m = r.length ∧ RowOf w 1 B m k (Lib.byteCells r) ∧ ∀ x, B = some x → 0 < m → base ≤ x.block ∧ g ≠ some x.block
theorem rowSet_nil (w : World) (base : Nat) (g : Option Nat) : RowSet w base g [] [] := ⟨rfl, fun i r h => by simp at h⟩
theorem RowSet.cellsOne {w : World} {base : Nat} {g : Option Nat} {vs : List Value} {rs : List (List UInt8)} (h : RowSet w base g vs rs) : ∀ v ∈ vs, v.oneCell' = true := by
  intro v hv
  obtain ⟨i, hi⟩ := List.getElem?_of_mem hv
  have hlt := (List.getElem?_eq_some_iff.1 hi).1
  obtain ⟨B, m, k, e, _⟩ := h.row i _ (List.getElem?_eq_getElem (by rw [← h.len]; exact hlt))
  rw [hi] at e
  cases e
  rfl
theorem RowSet.keep {w w' : World} {base : Nat} {g : Option Nat} {vs : List Value} {rs : List (List UInt8)} (h : RowSet w base g vs rs) (hs : w.heap.size ≤ w'.heap.size)
    (hk : ∀ b, b < w.heap.size → base ≤ b → g ≠ some b → w'.heap[b]? = w.heap[b]?) : RowSet w' base g vs rs :=
  ⟨h.len, fun i r hr => by
    obtain ⟨B, m, k, e1, e2, e3, e4⟩ := h.row i r hr
    exact ⟨B, m, k, e1, e2, e3.keep hs (fun x hx h0 hl => hk _ hl (e4 x hx h0).1 (e4 x hx h0).2), e4⟩⟩
theorem RowSet.below {w w' : World} {base B : Nat} {g : Option Nat} {vs : List Value} {rs : List (List UInt8)} (h : RowSet w base g vs rs) (hb : Below B w w') (hB : w.heap.size ≤ B) : RowSet w' base g vs rs :=
  h.keep hb.size (fun b hl _ _ => hb.block b (Nat.lt_of_lt_of_le hl hB))
theorem RowSet.weak {w : World} {base base' : Nat} {g g' : Option Nat} {vs : List Value} {rs : List (List UInt8)} (h : RowSet w base g vs rs) (hb : base' ≤ base) (hg : ∀ b, g' = some b → b < base ∨ w.heap.size ≤ b ∨ g = some b) : RowSet w base' g' vs rs :=
  ⟨h.len, fun i r hr => by
    obtain ⟨B, m, k, e1, e2, e3, e4⟩ := h.row i r hr
    refine ⟨B, m, k, e1, e2, e3, fun x hx h0 => ?_⟩
    obtain ⟨q1, q2⟩ := e4 x hx h0
    have q3 := (e3.2.2.2.2 x hx h0).2.1
    refine ⟨by omega, fun e => ?_⟩
    rcases hg _ e with a | a | a
    · omega
    · omega
    · exact q2 a⟩
theorem RowSet.snoc {w : World} {base : Nat} {g : Option Nat} {vs : List Value} {rs : List (List UInt8)} (h : RowSet w base g vs rs) {B : Option Addr} {m k : Nat} {r : List UInt8} (hm : m = r.length) (hr : RowOf w 1 B m k (Lib.byteCells r)) (hx : ∀ x, B = some x → 0 < m → base ≤ x.block ∧ g ≠ some x.block) :
    RowSet w base g (vs ++ [.slice B m k]) (rs ++ [r]) :=
  ⟨by simp [h.len], fun i q hq => by
    rcases Nat.lt_or_ge i rs.length with hi | hi
    · rw [List.getElem?_append_left hi] at hq
      obtain ⟨B', m', k', e1, e2, e3, e4⟩ := h.row i q hq
      exact ⟨B', m', k', by rw [List.getElem?_append_left (by rw [h.len]; exact hi)]; exact e1, e2, e3, e4⟩
    · rw [List.getElem?_append_right hi] at hq
      have : i - rs.length = 0 := by
        have := (List.getElem?_eq_some_iff.1 hq).1
        simp at this; omega
      rw [this] at hq
      simp at hq
      subst hq
      exact ⟨B, m, k, by rw [List.getElem?_append_right (by rw [h.len]; exact hi), h.len, this]; rfl, hm, hr, hx⟩⟩
theorem RowSet.turn {w w' : World} {base : Nat} {g g' : Option Nat} {vs : List Value} {rs : List (List UInt8)} (h : RowSet w base g vs rs) (hs : w.heap.size ≤ w'.heap.size)
    (hk : ∀ b, b < w.heap.size → base ≤ b → g ≠ some b → w'.heap[b]? = w.heap[b]?) (hg : ∀ b, g' = some b → w.heap.size ≤ b ∨ g = some b) : RowSet w' base g' vs rs :=
  ⟨h.len, fun i r hr => by
    obtain ⟨B, m, k, e1, e2, e3, e4⟩ := h.row i r hr
    refine ⟨B, m, k, e1, e2, e3.keep hs (fun x hx h0 hl => hk _ hl (e4 x hx h0).1 (e4 x hx h0).2), fun x hx h0 => ?_⟩
    obtain ⟨q1, q2⟩ := e4 x hx h0
    have q3 := (e3.2.2.2.2 x hx h0).2.1
    refine ⟨q1, fun e => ?_⟩
    rcases hg _ e with a | a
    · omega
    · exact q2 a⟩
theorem own_keep {w w' : World} {base sz n : Nat} {E : TypeId} {v : Value} {X : List Value} (h : w.ownsRow base E sz v n X) (hk : ∀ g, v.ownBlock = some g → w'.heap[g]? = w.heap[g]?) : w'.ownsRow base E sz v n X := by
  refine ⟨h.1, ?_⟩
  rcases h.2 with k | ⟨g, cap, cur, e1, e2, e3, e4⟩
  · exact .inl k
  · exact .inr ⟨g, cap, cur, e1, e2, (hk g (by rw [e1]; rfl)).trans e3, e4⟩
theorem own_lt {w : World} {base sz n : Nat} {E : TypeId} {v : Value} {X : List Value} (h : w.ownsRow base E sz v n X) : ∀ g, v.ownBlock = some g → base ≤ g ∧ g < w.heap.size := by
  intro g hg
  rcases h.2 with ⟨k, _⟩ | ⟨g', cap, cur, e1, e2, e3, e4⟩
  · rw [k] at hg; cases hg
  · rw [e1] at hg
    injection hg with hg
    subst hg
    exact ⟨e2, (Array.getElem?_eq_some_iff.1 e3).1⟩
/-- A value reads as records. -/
def RecsAt (w : World) (v : Value) (rs : List (List UInt8)) : Prop := ∃ A n c vs, v = .slice A n c ∧ n = rs.length ∧ RowOf w 1 A n c vs ∧ RowSet w 0 none vs rs
theorem RecsAt.kept {w w' : World} {B : Nat} {v : Value} {rs : List (List UInt8)} (h : RecsAt w v rs) (hb : Below B w w') (hB : w.heap.size ≤ B) : RecsAt w' v rs := by
  obtain ⟨A, n, c, vs, h1, h2, h3, h4⟩ := h
  exact ⟨A, n, c, vs, h1, h2, h3.kept hb hB, h4.below hb hB⟩
/-- Records whose rows lie from a block on. -/
def RecsFrom (w : World) (base : Nat) (v : Value) (rs : List (List UInt8)) : Prop := ∃ A n c vs, v = .slice A n c ∧ n = rs.length ∧ RowOf w 1 A n c vs ∧ (∀ x, A = some x → base ≤ x.block) ∧ RowSet w base none vs rs
theorem RecsFrom.at {w : World} {base : Nat} {v : Value} {rs : List (List UInt8)} (h : RecsFrom w base v rs) : RecsAt w v rs := by
  obtain ⟨A, n, c, vs, h1, h2, h3, h4, h5⟩ := h
  exact ⟨A, n, c, vs, h1, h2, h3, h5.weak (Nat.zero_le _) (fun b hb => by cases hb)⟩
theorem RecsFrom.keep {w w' : World} {base : Nat} {v : Value} {rs : List (List UInt8)} (h : RecsFrom w base v rs) (hs : w.heap.size ≤ w'.heap.size) (hk : ∀ b, b < w.heap.size → base ≤ b → w'.heap[b]? = w.heap[b]?) : RecsFrom w' base v rs := by
  obtain ⟨A, n, c, vs, h1, h2, h3, h4, h5⟩ := h
  exact ⟨A, n, c, vs, h1, h2, h3.keep hs (fun x hx _ hl => hk _ hl (h4 x hx)), h4, h5.keep hs (fun b hb1 hb2 _ => hk b hb1 hb2)⟩
theorem RecsFrom.weak {w : World} {base base' : Nat} {v : Value} {rs : List (List UInt8)} (h : RecsFrom w base v rs) (hb : base' ≤ base) : RecsFrom w base' v rs := by
  obtain ⟨A, n, c, vs, h1, h2, h3, h4, h5⟩ := h
  exact ⟨A, n, c, vs, h1, h2, h3, fun x hx => Nat.le_trans hb (h4 x hx), h5.weak hb (fun b hb => by cases hb)⟩
theorem recs_nil (w : World) : RecsAt w (.slice none 0 0) [] := ⟨none, 0, 0, [], rfl, rfl, ⟨rfl, by omega, by omega, fun _ => rfl, fun x hx => by cases hx⟩, rowSet_nil _ _ _⟩
theorem recsFrom_nil (w : World) (base : Nat) : RecsFrom w base (.slice none 0 0) [] := ⟨none, 0, 0, [], rfl, rfl, ⟨rfl, by omega, by omega, fun _ => rfl, fun x hx => by cases hx⟩, (fun x hx => by cases hx), rowSet_nil _ _ _⟩
theorem infoBytes : (Tryd.prog.info? 28).map (fun i => (i.zero, i.size, i.bytes)) = some (some (.slice none 0 0), 1, 24) := by kernel_rfl
/-- A new block of one value, as a row. -/
theorem row_val (w : World) (v : Value) (t : TypeId) : RowOf (w.alloc (.cells #[v] t)) 1 (some ⟨w.heap.size, 0, none⟩) 1 1 [v] := by
  refine ⟨rfl, Nat.le_refl _, by omega, (fun h => by cases h), fun y hy _ => ?_⟩
  injection hy with hy; subst hy
  exact ⟨rfl, by simp, range_new w [v] t⟩
end Go.Proofs.YtbhjigejpdbeiaaDoor
end

section
/-
  The reference's Used: a half's records.
-/
namespace Go.Proofs.YtbhjigejpdbeiaaDoor
open Go.RowKit Go.Shelf
set_option linter.unusedVariables false
set_option maxRecDepth 8000

theorem ret_four {fn : Func} {a b c e : Tmp} (h : fn.results = #[.tmp a, .tmp b, .tmp c, .tmp e]) (tmps : Array Value) {P : Program} {w : World} :
    (results fn tmps).run P w = .ok (.tuple #[tmps.getD a undef, tmps.getD b undef, tmps.getD c undef, tmps.getD e undef]) w := by
  simp [results, h, Sem.run_bind]
theorem ret_three {fn : Func} {a b c : Tmp} (h : fn.results = #[.tmp a, .tmp b, .tmp c]) (tmps : Array Value) {P : Program} {w : World} :
    (results fn tmps).run P w = .ok (.tuple #[tmps.getD a undef, tmps.getD b undef, tmps.getD c undef]) w := by
  simp [results, h, Sem.run_bind]
theorem four_sum {e3 e4 e5 e6 N : Nat} (h3 : e3 < 256) (h4 : e4 < 256) (h5 : e5 < 256) (h6 : e6 < 256) (hN : N = e3 + 256 * (e4 + 256 * (e5 + 256 * e6))) :
    IntKind.i64.wrap ((e4 : Int) * 256) = (e4 : Int) * 256 ∧ IntKind.i64.wrap ((e5 : Int) * 65536) = (e5 : Int) * 65536 ∧ IntKind.i64.wrap ((e6 : Int) * 16777216) = (e6 : Int) * 16777216 ∧
    IntKind.i64.wrap ((e3 : Int) + (e4 : Int) * 256) = (e3 : Int) + (e4 : Int) * 256 ∧ IntKind.i64.wrap ((e3 : Int) + (e4 : Int) * 256 + (e5 : Int) * 65536) = (e3 : Int) + (e4 : Int) * 256 + (e5 : Int) * 65536 ∧
    IntKind.i64.wrap ((e3 : Int) + (e4 : Int) * 256 + (e5 : Int) * 65536 + (e6 : Int) * 16777216) = (N : Int) ∧ IntKind.i64.wrap (e3 : Int) = (e3 : Int) ∧ IntKind.i64.wrap (e4 : Int) = (e4 : Int) ∧ IntKind.i64.wrap (e5 : Int) = (e5 : Int) ∧ IntKind.i64.wrap (e6 : Int) = (e6 : Int) ∧ N < 4294967296 := by
  refine ⟨IntWalk.i64_in _ ?_, IntWalk.i64_in _ ?_, IntWalk.i64_in _ ?_, IntWalk.i64_in _ ?_, IntWalk.i64_in _ ?_, ?_, IntWalk.i64_in _ ?_, IntWalk.i64_in _ ?_, IntWalk.i64_in _ ?_, IntWalk.i64_in _ ?_, ?_⟩
  · omega
  · omega
  · omega
  · omega
  · omega
  · have e : (e3 : Int) + (e4 : Int) * 256 + (e5 : Int) * 65536 + (e6 : Int) * 16777216 = (N : Int) := by omega
    rw [e]
    exact IntWalk.i64_in _ (by omega)
  · omega
  · omega
  · omega
  · omega
  · omega
/-- What Used answers. -/
def UsedPost (d : Dk) (h : Nat) (w : World) (e : Ending) (w' : World) : Prop :=
  Below w.heap.size w w' ∧ match d.used h with
  | none => e = .returned (.tuple #[.slice none 0 0, .int .i64 0, .int .i64 0, .bool false])
  | some (rs, gen, u) => ∃ v, e = .returned (.tuple #[v, .int .i64 gen, .int .i64 (u : Int), .bool true]) ∧ RecsAt w' v rs ∧ RecsFrom w' w.heap.size v rs
theorem used_none {d : Dk} {h : Nat} {w w' : World} (hu : d.used h = none) (hb : Below w.heap.size w w') : UsedPost d h w (.returned (.tuple #[.slice none 0 0, .int .i64 0, .int .i64 0, .bool false])) w' := by
  refine ⟨hb, ?_⟩
  rw [hu]
/-- Between two rounds. -/
def UdRel (d : Dk) (h : Nat) (gen : Int) (N : Nat) (w5 : World) (R : Option (List (List UInt8) × Nat)) (v ix : Value) (wr : World) : Prop :=
  ∃ (i f : Nat) (vs : List Value) (acc : List (List UInt8)), ix = .int .i64 (i : Int) ∧ 1 ≤ i ∧ i ≤ d.half ∧ d.half + 2 ≤ f + i ∧ Hid (Below w5.heap.size w5 wr) ∧ acc.length < i ∧
    Hid (wr.ownsRow w5.heap.size 28 1 v vs.length vs) ∧ Hid (RowSet wr w5.heap.size v.ownBlock vs acc) ∧ Hid (R = d.readF h gen N f i acc)
set_option maxHeartbeats 2000000 in
theorem rused_f (w : World) (C : Array Value) (d : Dk) (h : Nat) (hd : DiskAt w (.agg C) d) (h4 : D4 C) (hh : h ≤ 1) (hrt : d.right = true) (hdn : d.down = false) (hpos : 1 ≤ d.half) (hL : LaidR w) :
    Calls Tryd.prog 45 #[.agg C, .int .i64 (h : Int)] w fun e w' => UsedPost d h w e w' := by
  have hbd := Jp.bounds_of_right hrt
  obtain ⟨As, cs, hc⟩ := box_secs hd
  have HHF := Lib.hid (show d.half ≤ 1024 by have : d.half = d.secs.length / 2 := rfl; omega)
  have HD := Lib.hid hd
  have HL := Lib.hid hL
  have HRT := Lib.hid hrt
  have HDN := Lib.hid hdn
  have HH4 := Lib.hid h4
  obtain ⟨w1, hw1⟩ : ∃ w1, w1 = w.alloc (.cells C 25) := ⟨_, rfl⟩
  have HB1 := Lib.hid (show Below w.heap.size w w1 by rw [hw1]; exact (Below.refl _ _).alloc (Nat.le_refl _) _)
  have HV := Lib.hid (show DVar w1 w.heap.size C by rw [hw1]; exact dvar_new w h4)
  have HC0 := Lib.hid (show w1.cell? ⟨w.heap.size, 0, none⟩ = some (.slice As d.secs.length cs) by rw [hw1, cell_of_new]; exact hc)
  have HW := Lib.hid hw1
  clear hd hL hbd hrt hdn h4 hw1 hc
  go_enter Tryd.func45, Tryd.ntmps45
  have HLK := Lib.hid (show Calls Tryd.prog 67 #[.agg C, .int .i64 (h : Int), .int .i64 0] w1 (fun e w' => SecOut (d.look ((h * d.half + 0 : Nat) : Int)) w1 e w') from rlook15_f w1 C d h 0 (HD.out.kept HB1.out (Nat.le_refl _)) HH4.out hh HRT.out HDN.out (by omega))
  have hl0 := HV.out.load
  rw [HW.out] at hl0
  go_wp2_with fail
  clear hl0
  rw [← HW.out]
  refine HLK.out.mono ?_
  clear HLK
  rintro e w2 ⟨rfl, hb2⟩
  obtain ⟨sc, hsc⟩ : ∃ sc, sc = d.look ((h * d.half + 0 : Nat) : Int) := ⟨_, rfl⟩
  rw [← hsc]
  have HSC := Lib.hid hsc
  have HB2 := Lib.hid hb2
  clear hsc hb2
  go_wp2_with fail
  refine (rsays_f w2 sc (HL.out.below (below_chain HB1.out HB2.out) HL.out.size)).mono ?_
  rintro e w3 ⟨v, p, rfl, hp, hpn, hfp, hp100, hb3⟩
  have HFP := Lib.hid hfp
  have HP100 := Lib.hid hp100
  have HB3 := Lib.hid hb3
  obtain ⟨A, n, c, rfl, hn, hrow⟩ := hp
  have HN := Lib.hid hn
  have HROW := Lib.hid hrow
  have hn100 : n ≤ 100 := by omega
  clear hfp hpn hp100 hb3 hn hrow
  go_upto_region 2 with fail
  obtain ⟨w4, hw4⟩ : ∃ w4, w4 = w3.alloc (.cells #[.int .i64 p.gen, .int .i64 p.index, .int .u8 p.marks.toNat, .slice A n c] 94) := ⟨_, rfl⟩
  obtain ⟨b8, hb8⟩ : ∃ b8, b8 = w3.heap.size := ⟨_, rfl⟩
  rw [← hw4, ← hb8]
  have HB4 := Lib.hid (show Below w3.heap.size w3 w4 by rw [hw4]; exact (Below.refl _ _).alloc (Nat.le_refl _) _)
  have HR4 := Lib.hid (show w4.rangeAt b8 0 (partC p.gen p.index p.marks.toNat A n c) by rw [hw4, hb8]; exact range_new w3 (partC p.gen p.index p.marks.toNat A n c) 94)
  have HROW4 := Lib.hid (HROW.out.kept HB4.out (Nat.le_refl _))
  have HB14 := Lib.hid (below_chain HB2.out (below_chain HB3.out HB4.out))
  have HNONE := Lib.hid (show d.used h = none → UsedPost d h w (.returned (.tuple #[.slice none 0 0, .int .i64 0, .int .i64 0, .bool false])) w4 from fun hu => used_none hu (below_chain HB1.out HB14.out))
  clear hw4 hb8 HROW
  have HUSED := Lib.hid (show d.used h = if goodS sc && decide (p.index = 0) then (match Dk.header p with | none => none | some n => if n < d.half then (match d.readF h p.gen n (d.half + 1) 1 [] with | none => none | some (l, i) => some (l, p.gen, i)) else none) else none by
    rw [Dk.used, at_is (show 0 < d.half by omega) (show d.look ((h * d.half + 0 : Nat) : Int) = sc from HSC.out.symm)]
    cases hg : goodS sc with
    | false => rfl
    | true =>
      rw [← HFP.out hg]
      by_cases q : p.index = 0
      · simp [q]; rfl
      · simp [q])
  have HHD := Lib.hid (show Dk.header p = if decide (p.marks.toNat = 3) && decide (n = 7) && decide (p.data.take 3 = [108, 111, 103]) then some (toldB (p.data.drop 3)) else none by
    rw [Dk.header, HN.out]
    by_cases q : p.marks = 3 ∧ p.data.length = 7 ∧ p.data.take 3 = [108, 111, 103]
    · rw [if_pos q, if_pos]; simp [q]
    · rw [if_neg q, if_neg]
      intro e
      apply q
      simp only [Bool.and_eq_true, decide_eq_true_eq] at e
      exact ⟨by rw [← UInt8.toNat_inj]; exact e.1.1, e.1.2, e.2⟩)
  obtain ⟨q0, q1, q2, q3⟩ := part_cells HR4.out
  generalize goodS sc = ok at *
  cases ok
  case false =>
    have HU := Lib.hid (show d.used h = none from HUSED.out)
    go_wp2_with fail
    refine bodyPost_ret (ret_four rfl _) rfl ?_
    exact HNONE.out HU.out
  by_cases hix : p.index = 0
  case neg =>
    have hd1 : (p.index != 0) = true := by rw [bne_iff_ne]; exact hix
    have HU := Lib.hid (show d.used h = none by rw [HUSED.out]; simp [hix])
    clear hix
    go_wp2_with fail
    refine bodyPost_ret (ret_four rfl _) rfl ?_
    exact HNONE.out HU.out
  have hd1 : (p.index != 0) = false := by rw [hix]; rfl
  by_cases h3 : p.marks.toNat = 3
  case neg =>
    have hd2 : ((p.marks.toNat : Int) != 3) = true := by rw [bne_iff_ne]; omega
    have HU := Lib.hid (show d.used h = none by rw [HUSED.out, HHD.out]; simp [h3])
    clear h3 hix
    go_wp2_with fail
    refine bodyPost_ret (ret_four rfl _) rfl ?_
    exact HNONE.out HU.out
  have hd2 : ((p.marks.toNat : Int) != 3) = false := by rw [h3]; rfl
  by_cases h7 : n = 7
  case neg =>
    have hd3 : ((n : Int) != 7) = true := by rw [bne_iff_ne]; omega
    have HU := Lib.hid (show d.used h = none by rw [HUSED.out, HHD.out]; simp [h7])
    clear h3 h7 hix
    go_wp2_with fail
    refine bodyPost_ret (ret_four rfl _) rfl ?_
    exact HNONE.out HU.out
  subst h7
  have HROW5 := Lib.hid HROW4.out
  obtain ⟨l1, l2, l3, l4, l5⟩ := HROW4.out
  have hcut : (Instr.slice 28 (.slice A 7 c) none (some (.int .i64 3)) none).run Tryd.prog w4 = .ok (.slice A 3 c) w4 := by
    go_simp
    intro hlt
    omega
  clear l1 l2 l3 l4 l5
  have hcv := str_of_row w4 A 3 c (p.data.take 3) (row_take HROW4.out 3 (by omega))
  by_cases hlog : p.data.take 3 = [108, 111, 103]
  case neg =>
    have HU := Lib.hid (show d.used h = none by rw [HUSED.out, HHD.out]; simp [hlog])
    have hlg : (p.data.take 3 == [108, 111, 103]) = false := by simp [hlog]
    clear h3 hix hlog
    go_wp2_with fail
    refine bodyPost_ret (ret_four rfl _) rfl ?_
    exact HNONE.out HU.out
  rw [hlog] at hcv
  obtain ⟨N, hN⟩ : ∃ N, N = toldB (p.data.drop 3) := ⟨_, rfl⟩
  have HHD2 := Lib.hid (show Dk.header p = some N by rw [HHD.out, hN]; simp [h3, hlog])
  have HUSED2 := Lib.hid (show d.used h = if N < d.half then (match d.readF h p.gen N (d.half + 1) 1 [] with | none => none | some (l, i) => some (l, p.gen, i)) else none by
    rw [HUSED.out, HHD2.out]; simp [hix])
  obtain ⟨ba, oa, rfl, hba, hxa⟩ := row_at HROW5.out (by omega)
  obtain ⟨d3, d4, d5, d6, hdd⟩ : ∃ d3 d4 d5 d6, p.data.drop 3 = [d3, d4, d5, d6] := by
    have hl : (p.data.drop 3).length = 4 := by rw [List.length_drop, ← HN.out]
    generalize p.data.drop 3 = l at hl
    match l, hl with
    | [a, b, c, d], _ => exact ⟨a, b, c, d, rfl⟩
  have hcell : ∀ j x, [d3, d4, d5, d6][j]? = some x → w4.cell? ⟨ba, oa + (3 + j), none⟩ = some (.int .u8 x.toNat) := fun j x hj => hxa (3 + j) _ (by
    rw [Lib.byteCells, List.getElem?_map, ← List.getElem?_drop, hdd, hj]; rfl)
  have c3 := hcell 0 d3 rfl
  have c4 := hcell 1 d4 rfl
  have c5 := hcell 2 d5 rfl
  have c6 := hcell 3 d6 rfl
  rw [hdd] at hN
  have hN' : N = d3.toNat + 256 * (d4.toNat + 256 * (d5.toNat + 256 * d6.toNat)) := by rw [hN]; simp [toldB]
  have hx3 := d3.toNat_lt
  have hx4 := d4.toNat_lt
  have hx5 := d5.toNat_lt
  have hx6 := d6.toNat_lt
  generalize d3.toNat = e3 at *
  generalize d4.toNat = e4 at *
  generalize d5.toNat = e5 at *
  generalize d6.toNat = e6 at *
  obtain ⟨t1, t2, t3, t4, t5, t6, t7, t8, t9, t10, hNlt⟩ := four_sum hx3 hx4 hx5 hx6 hN'
  clear hcell hxa hdd hN hN' h3 hix hlog
  go_wp2_with fail
  clear hcut hcv hd1 hd2
  go_quiet (fail)
  rename Nat => nq
  have hbq := below_drewN (Below.refl w4.heap.size w4) nq
  clear t1 t2 t3 t4 t5 t6 t7 t8 t9 t10 c3 c4 c5 c6 q0 q1 q2 q3 hx3 hx4 hx5 hx6
  have HR5 := Lib.hid (show (w4.drewN nq).rangeAt b8 0 (partC p.gen p.index p.marks.toNat (some ⟨ba, oa, none⟩) 7 c) from HR4.out)
  have HB15 := Lib.hid (below_chain HB14.out hbq)
  obtain ⟨w5, hw5⟩ : ∃ w5, w5 = w4.drewN nq := ⟨_, rfl⟩
  rw [← hw5] at HR5 HB15 ⊢
  have HNONE := Lib.hid (show d.used h = none → ∀ W, Below w5.heap.size w5 W → UsedPost d h w (.returned (.tuple #[.slice none 0 0, .int .i64 0, .int .i64 0, .bool false])) W from fun hu W hW => used_none hu (below_chain HB1.out (below_chain HB15.out hW)))
  have HV5 := Lib.hid (HV.out.below HB15.out HV.out.lt)
  have hc5 := (HB15.out.cell (p := ⟨w.heap.size, 0, none⟩) HV.out.lt).trans HC0.out
  have hd2 : (d.secs.length : Int) / 2 = (d.half : Int) := rfl
  have hsn : d.secs.length ≤ 2048 := (Jp.bounds_of_right HRT.out).2.1
  have hhf : d.half ≤ 1024 := HHF.out
  generalize d.secs.length = sn at *
  clear hw5 hbq
  by_cases hNh : N < d.half
  case neg =>
    have hgt : decide ((d.half : Int) - 1 < (N : Int)) = true := by simp; omega
    have HU := Lib.hid (show d.used h = none by rw [HUSED2.out, if_neg hNh])
    clear hNh
    go_wp2_with fail
    refine bodyPost_ret (ret_four rfl _) rfl ?_
    exact HNONE.out HU.out _ (Below.refl _ _)
  have hgt : decide ((d.half : Int) - 1 < (N : Int)) = false := by simp; omega
  have HUSED3 := Lib.hid (HUSED2.out.trans (if_pos hNh))
  obtain ⟨R, hR⟩ : ∃ R, R = d.readF h p.gen N (d.half + 1) 1 [] := ⟨_, rfl⟩
  rw [← hR] at HUSED3
  have HRD := Lib.hid hR
  have HNH := Lib.hid hNh
  clear hR hNh
  go_wp2_with fail
  clear hgt hd2 hc5
  go_loopw [11, 12] (fun v ix wr => UdRel d h p.gen N w5 R v ix wr) (fun v ix wr => d.half + 1 - (intOf ix).toNat)
  case atStart =>
    exact ⟨1, d.half + 1, [], [], rfl, by omega, by omega, by omega, Lib.hid (Below.refl _ _), by simp, Lib.hid (World.ownsRow_nil w5 w5.heap.size 28 1), Lib.hid (rowSet_nil _ _ _), HRD⟩
  case round =>
    obtain ⟨i, f, vs, acc, rfl, hi1, hi2, hf, HBR, hac, HO, HRS, HF⟩ := hrel
    obtain ⟨Av, cv, rfl, hrowv, hlov⟩ := row_of_own HO.out
    have HROWV := Lib.hid hrowv
    have HLOV := Lib.hid hlov
    have HVL := Lib.hid (show vs.length = acc.length from HRS.out.len)
    have HOL := Lib.hid (own_lt HO.out)
    have HFF := Lib.hid (show ∃ f', f = f' + 1 from ⟨f - 1, by omega⟩)
    have HLW := Lib.hid (HL.out.below (below_chain HB1.out (below_chain HB15.out HBR.out)) HL.out.size)
    have hl0 := (HV5.out.below HBR.out HV5.out.lt).load
    obtain ⟨q0, q1, q2, q3⟩ := part_cells (range_below HR5.out HBR.out (range_lt HR5.out (by simp [partC])))
    clear hrowv hlov
    generalize hvl : vs.length = L at *
    have HVLL := Lib.hid hvl
    clear hvl
    go_wp2_with fail
    refine (rone_f wr C d h p.gen i (HD.out.kept (below_chain HB1.out (below_chain HB15.out HBR.out)) (Nat.le_refl _)) HH4.out hh HRT.out HDN.out (by omega) HLW.out).mono ?_
    rintro e W2 ⟨hb2, hpost⟩
    have HBW2 := Lib.hid (below_chain HBR.out hb2)
    have HB22 := Lib.hid hb2
    clear hb2 hl0 q0 q1 q2 q3
    obtain ⟨q0, q1, q2, q3⟩ := part_cells (range_below HR5.out HBW2.out (range_lt HR5.out (by simp [partC])))
    cases hone : d.one h p.gen i with
    | none =>
      rw [hone] at hpost
      subst hpost
      have HRS' := Lib.hid (show R = if i ≤ N then none else some (acc, i) by
        obtain ⟨f', rfl⟩ := HFF.out
        rw [HF.out, Dk.readF, hone])
      clear hone
      by_cases hin : i ≤ N
      case pos =>
        have hlt : decide ((i : Int) < (N : Int) + 1) = true := by simp; omega
        have HU := Lib.hid (show d.used h = none by rw [HUSED3.out, HRS'.out, if_pos hin])
        clear hin
        go_wp2_with fail
        refine bodyPost_ret (ret_four rfl _) rfl ?_
        exact HNONE.out HU.out _ HBW2.out
      have hlt : decide ((i : Int) < (N : Int) + 1) = false := by simp; omega
      have HRR := Lib.hid (show R = some (acc, i) by rw [HRS'.out, if_neg hin])
      clear hin
      go_wp2_with fail
      go_quiet (fail)
      rename Nat => nr
      have hbr := below_drewN (Below.refl W2.heap.size W2) nr
      go_wp2_with fail
      refine bodyPost_ret (ret_four rfl _) rfl ?_
      refine (show UsedPost d h w (.returned (.tuple #[.slice Av L cv, .int .i64 p.gen, .int .i64 (i : Int), .bool true])) (W2.drewN nr) from ⟨below_chain HB1.out (below_chain HB15.out (below_chain HBW2.out hbr)), ?_⟩)
      rw [HUSED3.out, HRR.out]
      have hF : RecsFrom (W2.drewN nr) w.heap.size (.slice Av L cv) acc := by
        refine ⟨Av, L, cv, vs, rfl, HVL.out, ?_, ?_, ?_⟩
        · exact HROWV.out.kept (below_chain HB22.out hbr) (Nat.le_refl _)
        · intro x hx
          have := HLOV.out x hx
          have := HB1.out.size
          have := HB15.out.size
          omega
        · exact (HRS.out.below (below_chain HB22.out hbr) (Nat.le_refl _)).weak (by have := HB1.out.size; have := HB15.out.size; omega) (fun b hb => by cases hb)
      exact ⟨_, rfl, hF.at, hF⟩
    | some x =>
      obtain ⟨r, j⟩ := x
      rw [hone] at hpost
      obtain ⟨A', n', c', rfl, hn', hrow', hfr⟩ := hpost
      have HN' := Lib.hid hn'
      have HROW' := Lib.hid hrow'
      have HFR := Lib.hid hfr
      have HJ := Lib.hid (Jp.one_bounds hone)
      have HRS' := Lib.hid (show ∃ f', f = f' + 1 ∧ R = if i ≤ N ∧ N + 1 < j then none else d.readF h p.gen N f' j (acc ++ [r]) by
        obtain ⟨f', rfl⟩ := HFF.out
        refine ⟨f', rfl, ?_⟩
        rw [HF.out, Dk.readF, hone])
      clear hone hn' hrow' hfr
      have hneg : decide ((j : Int) < 0) = false := by simp
      have HSZ2 := Lib.hid (show w5.heap.size ≤ W2.heap.size from HBW2.out.size)
      have HO2 := Lib.hid (own_below HO.out HB22.out (Nat.le_refl _))
      have HBASE := Lib.hid (show w5.heap.size ≤ (W2.alloc (.cells #[.slice A' n' c'] 28)).heap.size by have := HSZ2.out; simp; omega)
      have HO3 := Lib.hid (own_below HO2.out ((Below.refl W2.heap.size W2).alloc (Nat.le_refl _) (.cells #[.slice A' n' c'] 28)) (Nat.le_refl _))
      have HNEW := Lib.hid (row_val W2 (.slice A' n' c') 28)
      have HONE1 := Lib.hid (show ∀ u ∈ [Value.slice A' n' c'], u.oneCell' = true from fun u hu => by simp at hu; subst hu; rfl)
      have hL2 : L ≤ 2000 := by have := HVL.out; omega
      have HEND := Lib.hid (show ¬ (i ≤ N ∧ N + 1 < j) → ∀ (A9 : Option Addr) (c9 : Nat) (w9 : World), w9.ownsRow w5.heap.size 28 1 (.slice A9 (L + 1) c9) (L + 1) (vs ++ [.slice A' n' c']) → (W2.alloc (.cells #[.slice A' n' c'] 28)).grownBy w9 (Value.slice Av L cv).ownBlock →
          ((Value.slice A9 (L + 1) c9).ownBlock = (Value.slice Av L cv).ownBlock ∨ ∀ g, (Value.slice A9 (L + 1) c9).ownBlock = some g → W2.heap.size + 1 ≤ g) →
          UdRel d h p.gen N w5 R (.slice A9 (L + 1) c9) (.int .i64 (j : Int)) w9 from by
        intro hcond A9 c9 w9 hO9 hG9 hF9
        obtain ⟨f', hf', hR'⟩ := HRS'.out
        rw [if_neg hcond] at hR'
        have hR3 : RowSet (W2.alloc (.cells #[.slice A' n' c'] 28)) w5.heap.size (Value.slice Av L cv).ownBlock vs acc := HRS.out.below (below_chain HB22.out ((Below.refl W2.heap.size W2).alloc (Nat.le_refl _) _)) (Nat.le_refl _)
        have hR9 : RowSet w9 w5.heap.size (Value.slice A9 (L + 1) c9).ownBlock vs acc := hR3.turn hG9.size (fun b hb1 _ hb3 => hG9.block b hb1 (fun e => hb3 e.symm)) (fun b hb => by
          rcases hF9 with q | q
          · right; rw [← q]; exact hb
          · left; simp; exact q b hb)
        have hrow : RowOf w9 1 A' n' c' (Lib.byteCells r) := by
          have h3 := HROW'.out.kept ((Below.refl W2.heap.size W2).alloc (Nat.le_refl _) (.cells #[.slice A' n' c'] 28)) (Nat.le_refl _)
          exact h3.keep hG9.size (fun x hx h0 hl => hG9.block _ hl (fun e => by have := HOL.out _ e.symm; have := HFR.out x hx; omega))
        have hR10 := hR9.snoc HN'.out hrow (fun x hx h0 => by
          have q1 := HFR.out x hx
          have q2 := (HROW'.out.2.2.2.2 x hx h0).2.1
          refine ⟨by have := HBR.out.size; omega, fun e => ?_⟩
          rcases hF9 with q | q
          · rw [q] at e
            have := HOL.out _ e
            omega
          · have := q _ e
            omega)
        have hB9 : Below w5.heap.size w5 w9 := (below_chain HBW2.out ((Below.refl W2.heap.size W2).alloc (Nat.le_refl _) _)).grown hG9 (by have := HSZ2.out; simp; omega) (fun q e => (HOL.out q e).1)
        have hO10 : w9.ownsRow w5.heap.size 28 1 (.slice A9 (L + 1) c9) (vs ++ [Value.slice A' n' c']).length (vs ++ [.slice A' n' c']) := by
          rw [List.length_append, HVLL.out, List.length_singleton]
          exact hO9
        exact ⟨j, f', _, _, rfl, by have := HJ.out; omega, HJ.out.2.1, by have := HJ.out; omega, Lib.hid hB9, by rw [List.length_append, List.length_singleton]; have := HJ.out; omega, Lib.hid hO10, Lib.hid hR10, Lib.hid hR'⟩)
      by_cases hin : i ≤ N
      case neg =>
        have hlt : decide ((i : Int) < (N : Int) + 1) = false := by simp; omega
        go_wp2_with (at_builtin; refine list_of_step rfl (step_append_two rfl (.tmp 103) (.tmp 105) 38 28 rfl Tryd.underlying38 w5.heap.size (.slice none 0 0) 1 24 infoBytes rfl (by decide) (.slice Av L cv) L vs rfl HO3.out (some ⟨W2.heap.size, 0, none⟩) 1 1 [.slice A' n' c'] rfl HNEW.out HONE1.out (by omega) (by decide) HBASE.out ?_))
        intro v' w9 k1 k2 k3
        have HO9 := Lib.hid k1
        have HG9 := Lib.hid k2
        have HF9 := Lib.hid k3
        obtain ⟨A9, c9, rfl, hrow9, hlo9⟩ := row_of_own k1
        clear k1 k2 k3 hrow9 hlo9
        have HNX := Lib.hid (HEND.out (by omega) A9 c9 w9 HO9.out HG9.out HF9.out)
        go_wp2_with fail
        go_roundw
        case rel => exact HNX.out
        case measure =>
          have := HJ.out
          simp [intOf]
          omega
      have hlt : decide ((i : Int) < (N : Int) + 1) = true := by simp; omega
      by_cases hjn : N + 1 < j
      case pos =>
        have hgt : decide ((N : Int) + 1 < (j : Int)) = true := by simp; omega
        have HU := Lib.hid (show d.used h = none by
          obtain ⟨f', _, e⟩ := HRS'.out
          rw [HUSED3.out, e, if_pos ⟨hin, hjn⟩])
        clear hin hjn
        go_wp2_with fail
        refine bodyPost_ret (ret_four rfl _) rfl ?_
        exact HNONE.out HU.out _ HBW2.out
      have hgt : decide ((N : Int) + 1 < (j : Int)) = false := by simp; omega
      go_wp2_with (at_builtin; refine list_of_step rfl (step_append_two rfl (.tmp 103) (.tmp 105) 38 28 rfl Tryd.underlying38 w5.heap.size (.slice none 0 0) 1 24 infoBytes rfl (by decide) (.slice Av L cv) L vs rfl HO3.out (some ⟨W2.heap.size, 0, none⟩) 1 1 [.slice A' n' c'] rfl HNEW.out HONE1.out (by omega) (by decide) HBASE.out ?_))
      intro v' w9 k1 k2 k3
      have HO9 := Lib.hid k1
      have HG9 := Lib.hid k2
      have HF9 := Lib.hid k3
      obtain ⟨A9, c9, rfl, hrow9, hlo9⟩ := row_of_own k1
      clear k1 k2 k3 hrow9 hlo9
      have HNX := Lib.hid (HEND.out (by omega) A9 c9 w9 HO9.out HG9.out HF9.out)
      go_wp2_with fail
      go_roundw
      case rel => exact HNX.out
      case measure =>
        have := HJ.out
        simp [intOf]
        omega
end Go.Proofs.YtbhjigejpdbeiaaDoor
end
