import Derived.Test.YtbhjigejpdbeiaaDoorZKSz
import Derived.Lib.BufferRead
import Derived.Laws.IdiomStrings
set_option linter.unusedSimpArgs false
set_option linter.unusedVariables false

section
/-
  Bytes as a string; bytes.Equal, HasPrefix, CutPrefix.
-/
namespace Go.Proofs.YtbhjigejpdbeiaaDoor
open Go.RowKit Go.Shelf
set_option linter.unusedVariables false
set_option maxRecDepth 8000

theorem str_of_row (w : World) (A : Option Addr) (n c : Nat) (l : List UInt8) (h : RowOf w 1 A n c (Lib.byteCells l)) : (convert 28 9 (.slice A n c)).run Tryd.prog w = .ok (.string ⟨l.toArray⟩) w := by
  obtain ⟨h1, h2, h3, h4, h5⟩ := h
  rw [Lib.byteCells_length, Nat.mul_one] at h1
  subst h1
  cases A with
  | none =>
    have hc := h4 rfl
    have : l = [] := List.eq_nil_of_length_eq_zero (by omega)
    subst this
    exact Lib.run_convert_nil_bytes w 28 9 5 c Tryd.underlying28 Tryd.underlying5 Tryd.underlying9
  | some x =>
    refine run_convert_bytes_back w 28 9 5 x c l Tryd.underlying28 Tryd.underlying5 Tryd.underlying9 ?_
    intro j hj
    obtain ⟨hs, hb, hc⟩ := h5 x rfl (by omega)
    obtain ⟨b, o, sp⟩ := x
    obtain rfl : sp = none := hs
    rw [add_none]
    exact hc j _ (by rw [Lib.byteCells, List.getElem?_map, List.getElem?_eq_getElem hj]; rfl)
theorem bequal_f (w : World) (A A' : Option Addr) (n c n' c' : Nat) (x y : List UInt8) (h : RowOf w 1 A n c (Lib.byteCells x)) (h' : RowOf w 1 A' n' c' (Lib.byteCells y)) :
    Calls Tryd.prog 97 #[.slice A n c, .slice A' n' c'] w fun e w' => e = .returned (.bool (x == y)) ∧ w' = w := by
  have h1 := str_of_row w A n c x h
  have h2 := str_of_row w A' n' c' y h'
  clear h h'
  go_enter Tryd.func97, Tryd.ntmps97
  go_wp2
  go_ret
  exact ⟨rfl, rfl⟩
theorem row_take {w : World} {A : Option Addr} {n c : Nat} {l : List UInt8} (h : RowOf w 1 A n c (Lib.byteCells l)) (k : Nat) (hk : k ≤ n) : RowOf w 1 A k c (Lib.byteCells (l.take k)) := by
  obtain ⟨h1, h2, h3, h4, h5⟩ := h
  rw [Lib.byteCells_length, Nat.mul_one] at h1
  refine ⟨by rw [Lib.byteCells_length, List.length_take]; omega, by omega, h3, h4, fun x hx h0 => ?_⟩
  obtain ⟨k1, k2, k3⟩ := h5 x hx (by omega)
  exact ⟨k1, k2, range_take k k3⟩
/-- 'prefix' is three bytes long. -/
theorem hasPrefix_f (w : World) (A A' : Option Addr) (n c c' : Nat) (x y : List UInt8) (h : RowOf w 1 A n c (Lib.byteCells x)) (h' : RowOf w 1 A' 3 c' (Lib.byteCells y)) (hn : n ≤ 100) :
    Calls Tryd.prog 81 #[.slice A n c, .slice A' 3 c'] w fun e w' => e = .returned (.bool (decide (3 ≤ n) && (x.take 3 == y))) ∧ w' = w := by
  have hnc := h.2.1
  by_cases h3 : 3 ≤ n
  · have hd : decide ((3 : Int) ≤ (n : Int)) = true := by simp; omega
    have HE := Lib.hid (bequal_f w A A' 3 c 3 c' (x.take 3) y (row_take h 3 h3) h')
    have HD := Lib.hid (show decide (3 ≤ n) = true by simp [h3])
    have hc3 : 3 ≤ c := by omega
    have hcc := h.2.2.1
    have hcut : (Instr.slice 28 (.slice A n c) none (some (.int .i64 3)) none).run Tryd.prog w = .ok (.slice A 3 c) w := by
      go_simp
      intro hlt
      omega
    clear h h'
    go_enter Tryd.func81, Tryd.ntmps81
    go_wp2_with fail
    refine HE.out.mono ?_
    rintro e w' ⟨rfl, rfl⟩
    go_wp2
    go_ret
    refine ⟨?_, rfl⟩
    rw [HD.out]; rfl
  · have hd : decide ((3 : Int) ≤ (n : Int)) = false := by simp; omega
    have HD := Lib.hid (show decide (3 ≤ n) = false by simp [h3])
    clear h h'
    go_enter Tryd.func81, Tryd.ntmps81
    go_wp2
    go_ret
    refine ⟨?_, rfl⟩
    rw [HD.out]; rfl
theorem row_drop {w : World} {A : Option Addr} {n c : Nat} {l : List UInt8} (h : RowOf w 1 A n c (Lib.byteCells l)) (k : Nat) (hk : k < c) (hkn : k ≤ n) : RowOf w 1 (A.map fun a => ⟨a.block, a.off + k, a.spot⟩) (n - k) (c - k) (Lib.byteCells (l.drop k)) := by
  obtain ⟨h1, h2, h3, h4, h5⟩ := h
  rw [Lib.byteCells_length, Nat.mul_one] at h1
  refine ⟨by rw [Lib.byteCells_length, List.length_drop]; omega, by omega, by omega, fun h => ?_, fun x hx h0 => ?_⟩
  · cases A with
    | none => have := h4 rfl; omega
    | some a => cases h
  · cases A with
    | none => cases hx
    | some a =>
      injection hx with hx
      subst hx
      obtain ⟨k1, k2, k3⟩ := h5 a rfl (by omega)
      refine ⟨k1, k2, fun j v hv => ?_⟩
      show w.cell? ⟨a.block, a.off + k + j, none⟩ = some v
      rw [Nat.add_assoc]
      refine k3 (k + j) v ?_
      rw [Lib.byteCells, List.getElem?_map, List.getElem?_drop] at hv
      rw [Lib.byteCells, List.getElem?_map, hv]
/-- What lies behind three bytes. -/
theorem cutPrefix_f (w : World) (A A' : Option Addr) (n c c' : Nat) (x y : List UInt8) (h : RowOf w 1 A n c (Lib.byteCells x)) (h' : RowOf w 1 A' 3 c' (Lib.byteCells y)) (hn : n ≤ 100) :
    Calls Tryd.prog 64 #[.slice A n c, .slice A' 3 c'] w fun e w' => (∃ B m k, e = .returned (.tuple #[.slice B m k, .bool (decide (3 ≤ n) && (x.take 3 == y))]) ∧
      ((decide (3 ≤ n) && (x.take 3 == y)) = true → m = n - 3 ∧ RowOf w 1 B m k (Lib.byteCells (x.drop 3)))) ∧ w' = w := by
  have HH := Lib.hid (hasPrefix_f w A A' n c c' x y h h' hn)
  have hnc := h.2.1
  have hcc := h.2.2.1
  have HR := Lib.hid h
  generalize hb : (decide (3 ≤ n) && (x.take 3 == y)) = b at *
  have h3 : b = true → 3 ≤ n := fun e => by rw [e, Bool.and_eq_true, decide_eq_true_eq] at hb; exact hb.1
  clear h h' hb
  cases b with
  | false =>
    go_enter Tryd.func64, Tryd.ntmps64
    go_wp2_with fail
    refine HH.out.mono ?_
    rintro e w' ⟨rfl, rfl⟩
    go_wp2
    go_ret2
    exact ⟨⟨A, n, c, rfl, fun h => by cases h⟩, rfl⟩
  | true =>
    have hn3 : 3 ≤ n := h3 rfl
    clear h3
    obtain ⟨B, hB⟩ : ∃ B, B = (if c = 3 then A else A.map fun a => ⟨a.block, a.off + 3, a.spot⟩) := ⟨_, rfl⟩
    have HOUT := Lib.hid (show RowOf w 1 B (n - 3) (c - 3) (Lib.byteCells (x.drop 3)) by
      rw [hB]
      by_cases hc : c = 3
      · rw [if_pos hc]
        obtain rfl : n = 3 := by omega
        have hx : x.length = 3 := by have := HR.out.1; rw [Lib.byteCells_length] at this; omega
        rw [List.drop_eq_nil_of_le (by omega)]
        exact ⟨rfl, by omega, by omega, fun _ => by omega, fun y _ h0 => by omega⟩
      · rw [if_neg hc]
        exact row_drop HR.out 3 (by omega) hn3)
    have hcut : (Instr.slice 28 (.slice A n c) (some (.int .i64 3)) none none).run Tryd.prog w = .ok (.slice B (n - 3) (c - 3)) w := by
      have hAB : (if c = 3 then A else A.map fun a => a.add 3) = B := by
        rw [hB]
        by_cases hc : c = 3
        · rw [if_pos hc, if_pos hc]
        · rw [if_neg hc, if_neg hc]
          cases A with
          | none => rfl
          | some a =>
            obtain ⟨k1, k2, k3⟩ := HR.out.2.2.2.2 a rfl (by omega)
            obtain ⟨b, o, sp⟩ := a
            obtain rfl : sp = none := k1
            rw [Option.map_some, Option.map_some, add_none]
      rw [← hAB]
      have q1 : ¬ ((n : Int) < 3) := by omega
      go_simp
    clear hB
    go_enter Tryd.func64, Tryd.ntmps64
    go_wp2_with fail
    refine HH.out.mono ?_
    rintro e w' ⟨rfl, rfl⟩
    go_wp2
    go_ret2
    exact ⟨⟨B, n - 3, c - 3, rfl, fun _ => ⟨rfl, HOUT.out⟩⟩, rfl⟩
end Go.Proofs.YtbhjigejpdbeiaaDoor
end

section
/-
  append that tells where its row lies; rows of rows of bytes.
-/
namespace Go.Proofs.YtbhjigejpdbeiaaDoor
open Go.RowKit Go.Shelf
set_option linter.unusedVariables false
set_option maxRecDepth 8000

theorem list_of_step {w : World} {ops : Array Oper} {rest : List Oper} {o : Oper} {a : Act} {Q : Exit → Act → World → Prop} (hgd : o.guard = none)
    (h : if Region.wanted o (yielded ops a.tmps) = true then Oper.wp Tryd.prog o a w (wpList Tryd.prog ops Q rest) Q else True) : wpList Tryd.prog ops Q (o :: rest) a w := by
  have hw : Region.wanted o (yielded ops a.tmps) = true := by simp [Region.wanted, hgd]
  rw [if_pos hw] at h
  rw [wpList, if_pos hw]
  exact .inl h
theorem step_append_two {w : World} {ops : Array Oper} {o : Oper} {a : Act} {K : Act → World → Prop} {Q : Exit → Act → World → Prop} {Z : Prop} (hgd : o.guard = none) (s x : Operand) (T E : TypeId)
    (ho : o.op = .call { callee := .builtin .append, args := #[s, x], argTypes := #[T, T] }) (ht : Tryd.prog.underlying T = some (.slice E))
    (base : Nat) (z : Value) (size bytes : Nat) (hinf : (Tryd.prog.info? E).map (fun i => (i.zero, i.size, i.bytes)) = some (some z, size, bytes)) (hzs : z.cells.size = size) (hsz : 0 < size)
    (v : Value) (n : Nat) (xs : List Value) (hs : a.eval s = v) (hown : w.ownsRow base E size v n xs)
    (A : Option Addr) (m c : Nat) (X : List Value) (hx : a.eval x = .slice A m c) (hr : RowOf w size A m c X) (h1 : ∀ u ∈ X, u.oneCell' = true)
    (h63 : n + m ≤ 1000000) (hbytes : bytes ≤ 100000) (hbase : base ≤ w.heap.size)
    (h : ∀ v' w', w'.ownsRow base E size v' (n + m) (xs ++ X) → w.grownBy w' v.ownBlock → (v'.ownBlock = v.ownBlock ∨ ∀ g, v'.ownBlock = some g → w.heap.size ≤ g) → K (a.put o.dst v') w') :
    if Region.wanted o (yielded ops a.tmps) = true then Oper.wp Tryd.prog o a w K Q else Z := by
  have hw : Region.wanted o (yielded ops a.tmps) = true := by simp [Region.wanted, hgd]
  obtain ⟨i, hi, hz, hsize, hby⟩ := info_parts hinf
  obtain ⟨h2, h3, h4, h5, h6⟩ := hr
  cases A with
  | none =>
    rw [if_pos hw]
    have hc0 : c = 0 := h5 rfl
    subst hc0
    have hm0 : m = 0 := by omega
    subst hm0
    have hX : X = [] := List.eq_nil_of_length_eq_zero (by simpa using h2)
    subst hX
    have hrun := run_append_owned_none (P := Tryd.prog) (w := w) base T o.type E i size ht hi v n xs hown
    have hk := h v w (by simpa using hown) (World.grownBy.refl w _) (.inl rfl)
    unfold Oper.wp
    simp [execOp, ho, resolve, invoke, builtin, hs, hx, hrun, Result.andThen]
    exact hk
  | some ad =>
    have hnews : ∀ j u, X[j]? = some u → w.cell? (ad.add j) = some u := by
      intro j u hj
      have hj' := (List.getElem?_eq_some_iff.1 hj).1
      have hm0 : 0 < m := by
        rcases Nat.eq_zero_or_pos m with h | h
        · subst h; simp at h2; subst h2; simp at hj'
        · exact h
      obtain ⟨k1, k2, k3⟩ := h6 ad rfl hm0
      obtain ⟨b, of, sp⟩ := ad
      obtain rfl : sp = none := k1
      rw [add_none]
      exact k3 j u hj
    have hfresh : ∀ {v' : Value} {w' : World}, w'.ownsRow w.heap.size E size v' (n + m) (xs ++ X) → w'.ownsRow base E size v' (n + m) (xs ++ X) ∧ ∀ g, v'.ownBlock = some g → w.heap.size ≤ g := by
      intro v' w' k1
      refine ⟨⟨k1.1, ?_⟩, fun g hg => ?_⟩
      · rcases k1.2 with k | ⟨g', cap', cur, e1, e2, e3⟩
        · exact Or.inl k
        · exact Or.inr ⟨g', cap', cur, e1, Nat.le_trans hbase e2, e3⟩
      · rcases k1.2 with ⟨k, _⟩ | ⟨g', cap', cur, e1, e2, e3⟩
        · rw [k] at hg; cases hg
        · rw [e1] at hg
          injection hg with hg
          subst hg
          exact e2
    rcases hown.2 with ⟨rfl, hn0⟩ | ⟨g, cap, cur, rfl, hb, hg, hc, hm, hsz2, ht2⟩
    · subst hn0
      by_cases hm0 : m = 0
      · subst hm0
        have hX : X = [] := List.eq_nil_of_length_eq_zero (by simpa using h2)
        subst hX
        rw [if_pos hw]
        refine wp_append_own w s x T ho base E i z size bytes ht hi hz hsize hby hzs hsz _ 0 xs hs hown ad 0 c [] hx h2 hnews h1 (by unfold maxLen; omega) (by omega) hbase (fun v' w' k1 k2 k3 => ?_)
        exact h v' w' k1 k2 (.inl (by rw [k3.2 ⟨rfl, rfl⟩]))
      · refine step_append_grows hgd s x T ho E i z size bytes ht hi hz hsize hby hzs hsz none 0 0 xs hs (fun _ => ⟨rfl, rfl⟩) hown.1 (fun b hb => by cases hb) ad m c X hx h2 hnews h1 (by omega) (by unfold maxLen; omega) (Nat.le_trans (Nat.mul_le_mul h63 hbytes) (by omega)) (fun v' w' k1 k2 => ?_)
        obtain ⟨f1, f2⟩ := hfresh k1
        exact h v' w' f1 k2 (.inr f2)
    · by_cases hroom : n + m ≤ cap
      · rw [if_pos hw]
        exact wp_append_own_spare w s x T ho base E i size ht hi hsize g n cap xs hs hown ad m c X hx h2 hnews h1 hroom (fun w' k1 k2 => h _ w' k1 k2 (.inl rfl))
      · refine step_append_grows hgd s x T ho E i z size bytes ht hi hz hsize hby hzs hsz (some ⟨g, 0, none⟩) n cap xs hs (fun h => by cases h) hown.1 (fun b hb => by injection hb with hb; subst hb; exact hown.cells rfl) ad m c X hx h2 hnews h1 (by omega) (by unfold maxLen; omega) (Nat.le_trans (Nat.mul_le_mul h63 hbytes) (by omega)) (fun v' w' k1 k2 => ?_)
        obtain ⟨f1, f2⟩ := hfresh k1
        exact h v' w' f1 ⟨k2.os, k2.tape, k2.output, k2.size, fun k hk _ => k2.block k hk (by simp)⟩ (.inr f2)

/-! ### Rows of rows of bytes -/
/-- Each value is a row of bytes, from a block on, and not in block g. -/
structure RowSet (w : World) (base : Nat) (g : Option Nat) (vs : List Value) (rs : List (List UInt8)) : Prop where
  len : vs.length = rs.length
  row : ∀ (i : Nat) (r : List UInt8), rs[i]? = some r → ∃ B m k, vs[i]? = some (Value.slice B m k) ∧ m = r.length ∧ RowOf w 1 B m k (Lib.byteCells r) ∧ ∀ x, B = some x → 0 < m → base ≤ x.block ∧ g ≠ some x.block
theorem rowSet_nil (w : World) (base : Nat) (g : Option Nat) : RowSet w base g [] [] := ⟨rfl, fun i r h => by simp at h⟩
theorem RowSet.cellsOne {w : World} {base : Nat} {g : Option Nat} {vs : List Value} {rs : List (List UInt8)} (h : RowSet w base g vs rs) : ∀ v ∈ vs, v.oneCell' = true := by
  intro v hv
  obtain ⟨i, hi⟩ := List.getElem?_of_mem hv
  have hlt := (List.getElem?_eq_some_iff.1 hi).1
  obtain ⟨B, m, k, e, _⟩ := h.row i _ (List.getElem?_eq_getElem (by rw [← h.len]; exact hlt))
  rw [hi] at e
  cases e
  rfl
theorem RowSet.keep {w w' : World} {base : Nat} {g : Option Nat} {vs : List Value} {rs : List (List UInt8)} (h : RowSet w base g vs rs) (hs : w.heap.size ≤ w'.heap.size)
    (hk : ∀ b, b < w.heap.size → base ≤ b → g ≠ some b → w'.heap[b]? = w.heap[b]?) : RowSet w' base g vs rs :=
  ⟨h.len, fun i r hr => by
    obtain ⟨B, m, k, e1, e2, e3, e4⟩ := h.row i r hr
    exact ⟨B, m, k, e1, e2, e3.keep hs (fun x hx h0 hl => hk _ hl (e4 x hx h0).1 (e4 x hx h0).2), e4⟩⟩
theorem RowSet.below {w w' : World} {base B : Nat} {g : Option Nat} {vs : List Value} {rs : List (List UInt8)} (h : RowSet w base g vs rs) (hb : Below B w w') (hB : w.heap.size ≤ B) : RowSet w' base g vs rs :=
  h.keep hb.size (fun b hl _ _ => hb.block b (Nat.lt_of_lt_of_le hl hB))
theorem RowSet.weak {w : World} {base base' : Nat} {g g' : Option Nat} {vs : List Value} {rs : List (List UInt8)} (h : RowSet w base g vs rs) (hb : base' ≤ base) (hg : ∀ b, g' = some b → b < base ∨ w.heap.size ≤ b ∨ g = some b) : RowSet w base' g' vs rs :=
  ⟨h.len, fun i r hr => by
    obtain ⟨B, m, k, e1, e2, e3, e4⟩ := h.row i r hr
    refine ⟨B, m, k, e1, e2, e3, fun x hx h0 => ?_⟩
    obtain ⟨q1, q2⟩ := e4 x hx h0
    have q3 := (e3.2.2.2.2 x hx h0).2.1
    refine ⟨by omega, fun e => ?_⟩
    rcases hg _ e with a | a | a
    · omega
    · omega
    · exact q2 a⟩
theorem RowSet.snoc {w : World} {base : Nat} {g : Option Nat} {vs : List Value} {rs : List (List UInt8)} (h : RowSet w base g vs rs) {B : Option Addr} {m k : Nat} {r : List UInt8} (hm : m = r.length) (hr : RowOf w 1 B m k (Lib.byteCells r)) (hx : ∀ x, B = some x → 0 < m → base ≤ x.block ∧ g ≠ some x.block) :
    RowSet w base g (vs ++ [.slice B m k]) (rs ++ [r]) :=
  ⟨by simp [h.len], fun i q hq => by
    rcases Nat.lt_or_ge i rs.length with hi | hi
    · rw [List.getElem?_append_left hi] at hq
      obtain ⟨B', m', k', e1, e2, e3, e4⟩ := h.row i q hq
      exact ⟨B', m', k', by rw [List.getElem?_append_left (by rw [h.len]; exact hi)]; exact e1, e2, e3, e4⟩
    · rw [List.getElem?_append_right hi] at hq
      have : i - rs.length = 0 := by
        have := (List.getElem?_eq_some_iff.1 hq).1
        simp at this; omega
      rw [this] at hq
      simp at hq
      subst hq
      exact ⟨B, m, k, by rw [List.getElem?_append_right (by rw [h.len]; exact hi), h.len, this]; rfl, hm, hr, hx⟩⟩
theorem RowSet.turn {w w' : World} {base : Nat} {g g' : Option Nat} {vs : List Value} {rs : List (List UInt8)} (h : RowSet w base g vs rs) (hs : w.heap.size ≤ w'.heap.size)
    (hk : ∀ b, b < w.heap.size → base ≤ b → g ≠ some b → w'.heap[b]? = w.heap[b]?) (hg : ∀ b, g' = some b → w.heap.size ≤ b ∨ g = some b) : RowSet w' base g' vs rs :=
  ⟨h.len, fun i r hr => by
    obtain ⟨B, m, k, e1, e2, e3, e4⟩ := h.row i r hr
    refine ⟨B, m, k, e1, e2, e3.keep hs (fun x hx h0 hl => hk _ hl (e4 x hx h0).1 (e4 x hx h0).2), fun x hx h0 => ?_⟩
    obtain ⟨q1, q2⟩ := e4 x hx h0
    have q3 := (e3.2.2.2.2 x hx h0).2.1
    refine ⟨q1, fun e => ?_⟩
    rcases hg _ e with a | a
    · omega
    · exact q2 a⟩
theorem own_keep {w w' : World} {base sz n : Nat} {E : TypeId} {v : Value} {X : List Value} (h : w.ownsRow base E sz v n X) (hk : ∀ g, v.ownBlock = some g → w'.heap[g]? = w.heap[g]?) : w'.ownsRow base E sz v n X := by
  refine ⟨h.1, ?_⟩
  rcases h.2 with k | ⟨g, cap, cur, e1, e2, e3, e4⟩
  · exact .inl k
  · exact .inr ⟨g, cap, cur, e1, e2, (hk g (by rw [e1]; rfl)).trans e3, e4⟩
theorem own_lt {w : World} {base sz n : Nat} {E : TypeId} {v : Value} {X : List Value} (h : w.ownsRow base E sz v n X) : ∀ g, v.ownBlock = some g → base ≤ g ∧ g < w.heap.size := by
  intro g hg
  rcases h.2 with ⟨k, _⟩ | ⟨g', cap, cur, e1, e2, e3, e4⟩
  · rw [k] at hg; cases hg
  · rw [e1] at hg
    injection hg with hg
    subst hg
    exact ⟨e2, (Array.getElem?_eq_some_iff.1 e3).1⟩
/-- A value reads as records. -/
def RecsAt (w : World) (v : Value) (rs : List (List UInt8)) : Prop := ∃ A n c vs, v = .slice A n c ∧ n = rs.length ∧ RowOf w 1 A n c vs ∧ RowSet w 0 none vs rs
theorem RecsAt.kept {w w' : World} {B : Nat} {v : Value} {rs : List (List UInt8)} (h : RecsAt w v rs) (hb : Below B w w') (hB : w.heap.size ≤ B) : RecsAt w' v rs := by
  obtain ⟨A, n, c, vs, h1, h2, h3, h4⟩ := h
  exact ⟨A, n, c, vs, h1, h2, h3.kept hb hB, h4.below hb hB⟩
/-- Records whose rows lie from a block on. -/
def RecsFrom (w : World) (base : Nat) (v : Value) (rs : List (List UInt8)) : Prop := ∃ A n c vs, v = .slice A n c ∧ n = rs.length ∧ RowOf w 1 A n c vs ∧ (∀ x, A = some x → base ≤ x.block) ∧ RowSet w base none vs rs
theorem RecsFrom.at {w : World} {base : Nat} {v : Value} {rs : List (List UInt8)} (h : RecsFrom w base v rs) : RecsAt w v rs := by
  obtain ⟨A, n, c, vs, h1, h2, h3, h4, h5⟩ := h
  exact ⟨A, n, c, vs, h1, h2, h3, h5.weak (Nat.zero_le _) (fun b hb => by cases hb)⟩
theorem RecsFrom.keep {w w' : World} {base : Nat} {v : Value} {rs : List (List UInt8)} (h : RecsFrom w base v rs) (hs : w.heap.size ≤ w'.heap.size) (hk : ∀ b, b < w.heap.size → base ≤ b → w'.heap[b]? = w.heap[b]?) : RecsFrom w' base v rs := by
  obtain ⟨A, n, c, vs, h1, h2, h3, h4, h5⟩ := h
  exact ⟨A, n, c, vs, h1, h2, h3.keep hs (fun x hx _ hl => hk _ hl (h4 x hx)), h4, h5.keep hs (fun b hb1 hb2 _ => hk b hb1 hb2)⟩
theorem RecsFrom.weak {w : World} {base base' : Nat} {v : Value} {rs : List (List UInt8)} (h : RecsFrom w base v rs) (hb : base' ≤ base) : RecsFrom w base' v rs := by
  obtain ⟨A, n, c, vs, h1, h2, h3, h4, h5⟩ := h
  exact ⟨A, n, c, vs, h1, h2, h3, fun x hx => Nat.le_trans hb (h4 x hx), h5.weak hb (fun b hb => by cases hb)⟩
theorem recs_nil (w : World) : RecsAt w (.slice none 0 0) [] := ⟨none, 0, 0, [], rfl, rfl, ⟨rfl, by omega, by omega, fun _ => rfl, fun x hx => by cases hx⟩, rowSet_nil _ _ _⟩
theorem recsFrom_nil (w : World) (base : Nat) : RecsFrom w base (.slice none 0 0) [] := ⟨none, 0, 0, [], rfl, rfl, ⟨rfl, by omega, by omega, fun _ => rfl, fun x hx => by cases hx⟩, (fun x hx => by cases hx), rowSet_nil _ _ _⟩
theorem infoBytes : (Tryd.prog.info? 28).map (fun i => (i.zero, i.size, i.bytes)) = some (some (.slice none 0 0), 1, 24) := by kernel_rfl
/-- A new block of one value, as a row. -/
theorem row_val (w : World) (v : Value) (t : TypeId) : RowOf (w.alloc (.cells #[v] t)) 1 (some ⟨w.heap.size, 0, none⟩) 1 1 [v] := by
  refine ⟨rfl, Nat.le_refl _, by omega, (fun h => by cases h), fun y hy _ => ?_⟩
  injection hy with hy; subst hy
  exact ⟨rfl, by simp, range_new w [v] t⟩
end Go.Proofs.YtbhjigejpdbeiaaDoor
end
