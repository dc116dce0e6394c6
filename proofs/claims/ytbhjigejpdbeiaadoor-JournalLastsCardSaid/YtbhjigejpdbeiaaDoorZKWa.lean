import Derived.Test.YtbhjigejpdbeiaaDoorZAv
import Derived.Test.YtbhjigejpdbeiaaDoorZKOq
import Derived.Test.YtbhjigejpdbeiaaDoorZKDsk
import Derived.Test.YtbhjigejpdbeiaaDoorZKSz
set_option linter.unusedSimpArgs false
set_option linter.unusedVariables false

section
/-
  JournalAppends, walked: what the program appends and formats is what the reference does.
-/
namespace Go.Proofs.YtbhjigejpdbeiaaDoor
open Go.RowKit Go.Shelf
set_option linter.unusedVariables false
set_option maxRecDepth 8000

/-- A disk and a log that a call answered go into two new variables. -/
theorem two_new {wa : World} {C : Array Value} {x : Dk} (hc : D4 C) (hd : DiskAt wa (.agg C) x) (l : Dk.Log) :
    ∃ wz, (diskSet ⟨wa.heap.size, 0, none⟩ (.agg C)).run Tryd.prog ((wa.alloc (.cells #[.slice none 0 0, .slice none 0 0, .int .i64 0, .bool false] 25)).alloc (.cells #[.int .i64 0, .int .i64 0, .int .i64 0] 27)) = .ok () (putDisk ((wa.alloc (.cells #[.slice none 0 0, .slice none 0 0, .int .i64 0, .bool false] 25)).alloc (.cells #[.int .i64 0, .int .i64 0, .int .i64 0] 27)) wa.heap.size C) ∧
      (logSet ⟨wa.heap.size + 1, 0, none⟩ (logV l)).run Tryd.prog (putDisk ((wa.alloc (.cells #[.slice none 0 0, .slice none 0 0, .int .i64 0, .bool false] 25)).alloc (.cells #[.int .i64 0, .int .i64 0, .int .i64 0] 27)) wa.heap.size C) = .ok () wz ∧
      DVar wz wa.heap.size C ∧ LogAt wz (wa.heap.size + 1) l ∧ DiskAt wz (.agg C) x ∧ Below wa.heap.size wa wz := by
  have ht1 : ((wa.alloc (.cells #[.slice none 0 0, .slice none 0 0, .int .i64 0, .bool false] 25)).alloc (.cells #[.int .i64 0, .int .i64 0, .int .i64 0] 27)).there wa.heap.size 0 4 := there_disk_alloc (there_disk _ zeroD4) _
  have ht2 : ((wa.alloc (.cells #[.slice none 0 0, .slice none 0 0, .int .i64 0, .bool false] 25)).alloc (.cells #[.int .i64 0, .int .i64 0, .int .i64 0] 27)).there (wa.heap.size + 1) 0 3 := there_log_at _ (by simp)
  have hb := below_putLog (below_putDisk (below_two wa (.cells #[.slice none 0 0, .slice none 0 0, .int .i64 0, .bool false] 25) (.cells #[.int .i64 0, .int .i64 0, .int .i64 0] 27)) (Nat.le_refl _) C) (Nat.le_succ _) l
  refine ⟨_, store_disk ht1 hc, store_log (there_putDisk ht2 _ C) l, ?_, logAt_put (there_putDisk ht2 _ C) l, hd.kept hb (Nat.le_refl _), hb⟩
  exact (dvar_put (there_lt ht1 (by decide)) ht1 hc).grown grown_log (by omega)
end Go.Proofs.YtbhjigejpdbeiaaDoor
end

section
/-
  A play on a journal, in memory: the disk and its log in their variables, and records that lie apart from these.
-/
namespace Go.Proofs.YtbhjigejpdbeiaaDoor
open Go.RowKit Go.Shelf
set_option linter.unusedVariables false
set_option maxRecDepth 8000

/-- A disk and its log in their variables. -/
structure Hold (w0 W : World) (b6 b8 : Nat) (C : Array Value) (d : Dk) (l : Dk.Log) : Prop where
  V : DVar W b6 C
  T : W.there b6 0 4
  d4 : D4 C
  G : LogAt W b8 l
  D : DiskAt W (.agg C) d
  B : Below w0.heap.size w0 W
  c6 : Clear b6 (.agg C)
  c8 : Clear b8 (.agg C)
  le : w0.heap.size ≤ b6
  lt : b6 < b8
theorem Hold.on {w0 W W' : World} {b6 b8 : Nat} {C : Array Value} {d : Dk} {l : Dk.Log} (h : Hold w0 W b6 b8 C d l) (hb : Below W.heap.size W W') : Hold w0 W' b6 b8 C d l :=
  ⟨h.V.below hb h.V.lt, there_below h.T hb h.V.lt, h.d4, h.G.on hb h.G.lt, h.D.kept hb (Nat.le_refl _), below_chain h.B hb, h.c6, h.c8, h.le, h.lt⟩
/-- Records that lie apart from the blocks lo .. hi - 1. -/
def RecsApart (w : World) (lo hi : Nat) (v : Value) (rs : List (List UInt8)) : Prop :=
  ∃ A n c vs, v = .slice A n c ∧ n = rs.length ∧ RowOf w 1 A n c vs ∧ (∀ x, A = some x → 0 < n → x.block < lo ∨ hi ≤ x.block) ∧ vs.length = rs.length ∧
    ∀ (i : Nat) (r : List UInt8), rs[i]? = some r → ∃ B m k, vs[i]? = some (Value.slice B m k) ∧ m = r.length ∧ RowOf w 1 B m k (Lib.byteCells r) ∧ ∀ x, B = some x → 0 < m → x.block < lo ∨ hi ≤ x.block
theorem RecsApart.keep {w w' : World} {lo hi : Nat} {v : Value} {rs : List (List UInt8)} (h : RecsApart w lo hi v rs) (hs : w.heap.size ≤ w'.heap.size) (hk : ∀ b, b < w.heap.size → (b < lo ∨ hi ≤ b) → w'.heap[b]? = w.heap[b]?) : RecsApart w' lo hi v rs := by
  obtain ⟨A, n, c, vs, h1, h2, h3, h4, h5, h6⟩ := h
  refine ⟨A, n, c, vs, h1, h2, h3.keep hs (fun x hx h0 hl => hk _ hl (h4 x hx h0)), h4, h5, fun i r hi => ?_⟩
  obtain ⟨B, m, k, e1, e2, e3, e4⟩ := h6 i r hi
  exact ⟨B, m, k, e1, e2, e3.keep hs (fun x hx h0 hl => hk _ hl (e4 x hx h0)), e4⟩
theorem RecsApart.on {w w' : World} {lo hi : Nat} {v : Value} {rs : List (List UInt8)} (h : RecsApart w lo hi v rs) (hb : Below w.heap.size w w') : RecsApart w' lo hi v rs :=
  h.keep hb.size (fun b hl _ => hb.block b hl)
theorem RecsApart.at {w : World} {lo hi : Nat} {v : Value} {rs : List (List UInt8)} (h : RecsApart w lo hi v rs) : RecsAt w v rs := by
  obtain ⟨A, n, c, vs, h1, h2, h3, h4, h5, h6⟩ := h
  refine ⟨A, n, c, vs, h1, h2, h3, h5, fun i r hi => ?_⟩
  obtain ⟨B, m, k, e1, e2, e3, e4⟩ := h6 i r hi
  exact ⟨B, m, k, e1, e2, e3, fun x _ _ => ⟨Nat.zero_le _, fun q => by cases q⟩⟩
theorem RecsFrom.apart {w : World} {base lo hi : Nat} {v : Value} {rs : List (List UInt8)} (h : RecsFrom w base v rs) (hb : hi ≤ base) : RecsApart w lo hi v rs := by
  obtain ⟨A, n, c, vs, h1, h2, h3, h4, h5⟩ := h
  refine ⟨A, n, c, vs, h1, h2, h3, fun x hx _ => .inr (Nat.le_trans hb (h4 x hx)), h5.len, fun i r hi => ?_⟩
  obtain ⟨B, m, k, e1, e2, e3, e4⟩ := h5.row i r hi
  exact ⟨B, m, k, e1, e2, e3, fun x hx h0 => .inr (Nat.le_trans hb (e4 x hx h0).1)⟩
theorem recsApart_nil (w : World) (lo hi : Nat) : RecsApart w lo hi (.slice none 0 0) [] :=
  ⟨none, 0, 0, [], rfl, rfl, ⟨rfl, by omega, by omega, fun _ => rfl, fun x hx => by cases hx⟩, (fun x hx _ => by cases hx), rfl, fun i r h => by simp at h⟩
/-- The records, and one more, in a row of their own. -/
theorem apart_snoc {w w' : World} {lo hi base : Nat} {vs : List Value} {v' : Value} {rs : List (List UInt8)} {B : Option Addr} {k kk : Nat} {r : List UInt8}
    (h6 : ∀ (i : Nat) (r : List UInt8), rs[i]? = some r → ∃ B m k, vs[i]? = some (Value.slice B m k) ∧ m = r.length ∧ RowOf w 1 B m k (Lib.byteCells r) ∧ ∀ x, B = some x → 0 < m → x.block < lo ∨ hi ≤ x.block) (hlen : vs.length = rs.length)
    (hs : w.heap.size ≤ w'.heap.size) (hk : ∀ b, b < w.heap.size → w'.heap[b]? = w.heap[b]?) (own : w'.ownsRow base 28 1 v' (rs.length + 1) (vs ++ [.slice B k kk])) (hb : hi ≤ base)
    (hr : RowOf w 1 B k kk (Lib.byteCells r)) (hn : k = r.length) (hx : ∀ x, B = some x → 0 < k → x.block < lo ∨ hi ≤ x.block) : RecsApart w' lo hi v' (rs ++ [r]) := by
  obtain ⟨A', c', rfl, h3, h4⟩ := row_of_own own
  refine ⟨A', _, c', _, rfl, by simp, h3, fun x hx _ => .inr (Nat.le_trans hb (h4 x hx)), by simp [hlen], fun i q hi => ?_⟩
  rcases Nat.lt_or_ge i rs.length with hlt | hge
  · rw [List.getElem?_append_left hlt] at hi
    obtain ⟨B', m', k', e1, e2, e3, e4⟩ := h6 i q hi
    exact ⟨B', m', k', by rw [List.getElem?_append_left (by omega)]; exact e1, e2, e3.keep hs (fun x _ _ hl => hk _ hl), e4⟩
  · have hi0 : i = rs.length := by
      have := (List.getElem?_eq_some_iff.1 hi).1
      simp at this; omega
    subst hi0
    rw [List.getElem?_append_right (Nat.le_refl _)] at hi
    simp at hi
    subst hi
    exact ⟨B, k, kk, by rw [List.getElem?_append_right (by omega), hlen]; simp, hn, hr.keep hs (fun x _ _ hl => hk _ hl), hx⟩
theorem RecsApart.drop {w : World} {lo hi : Nat} {rs : List (List UInt8)} {v : Value} (h : RecsApart w lo hi v rs) {v' : Value} {rs' : List (List UInt8)} (k : Nat)
    (hv : ∃ A n c, v = .slice A n c ∧ v' = .slice (if c = k then A else A.map fun a => ⟨a.block, a.off + k, a.spot⟩) (n - k) (c - k) ∧ k ≤ n) (hr : rs' = rs.drop k) : RecsApart w lo hi v' rs' := by
  obtain ⟨A, n, c, vs, rfl, h2, h3, h4, h5, h6⟩ := h
  obtain ⟨A', n', c', e, rfl, hkn⟩ := hv
  injection e with e1 e2 e3
  subst e1 e2 e3 hr
  refine ⟨_, n - k, c - k, vs.drop k, rfl, by rw [List.length_drop]; omega, ?_, ?_, by rw [List.length_drop, List.length_drop]; omega, fun i r hi => ?_⟩
  · by_cases hc : c = k
    · rw [if_pos hc]
      have hnc : n ≤ c := h3.2.1
      have hnk : n = k := by omega
      rw [List.drop_eq_nil_of_le (by omega)]
      exact ⟨by simp; omega, by omega, by omega, fun _ => by omega, fun y _ h0 => by omega⟩
    · rw [if_neg hc]
      exact row_drop1 h3 k (by have := h3.2.1; omega) hkn
  · intro x hx h0
    by_cases hc : c = k
    · have hnc : n ≤ c := h3.2.1
      omega
    · rw [if_neg hc] at hx
      cases A with
      | none => cases hx
      | some a =>
        injection hx with hx
        subst hx
        exact h4 a rfl (by omega)
  · rw [List.getElem?_drop] at hi
    obtain ⟨B, m, kk, e1, e2, e3, e4⟩ := h6 _ r hi
    exact ⟨B, m, kk, by rw [List.getElem?_drop]; exact e1, e2, e3, e4⟩
/-- Only the disk's and the log's variables are written. -/
theorem RecsApart.put {W : World} {b6 b8 : Nat} {v : Value} {rs : List (List UInt8)} (h : RecsApart W b6 (b8 + 1) v rs) (h68 : b6 < b8) (C : Array Value) (l : Dk.Log) : RecsApart (putLog (putDisk W b6 C) b8 l) b6 (b8 + 1) v rs :=
  h.keep (by rw [size_putLog, size_putDisk]; exact Nat.le_refl _) (fun b _ hb => (heap_putLog _ _ _ _ (by omega)).trans (heap_putDisk _ _ _ _ (by omega)))
theorem RecsApart.put1 {W : World} {b6 b8 : Nat} {v : Value} {rs : List (List UInt8)} (h : RecsApart W b6 (b8 + 1) v rs) (h68 : b6 < b8) (C : Array Value) : RecsApart (putDisk W b6 C) b6 (b8 + 1) v rs :=
  h.keep (by rw [size_putDisk]; exact Nat.le_refl _) (fun b _ hb => heap_putDisk _ _ _ _ (by omega))
/-- The disk and the log go into their variables. -/
theorem Hold.put {w0 W0 W : World} {b6 b8 : Nat} {C0 C : Array Value} {d0 d : Dk} {l0 l : Dk.Log} (h : Hold w0 W0 b6 b8 C0 d0 l0) (hb : Below W0.heap.size W0 W) (h4 : D4 C) (hD : DiskAt W (.agg C) d) (tr : ∀ b, b < W0.heap.size → Clear b (.agg C0) → Clear b (.agg C)) :
    Hold w0 (putLog (putDisk W b6 C) b8 l) b6 b8 C d l := by
  have hT : W.there b6 0 4 := there_below h.T hb h.V.lt
  have hG : LogAt W b8 l0 := h.G.on hb h.G.lt
  have h6 : b6 < W.heap.size := Nat.lt_of_lt_of_le h.V.lt hb.size
  have hne : b6 ≠ b8 := Nat.ne_of_lt h.lt
  have c6 := tr _ h.V.lt h.c6
  have c8 := tr _ h.G.lt h.c8
  have ht2 : (putDisk W b6 C).there b8 0 3 := there_putDisk hG.there _ _
  refine ⟨(dvar_put h6 hT h4).keepb (by rw [size_putLog]; exact Nat.le_refl _) (heap_putLog _ _ _ _ hne), there_putLog (there_putDisk hT _ _) _ _, h4, logAt_put ht2 l, ?_, below_putLog (below_putDisk (below_chain h.B hb) h.le C) (by have := h.le; have := h.lt; omega) l, c6, c8, h.le, h.lt⟩
  exact (hD.keep c6 (by rw [size_putDisk]; exact Nat.le_refl _) (fun q _ hq => heap_putDisk _ _ _ _ hq)).keep c8 (by rw [size_putLog]; exact Nat.le_refl _) (fun q _ hq => heap_putLog _ _ _ _ hq)
theorem Hold.put1 {w0 W0 W : World} {b6 b8 : Nat} {C0 C : Array Value} {d0 d : Dk} {l : Dk.Log} (h : Hold w0 W0 b6 b8 C0 d0 l) (hb : Below W0.heap.size W0 W) (h4 : D4 C) (hD : DiskAt W (.agg C) d) (tr : ∀ b, b < W0.heap.size → Clear b (.agg C0) → Clear b (.agg C)) :
    Hold w0 (putDisk W b6 C) b6 b8 C d l := by
  have hT : W.there b6 0 4 := there_below h.T hb h.V.lt
  have hG : LogAt W b8 l := h.G.on hb h.G.lt
  have h6 : b6 < W.heap.size := Nat.lt_of_lt_of_le h.V.lt hb.size
  have hne : b8 ≠ b6 := fun e => by have := h.lt; omega
  have c6 := tr _ h.V.lt h.c6
  have c8 := tr _ h.G.lt h.c8
  exact ⟨dvar_put h6 hT h4, there_putDisk hT _ _, h4, hG.keepb (heap_putDisk _ _ _ _ hne), hD.keep c6 (by rw [size_putDisk]; exact Nat.le_refl _) (fun q _ hq => heap_putDisk _ _ _ _ hq), below_putDisk (below_chain h.B hb) h.le C, c6, c8, h.le, h.lt⟩
/-- Acts that have been played: the journal, or where the power went. -/
def Played (w0 W : World) (b6 b8 : Nat) (vc vp : Value) (dn fz : Bool) (m : Int) : Prop :=
  ∃ C d l came perh, Hold w0 W b6 b8 C d l ∧ RecsApart W b6 (b8 + 1) vc came ∧ RecsApart W b6 (b8 + 1) vp perh ∧ d.secs.length ≤ 100000 ∧
    (dn = false → Jp.Jrn d l came m) ∧ (dn = true → Jp.Risk d 200 came perh m) ∧ (fz = true → dn = false ∧ d.fuse < 0)
theorem Played.mono {w0 W : World} {b6 b8 : Nat} {vc vp : Value} {dn fz : Bool} {m m' : Int} (h : Played w0 W b6 b8 vc vp dn fz m) (hm : m ≤ m') : Played w0 W b6 b8 vc vp dn fz m' := by
  obtain ⟨C, d, l, came, perh, h1, h2, h3, h4, h5, h6, h7⟩ := h
  exact ⟨C, d, l, came, perh, h1, h2, h3, h4, fun q => (h5 q).mono hm, fun q => (h6 q).mono hm, h7⟩
end Go.Proofs.YtbhjigejpdbeiaaDoor
end
