/-
  Rows of words; slices.Clone of words; the state of Sum256 in memory.
-/
import Derived.Test.YtbhjigejpdbeiaaDoorZSc
import Derived.Test.YtbhjigejpdbeiaaDoorZWr
import Derived.Test.YtbhjigejpdbeiaaDoorZWd
import Derived.Deep.DeepAppendRoom
set_option linter.unusedSimpArgs false
set_option linter.unusedVariables false
namespace Go.Proofs.YtbhjigejpdbeiaaDoor
open Go.RowKit
set_option linter.unusedVariables false
set_option maxRecDepth 8000

def wC (l : List W32) : List Value := l.map fun x => .int .u32 (wi x)
theorem wC_length (l : List W32) : (wC l).length = l.length := by simp [wC]
theorem wC_append (a b : List W32) : wC (a ++ b) = wC a ++ wC b := by simp [wC]
theorem wC_one (l : List W32) : ∀ v ∈ wC l, v.oneCell' = true := by
  intro v hv
  obtain ⟨u, _, rfl⟩ := List.mem_map.1 hv
  rfl
theorem wC_at (l : List W32) (i : Nat) (h : i < l.length) : (wC l)[i]? = some (.int .u32 (wi (l.getD i 0))) := by
  rw [wC, List.getElem?_map, List.getElem?_eq_getElem h, List.getD_eq_getElem?_getD, List.getElem?_eq_getElem h]; rfl
theorem infoU32 : (Tryd.prog.info? 144).map (fun i => (i.zero, i.size, i.bytes)) = some (some (.int .u32 0), 1, 4) := by kernel_rfl
theorem row_wC {w : World} {b : Nat} {l : List W32} (hb : b < w.heap.size) (hr : w.rangeAt b 0 (wC l)) (hl : l.length ≤ 1000000) : RowOf w 1 (some ⟨b, 0, none⟩) l.length l.length (wC l) :=
  ⟨by rw [wC_length, Nat.mul_one], Nat.le_refl _, by omega, (fun h => by cases h), fun x hx _ => by injection hx with hx; subst hx; exact ⟨rfl, hb, hr⟩⟩
theorem own_below {w w' : World} {base sz n B : Nat} {E : TypeId} {v : Value} {X : List Value} (h : w.ownsRow base E sz v n X) (hb : Below B w w') (hB : w.heap.size ≤ B) : w'.ownsRow base E sz v n X := by
  refine ⟨h.1, ?_⟩
  rcases h.2 with h | ⟨g, cap, cur, h1, h2, h3, h4⟩
  · exact Or.inl h
  · have hg := (Array.getElem?_eq_some_iff.1 h3).1
    exact Or.inr ⟨g, cap, cur, h1, h2, (hb.block g (by omega)).trans h3, h4⟩
theorem u32s_nil (A : Option Addr) (n c : Nat) (W : World) : (binOp .eql 172 (.slice A n c) (.slice none 0 0)).run Tryd.prog W = .ok (.bool A.isNone) W := by
  simp only [binOp]
  simp [run_equal_slice_nil W 172 144 A n c Tryd.underlying172]
theorem cloneU_f (w : World) (b : Nat) (n c : Nat) (X : List Value) (h : RowOf w 1 (some ⟨b, 0, none⟩) n c X) (h1 : ∀ u ∈ X, u.oneCell' = true) (hn : n ≤ 1000000) :
    Calls Tryd.prog 107 #[.slice (some ⟨b, 0, none⟩) n c] w fun e w' => OwnOut 144 1 n X w e w' := by
  have HO := Lib.hid (own_empty w w.heap.size (Nat.le_refl _) 144 1)
  have HR := Lib.hid (h.kept ((Below.refl _ _).alloc (Nat.le_refl _) (.cells #[] 144)) (Nat.le_refl _))
  have HX := Lib.hid h1
  have HH := Lib.hid h
  clear h h1
  have hnil := u32s_nil (some ⟨b, 0, none⟩) n c
  rw [Option.isNone_some] at hnil
  go_enter Tryd.func107, Tryd.ntmps107
  go_wp2_with (at_builtin; refine append_row rfl (.tmp 5) (.tmp 6) 172 144 rfl Tryd.underlying172 w.heap.size (.int .u32 0) 1 4 infoU32 (by rfl) (by decide) _ _ _ rfl HO.out (some ⟨b, 0, none⟩) n c X rfl HR.out HX.out (by omega) (by decide) (by simp) ?_)
  intro v' w' k1 k2
  have K1 := Lib.hid k1
  have K2 := Lib.hid (below_owned ((Below.refl w.heap.size w).alloc (Nat.le_refl _) _) HO.out k2 (Nat.le_refl _) (by simp))
  clear k1 k2
  go_wp2
  go_ret
  refine ⟨⟨_, rfl, ?_⟩, K2.out⟩
  have := K1.out
  simpa using this

/-- An append to what the call owns: what was there is there, at the old place too. -/
theorem step_append_keep {w : World} {ops : Array Oper} {o : Oper} {a : Act} {K : Act → World → Prop} {Q : Exit → Act → World → Prop} {Z : Prop} (hgd : o.guard = none) (s x : Operand) (T E : TypeId)
    (ho : o.op = .call { callee := .builtin .append, args := #[s, x], argTypes := #[T, T] }) (ht : Tryd.prog.underlying T = some (.slice E))
    (base : Nat) (z : Value) (size bytes : Nat) (hinf : (Tryd.prog.info? E).map (fun i => (i.zero, i.size, i.bytes)) = some (some z, size, bytes)) (hzs : z.cells.size = size) (hsz : 0 < size)
    (g n cap : Nat) (xs : List Value) (hs : a.eval s = .slice (some ⟨g, 0, none⟩) n cap) (hown : w.ownsRow base E size (.slice (some ⟨g, 0, none⟩) n cap) n xs)
    (b m c : Nat) (X : List Value) (hx : a.eval x = .slice (some ⟨b, 0, none⟩) m c) (hr : RowOf w size (some ⟨b, 0, none⟩) m c X) (h1 : ∀ u ∈ X, u.oneCell' = true) (hm : 0 < m)
    (h63 : n + m ≤ 1000000) (hbytes : bytes ≤ 100000) (hbase : base ≤ w.heap.size)
    (h : ∀ v' w', w'.ownsRow base E size v' (n + m) (xs ++ X) → w.grownBy w' (some g) → (∀ j u, xs[j]? = some u → w'.cell? ⟨g, j, none⟩ = some u) → K (a.put o.dst v') w') :
    if Region.wanted o (yielded ops a.tmps) = true then Oper.wp Tryd.prog o a w K Q else Z := by
  have hw : Region.wanted o (yielded ops a.tmps) = true := by simp [Region.wanted, hgd]
  obtain ⟨i, hi, hz, hsize, hby⟩ := info_parts hinf
  obtain ⟨h2, h3, h4, h5, h6⟩ := hr
  have hnews : ∀ j u, X[j]? = some u → w.cell? ((⟨b, 0, none⟩ : Addr).add j) = some u := fun j u hj => by
    rw [add_none]; exact (h6 _ rfl hm).2.2 j u hj
  have holds : ∀ j u, xs[j]? = some u → w.cell? ((⟨g, 0, none⟩ : Addr).add j) = some u := hown.cells rfl
  by_cases hroom : n + m ≤ cap
  · rw [if_pos hw]
    refine wp_append_own_spare w s x T ho base E i size ht hi hsize g n cap xs hs hown ⟨b, 0, none⟩ m c X hx h2 hnews h1 hroom (fun w' k1 k2 => h _ w' k1 k2 fun j u hj => ?_)
    have := k1.cells (g := g) rfl j u (by rw [List.getElem?_append_left (List.getElem?_eq_some_iff.1 hj).1]; exact hj)
    rwa [add_none, Nat.zero_add] at this
  · refine step_append_grows hgd s x T ho E i z size bytes ht hi hz hsize hby hzs hsz (some ⟨g, 0, none⟩) n cap xs hs (fun h => by cases h) hown.1 (fun ad hA => by injection hA with hA; subst hA; exact holds) ⟨b, 0, none⟩ m c X hx h2 hnews h1 (by omega) (by unfold maxLen; omega) (Nat.le_trans (Nat.mul_le_mul h63 hbytes) (by omega)) (fun v' w' k1 k2 => h v' w' ?_ ⟨k2.os, k2.tape, k2.output, k2.size, fun k hk _ => k2.block k hk (by simp)⟩ fun j u hj => ?_)
    · refine ⟨k1.1, ?_⟩
      rcases k1.2 with k | ⟨g', cap', cur, e1, e2, e3⟩
      · exact Or.inl k
      · exact Or.inr ⟨g', cap', cur, e1, Nat.le_trans hbase e2, e3⟩
    · have hc := holds j u hj
      rw [add_none, Nat.zero_add] at hc
      exact k2.cell hc (by simp)

/-- The cells of a state. -/
def rC (h : Sha.St) : List Value := wC h.list ++ [.int .i64 64, .func (.func 85) #[] #[], .func (.func 86) #[] #[], .func (.func 88) #[] #[], .func (.func 89) #[] #[], .func (.func 90) #[] #[]]
structure RoundsAt (w : World) (b : Nat) (h : Sha.St) : Prop where
  lt : b < w.heap.size
  range : w.rangeAt b 0 (rC h)
  there : w.there b 0 14
theorem RoundsAt.below {w w' : World} {b B : Nat} {h : Sha.St} (r : RoundsAt w b h) (hb : Below B w w') (hB : b < B) : RoundsAt w' b h :=
  ⟨Nat.lt_of_lt_of_le r.lt hb.size, range_below r.range hb hB, there_below r.there hb hB⟩
theorem RoundsAt.at {w : World} {b : Nat} {h : Sha.St} (r : RoundsAt w b h) (i : Nat) (u : Value) (hu : (rC h)[i]? = some u) : w.cell? ⟨b, i, none⟩ = some u := by
  have := r.range i u hu
  rwa [Nat.zero_add] at this
end Go.Proofs.YtbhjigejpdbeiaaDoor
