/-
  unseal: what a sector says.
-/
import Derived.Test.YtbhjigejpdbeiaaDoorZKNb
import Derived.Deep.RegionHeld3
import Derived.BigQuiet
import Derived.Deep.CutRange
set_option linter.unusedSimpArgs false
set_option linter.unusedVariables false
namespace Go.Proofs.YtbhjigejpdbeiaaDoor
open Go.RowKit Go.Shelf
set_option linter.unusedVariables false
set_option maxRecDepth 8000

theorem eqItems_dec (e : TypeId) (P : Program) (xs ys : Array Value) (w : World) (B : Nat → Bool) (n : Nat) (hp : ∀ d i, i < n → ∃ u v, (part e xs i).run P w = .ok u w ∧ (part e ys i).run P w = .ok v w ∧ (Op.equalIn (d + 1) e u v).run P w = .ok (B i) w) (d : Nat) :
    ∀ is : List Nat, (∀ i ∈ is, i < n) → (Op.eqItems (d + 1) e 1 xs ys is).run P w = .ok (is.all B) w
  | [], _ => by simp [Op.eqItems]
  | i :: is, h => by
    obtain ⟨u, v, h1, h2, h3⟩ := hp d i (h i (List.mem_cons_self ..))
    have ih := eqItems_dec e P xs ys w B n hp d is (fun j hj => h j (List.mem_cons_of_mem _ hj))
    cases hb : B i
    · rw [hb] at h3
      simp [Op.eqItems, Sem.run_bind, Nat.mul_one, h1, h2, h3, hb]
    · rw [hb] at h3
      simp [Op.eqItems, Sem.run_bind, Nat.mul_one, h1, h2, h3, ih, hb]
theorem eq_secsIn (d : Nat) (s t : Sec) (w : World) : (Op.equalIn (d + 2) 81 (secV s) (secV t)).run Tryd.prog w = .ok (decide (s = t)) w := by
  obtain ⟨i, hi⟩ : ∃ i, Tryd.prog.info? 5 = some i := Option.isSome_iff_exists.1 (by kernel_rfl)
  have hc : Tryd.prog.cellsOf 5 = 1 := by kernel_rfl
  rw [run_equalIn_array w (d + 1) _ _ Tryd.underlying81 hi, hc]
  have := eqItems_dec 5 Tryd.prog (secC s).toArray (secC t).toArray w (fun i => s.1.getD i 0 == t.1.getD i 0) 128 (fun d i hi => by
    have h1 : i < s.1.length := by rw [s.2]; exact hi
    have h2 : i < t.1.length := by rw [t.2]; exact hi
    refine ⟨.int .u8 (s.1[i]).toNat, .int .u8 (t.1[i]).toNat, run_part_plain w (by kernel_rfl) ?_, run_part_plain w (by kernel_rfl) ?_, ?_⟩
    · simp [secC, Lib.byteCells, h1]
    · simp [secC, Lib.byteCells, h2]
    · rw [run_equalIn_int w d 5 .u8 .u8 _ _ Tryd.underlying5]
      simp only [List.getD_eq_getElem?_getD, List.getElem?_eq_getElem h1, List.getElem?_eq_getElem h2, Option.getD_some]
      congr 1
      rw [Bool.eq_iff_iff]
      simp [← UInt8.toNat_inj]
      omega) d (List.range 128) (fun i hi => by simpa using hi)
  rw [this]
  congr 1
  rw [Bool.eq_iff_iff, List.all_eq_true, decide_eq_true_eq]
  constructor
  · intro h
    apply Subtype.ext
    apply List.ext_getElem (by rw [s.2, t.2])
    intro j h1 h2
    have := h j (by simp; rw [← s.2]; exact h1)
    rw [List.getD_eq_getElem?_getD, List.getD_eq_getElem?_getD, List.getElem?_eq_getElem h1, List.getElem?_eq_getElem h2] at this
    simpa using this
  · rintro rfl j _
    simp
theorem eql_secs (s t : Sec) (w : World) : (secEql (secV s) (secV t)).run Tryd.prog w = .ok (.bool (decide (s = t))) w := by
  rw [secEql, run_eql_struct, eq_secsIn 9998 s t w]; rfl

theorem bytes_nil (A : Option Addr) (n c : Nat) (W : World) : (binOp .eql 28 (.slice A n c) (.slice none 0 0)).run Tryd.prog W = .ok (.bool A.isNone) W := by
  simp only [binOp]
  simp [run_equal_slice_nil W 28 5 A n c Tryd.underlying28]
theorem bclone_f (w : World) (A : Option Addr) (n c : Nat) (bs : List UInt8) (h : RowOf w 1 A n c (Lib.byteCells bs)) (hn : n ≤ 1000000) :
    Calls Tryd.prog 96 #[.slice A n c] w fun e w' => OwnOut 5 1 n (Lib.byteCells bs) w e w' := by
  have hnil := bytes_nil A n c
  cases A with
  | none =>
    have hc : c = 0 := h.2.2.2.1 rfl
    have hn0 : n = 0 := by have := h.2.1; omega
    subst hc; subst hn0
    have hb : Lib.byteCells bs = [] := List.eq_nil_of_length_eq_zero (by simpa using h.1)
    rw [Option.isNone_none] at hnil
    have HB := Lib.hid hb
    clear h hb
    go_enter Tryd.func96, Tryd.ntmps96
    go_wp2
    go_ret
    refine ⟨⟨_, rfl, ?_⟩, Below.refl _ _⟩
    rw [HB.out]
    exact own_nil _ _ _ _
  | some ad =>
    rw [Option.isNone_some] at hnil
    have HO := Lib.hid (own_empty w w.heap.size (Nat.le_refl _) 5 1)
    have HR := Lib.hid (h.kept ((Below.refl _ _).alloc (Nat.le_refl _) (.cells #[] 5)) (Nat.le_refl _))
    clear h
    go_enter Tryd.func96, Tryd.ntmps96
    go_wp2_with (at_builtin; refine append_row rfl (.tmp 5) (.tmp 6) 28 5 rfl Tryd.underlying28 w.heap.size (.int .u8 0) 1 1 infoU8 (by rfl) (by decide) _ _ _ rfl HO.out (some ad) n c (Lib.byteCells bs) rfl HR.out (bytes_one _) (by omega) (by decide) (by simp) ?_)
    intro v' w' k1 k2
    have K1 := Lib.hid k1
    have K2 := Lib.hid (below_owned ((Below.refl w.heap.size w).alloc (Nat.le_refl _) _) HO.out k2 (Nat.le_refl _) (by simp))
    clear k1 k2
    go_wp2
    go_ret
    refine ⟨⟨_, rfl, ?_⟩, K2.out⟩
    have := K1.out
    simpa using this
theorem or_u8 (x y : UInt8) : bits .or .u8 (x.toNat : Int) (y.toNat : Int) = ((x ||| y).toNat : Int) := by
  show IntKind.u8.wrap ((BitVec.ofInt 8 (x.toNat : Int) ||| BitVec.ofInt 8 (y.toNat : Int)).toNat : Int) = _
  rw [BitVec.ofInt_natCast, BitVec.ofInt_natCast, BitVec.toNat_or, BitVec.toNat_ofNat, BitVec.toNat_ofNat, Nat.mod_eq_of_lt (by exact x.toNat_lt), Nat.mod_eq_of_lt (by exact y.toNat_lt), UInt8.toNat_or]
  have h : x.toNat ||| y.toNat < 2 ^ 8 := Nat.or_lt_two_pow x.toNat_lt y.toNat_lt
  simp only [IntKind.wrap, IntKind.bits, IntKind.signed]
  simp
  omega
def partC (g i : Int) (m : Int) (A : Option Addr) (n c : Nat) : List Value := [.int .i64 g, .int .i64 i, .int .u8 m, .slice A n c]
theorem sizePart : (Tryd.prog.info? 100).map (·.size) = some 4 := by kernel_rfl
theorem load_part {w : World} {b o : Nat} {g i m : Int} {A : Option Addr} {n c : Nat} (h : w.rangeAt b o (partC g i m A n c)) : (loadVar 100 ⟨b, o, none⟩).run Tryd.prog w = .ok (.agg #[.int .i64 g, .int .i64 i, .int .u8 m, .slice A n c]) w :=
  run_loadVar_mid w b o 100 (partC g i m A n c) _ h Tryd.underlying100 rfl (by rw [sizePart]; rfl)
theorem part_zero (w : World) : PartAt w (.agg #[.int .i64 0, .int .i64 0, .int .u8 0, .slice none 0 0]) ⟨0, 0, 0, []⟩ :=
  ⟨none, 0, 0, rfl, rfl, rfl, by omega, by omega, fun _ => rfl, fun x hx => by cases hx⟩
theorem range_dt {w : World} {b o : Nat} {X : List UInt8} (h : w.rangeAt b o (Lib.byteCells X)) (i k : Nat) : w.rangeAt b (o + i) (Lib.byteCells ((X.drop i).take k)) := by
  intro j v hv
  rw [Nat.add_assoc]
  refine h (i + j) v ?_
  have hj := (List.getElem?_eq_some_iff.1 hv).1
  rw [Lib.byteCells_length, List.length_take] at hj
  rw [Lib.byteCells, List.getElem?_map, List.getElem?_take_of_lt (by omega), List.getElem?_drop] at hv
  rw [Lib.byteCells, List.getElem?_map, hv]
theorem row_dt {w : World} {b o : Nat} {X : List UInt8} (h : w.rangeAt b o (Lib.byteCells X)) (hb : b < w.heap.size) (i k c : Nat) (hk : i + k ≤ X.length) (hc : k ≤ c) (hc2 : c ≤ 1000000) : RowOf w 1 (some ⟨b, o + i, none⟩) k c (Lib.byteCells ((X.drop i).take k)) :=
  ⟨by rw [Lib.byteCells_length, List.length_take, List.length_drop]; omega, hc, by omega, (fun h => by cases h), fun x hx _ => by injection hx with hx; subst hx; exact ⟨rfl, hb, range_dt h i k⟩⟩
@[irreducible] def partSet (a : Addr) (v : Value) : Sem Unit := storeVar 100 a v
theorem partSet_def (a : Addr) (v : Value) : storeVar 100 a v = partSet a v := by unfold partSet; rfl
theorem partC_one (g i m : Int) (A : Option Addr) (n c : Nat) : ∀ v ∈ partC g i m A n c, v.oneCell' = true := by
  intro v hv
  simp only [partC, List.mem_cons, List.mem_nil_iff, or_false] at hv
  rcases hv with rfl | rfl | rfl | rfl <;> rfl
theorem store_part {w : World} {b o : Nat} (h : w.there b o 4) (g i m : Int) (A : Option Addr) (n c : Nat) : (partSet ⟨b, o, none⟩ (.agg #[.int .i64 g, .int .i64 i, .int .u8 m, .slice A n c])).run Tryd.prog w = .ok () (w.setCells b o (partC g i m A n c)) := by
  unfold partSet; exact run_storeVar_mid w b o 100 (partC g i m A n c).toArray (by simpa [partC] using h) (by rw [sizePart]; rfl) (all_oneCell_toArray (partC_one g i m A n c))
def partZ : List Value := [.int .i64 0, .int .i64 0, .int .u8 0, .slice none 0 0]
theorem there_part (w : World) : (w.alloc (.cells #[.int .i64 0, .int .i64 0, .int .u8 0, .slice none 0 0] 100)).there w.heap.size 0 4 := there_new w partZ 100
/-- Behind the region: the part lies in a block of its own. -/
def UnMid (w2 : World) (p : Part) (s4 : Value) (wx : World) : Prop :=
  ∃ b A n c, s4 = .pointer (some ⟨b, 0, none⟩) ∧ w2.heap.size ≤ b ∧ n = p.data.length ∧ wx.rangeAt b 0 (partC p.gen p.index p.marks.toNat A n c) ∧ RowOf wx 1 A n c (Lib.byteCells p.data) ∧ Below w2.heap.size w2 wx ∧ (∀ x, A = some x → w2.heap.size ≤ x.block)
theorem unmid_of {w2 X : World} {p : Part} {b : Nat} {A : Option Addr} {n c : Nat} (ht : X.there b 0 4) (hb : w2.heap.size ≤ b) (hB : Below w2.heap.size w2 X) (hn : n = p.data.length) (hrow : RowOf X 1 A n c (Lib.byteCells p.data)) (hne : ∀ x, A = some x → 0 < n → x.block ≠ b) (hlo : ∀ x, A = some x → w2.heap.size ≤ x.block) :
    UnMid w2 p (.pointer (some ⟨b, 0, none⟩)) (X.setCells b 0 (partC p.gen p.index p.marks.toNat A n c)) :=
  ⟨b, A, n, c, rfl, hb, hn, World.rangeAt_setCells_same _ _ _ _ ht, hrow.keep (by rw [size_setCells]; exact Nat.le_refl _) (fun x hx h0 hl => heap_setCells _ _ (hne x hx h0) _ _ _), below_setCells _ hb _ _ _ hB, hlo⟩
/-- A part's bytes lie in a block of its own. -/
def PartNew (w : World) (v : Value) : Prop := ∀ g i m A n c, v = .agg #[g, i, m, .slice A n c] → ∀ x, A = some x → w.heap.size ≤ x.block
theorem partNew_mk {w : World} {g i m : Value} {A : Option Addr} {n c : Nat} (h : ∀ x, A = some x → w.heap.size ≤ x.block) : PartNew w (.agg #[g, i, m, .slice A n c]) := by
  intro g' i' m' A' n' c' e
  injection e with e; injection e with e; injection e with _ e; injection e with _ e; injection e with _ e; injection e with e _
  injection e with e1 e2 e3
  subst e1
  exact h
theorem partNew_zero (w : World) : PartNew w (.agg #[.int .i64 0, .int .i64 0, .int .u8 0, .slice none 0 0]) := partNew_mk (fun x hx => by cases hx)
/-- The part that a sector tells, and whether it is sealed. -/
def SaysPost (s : Sec) (w : World) (e : Ending) (w' : World) : Prop := ∃ v p, e = .returned (.tuple #[v, .bool (goodS s)]) ∧ PartAt w' v p ∧ PartNew w v ∧ (fitS s = true → p = rawP s) ∧ p.data.length ≤ 100 ∧ Below w.heap.size w w'
set_option maxHeartbeats 1000000 in
theorem says_bad (w : World) (s : Sec) (hL : Laid w) (hf : fitS s = false) : Calls Tryd.prog 79 #[secV s] w fun e w' => SaysPost s w e w' := by
  have HL := Lib.hid hL
  clear hL
  obtain ⟨w2, hw2⟩ : ∃ w2, w2 = (w.alloc (secO s)).alloc (.cells #[.int .i64 0, .int .i64 0, .int .u8 0, .slice none 0 0] 100) := ⟨_, rfl⟩
  have HB2 := Lib.hid (show Below w.heap.size w w2 by rw [hw2]; exact below_two _ _ _)
  have HS2 := Lib.hid (show w2.heap.size = w.heap.size + 2 by rw [hw2]; simp)
  have HR2 := Lib.hid (show w2.rangeAt w.heap.size 0 (secC s) by
    rw [hw2]; exact range_below (range_new w (secC s) 81) ((Below.refl (w.heap.size + 1) _).alloc (by simp) _) (by omega))
  have HP2 := Lib.hid (show w2.rangeAt (w.heap.size + 1) 0 [.int .i64 0, .int .i64 0, .int .u8 0, .slice none 0 0] ∧ w2.there (w.heap.size + 1) 0 4 by
    have h1 := range_new (w.alloc (secO s)) [.int .i64 0, .int .i64 0, .int .u8 0, .slice none 0 0] 100
    have h2 := there_new (w.alloc (secO s)) [.int .i64 0, .int .i64 0, .int .u8 0, .slice none 0 0] 100
    rw [size_alloc] at h1 h2
    rw [hw2]; exact ⟨h1, h2⟩)
  have hcell : ∀ j, j < 128 → w2.cell? ⟨w.heap.size, j, none⟩ = some (.int .u8 (s.1.getD j 0).toNat) := fun j hj => by
    have := HR2.out j (.int .u8 (s.1.getD j 0).toNat) (by
      rw [secC, Lib.byteCells, List.getElem?_map, List.getElem?_eq_getElem (by rw [s.2]; exact hj), List.getD_eq_getElem?_getD, List.getElem?_eq_getElem (by rw [s.2]; exact hj)]; rfl)
    rwa [Nat.zero_add] at this
  have HC := Lib.hid hcell
  have c6 := hcell 6 (by omega)
  have c7 := hcell 7 (by omega)
  have c12 := hcell 12 (by omega)
  have c13 := hcell 13 (by omega)
  have hfit : fitS s = (!(decide (100 < (s.1.getD 12 0).toNat) || decide (3 < (s.1.getD 13 0).toNat) || !(s.1.getD 6 0 ||| s.1.getD 7 0 == 0))) := rfl
  have hraw : rawP s = ⟨toldB (s.1.take 6), toldB ((s.1.drop 8).take 4), s.1.getD 13 0, (s.1.drop 14).take (s.1.getD 12 0).toNat⟩ := rfl
  have hor := or_u8 (s.1.getD 6 0) (s.1.getD 7 0)
  have hzz : (s.1.getD 6 0 ||| s.1.getD 7 0 == 0) = decide ((s.1.getD 6 0 ||| s.1.getD 7 0).toNat = 0) := by
    rw [Bool.eq_iff_iff, beq_iff_eq, decide_eq_true_eq, ← UInt8.toNat_inj]; rfl
  rw [hw2] at c6 c7 c12 c13
  clear hcell
  generalize s.1.getD 6 0 = x6 at *
  generalize s.1.getD 7 0 = x7 at *
  generalize s.1.getD 12 0 = x12 at *
  generalize s.1.getD 13 0 = x13 at *
  rw [hzz] at hfit
  clear hzz
  generalize (x6 ||| x7).toNat = z at *
  have HFIT := Lib.hid hfit
  have HRAW := Lib.hid hraw
  have HW := Lib.hid hw2
  clear hfit hraw hw2
  have HF := Lib.hid hf
  clear hf
  have hx12 := x12.toNat_lt
  by_cases h100 : 100 < x12.toNat
  · have HBAD := Lib.hid (show fitS s = false by rw [HFIT.out]; simp [h100])
    have hd : decide ((100 : Int) < (x12.toNat : Int)) = true := by simp; omega
    clear hor
    go_enter Tryd.func79, Tryd.ntmps79
    have HGB := Lib.hid (show goodS s = false by rw [goodS, HBAD.out]; rfl)
    go_wp2_with fail
    refine bodyPost_ret (ret_cell_tmp rfl rfl (load_part (by rw [← HW.out]; exact HP2.out.1))) rfl ?_
    refine ⟨_, ⟨0, 0, 0, []⟩, by rw [HGB.out]; rfl, part_zero _, partNew_zero _, fun h => absurd h (by rw [HBAD.out]; decide), by decide, by rw [← HW.out]; exact HB2.out⟩
  by_cases h3 : 3 < x13.toNat
  · have HBAD := Lib.hid (show fitS s = false by rw [HFIT.out]; simp [h3])
    have hd : decide ((100 : Int) < (x12.toNat : Int)) = false := by simp; omega
    have hd3 : decide ((3 : Int) < (x13.toNat : Int)) = true := by simp; omega
    clear hor
    have HGB := Lib.hid (show goodS s = false by rw [goodS, HBAD.out]; rfl)
    go_enter Tryd.func79, Tryd.ntmps79
    go_wp2_with fail
    refine bodyPost_ret (ret_cell_tmp rfl rfl (load_part (by rw [← HW.out]; exact HP2.out.1))) rfl ?_
    refine ⟨_, ⟨0, 0, 0, []⟩, by rw [HGB.out]; rfl, part_zero _, partNew_zero _, fun h => absurd h (by rw [HBAD.out]; decide), by decide, by rw [← HW.out]; exact HB2.out⟩
  have hd : decide ((100 : Int) < (x12.toNat : Int)) = false := by simp; omega
  have hd3 : decide ((3 : Int) < (x13.toNat : Int)) = false := by simp; omega
  by_cases hz : z = 0
  case neg =>
    have hz0 : ((z : Int) == 0) = false := by rw [beq_eq_false_iff_ne]; omega
    have hz1 : ((z : Int) != 0) = true := by rw [bne, hz0]; rfl
    have HBAD := Lib.hid (show fitS s = false by rw [HFIT.out]; simp [hz])
    have HGB := Lib.hid (show goodS s = false by rw [goodS, HBAD.out]; rfl)
    clear hz
    go_enter Tryd.func79, Tryd.ntmps79
    go_wp2_with fail
    refine bodyPost_ret (ret_cell_tmp rfl rfl (load_part (by rw [← HW.out]; exact HP2.out.1))) rfl ?_
    refine ⟨_, ⟨0, 0, 0, []⟩, by rw [HGB.out]; rfl, part_zero _, partNew_zero _, fun h => absurd h (by rw [HBAD.out]; decide), by decide, by rw [← HW.out]; exact HB2.out⟩
  case pos =>
    have := HF.out
    rw [HFIT.out] at this
    simp [hz] at this
    omega

attribute [local go_sem ↓] partSet_def
set_option maxHeartbeats 4000000 in
theorem says_ok (w : World) (s : Sec) (hL : Laid w) (hf : fitS s = true) : Calls Tryd.prog 79 #[secV s] w fun e w' => SaysPost s w e w' := by
  have HL := Lib.hid hL
  clear hL
  obtain ⟨w2, hw2⟩ : ∃ w2, w2 = (w.alloc (secO s)).alloc (.cells #[.int .i64 0, .int .i64 0, .int .u8 0, .slice none 0 0] 100) := ⟨_, rfl⟩
  have HB2 := Lib.hid (show Below w.heap.size w w2 by rw [hw2]; exact below_two _ _ _)
  have HS2 := Lib.hid (show w2.heap.size = w.heap.size + 2 by rw [hw2]; simp)
  have HR2 := Lib.hid (show w2.rangeAt w.heap.size 0 (secC s) by
    rw [hw2]; exact range_below (range_new w (secC s) 81) ((Below.refl (w.heap.size + 1) _).alloc (by simp) _) (by omega))
  have HP2 := Lib.hid (show w2.rangeAt (w.heap.size + 1) 0 [.int .i64 0, .int .i64 0, .int .u8 0, .slice none 0 0] ∧ w2.there (w.heap.size + 1) 0 4 by
    have h1 := range_new (w.alloc (secO s)) [.int .i64 0, .int .i64 0, .int .u8 0, .slice none 0 0] 100
    have h2 := there_new (w.alloc (secO s)) [.int .i64 0, .int .i64 0, .int .u8 0, .slice none 0 0] 100
    rw [size_alloc] at h1 h2
    rw [hw2]; exact ⟨h1, h2⟩)
  have hcell : ∀ j, j < 128 → w2.cell? ⟨w.heap.size, j, none⟩ = some (.int .u8 (s.1.getD j 0).toNat) := fun j hj => by
    have := HR2.out j (.int .u8 (s.1.getD j 0).toNat) (by
      rw [secC, Lib.byteCells, List.getElem?_map, List.getElem?_eq_getElem (by rw [s.2]; exact hj), List.getD_eq_getElem?_getD, List.getElem?_eq_getElem (by rw [s.2]; exact hj)]; rfl)
    rwa [Nat.zero_add] at this
  have HC := Lib.hid hcell
  have c6 := hcell 6 (by omega)
  have c7 := hcell 7 (by omega)
  have c12 := hcell 12 (by omega)
  have c13 := hcell 13 (by omega)
  have hfit : fitS s = (!(decide (100 < (s.1.getD 12 0).toNat) || decide (3 < (s.1.getD 13 0).toNat) || !(s.1.getD 6 0 ||| s.1.getD 7 0 == 0))) := rfl
  have hraw : rawP s = ⟨toldB (s.1.take 6), toldB ((s.1.drop 8).take 4), s.1.getD 13 0, (s.1.drop 14).take (s.1.getD 12 0).toNat⟩ := rfl
  have hor := or_u8 (s.1.getD 6 0) (s.1.getD 7 0)
  have hzz : (s.1.getD 6 0 ||| s.1.getD 7 0 == 0) = decide ((s.1.getD 6 0 ||| s.1.getD 7 0).toNat = 0) := by
    rw [Bool.eq_iff_iff, beq_iff_eq, decide_eq_true_eq, ← UInt8.toNat_inj]; rfl
  rw [hw2] at c6 c7 c12 c13
  clear hcell
  generalize s.1.getD 6 0 = x6 at *
  generalize s.1.getD 7 0 = x7 at *
  generalize s.1.getD 12 0 = x12 at *
  generalize s.1.getD 13 0 = x13 at *
  rw [hzz] at hfit
  clear hzz
  generalize (x6 ||| x7).toNat = z at *
  have HFIT := Lib.hid hfit
  have HRAW := Lib.hid hraw
  have HW := Lib.hid hw2
  clear hfit hraw hw2
  have HOK := Lib.hid hf
  have hx12 := x12.toNat_lt
  rw [HFIT.out] at hf
  simp at hf
  have h100 : ¬ 100 < x12.toNat := by omega
  have h3 : ¬ 3 < x13.toNat := by omega
  have hz : z = 0 := by omega
  clear hf
  have hd : decide ((100 : Int) < (x12.toNat : Int)) = false := by simp; omega
  have hd3 : decide ((3 : Int) < (x13.toNat : Int)) = false := by simp; omega
  have hz0 : ((z : Int) == 0) = true := by rw [beq_iff_eq]; omega
  have hz1 : ((z : Int) != 0) = false := by rw [bne, hz0]; rfl
  clear hz
  go_enter Tryd.func79, Tryd.ntmps79
  have hx : x12.toNat ≤ 100 := by omega
  have HDL := Lib.hid (show x12.toNat = ((s.1.drop 14).take x12.toNat).length by rw [List.length_take, List.length_drop, s.2]; omega)
  have HK := Lib.hid (show ∀ W, Below w2.heap.size w2 W → W.cell? ⟨w.heap.size, 12, none⟩ = some (.int .u8 x12.toNat) ∧ W.cell? ⟨w.heap.size, 13, none⟩ = some (.int .u8 x13.toNat) from fun W hW =>
    ⟨(hW.cell (p := ⟨w.heap.size, 12, none⟩) (by have := HS2.out; show w.heap.size < _; omega)).trans (by rw [HW.out]; exact c12), (hW.cell (p := ⟨w.heap.size, 13, none⟩) (by have := HS2.out; show w.heap.size < _; omega)).trans (by rw [HW.out]; exact c13)⟩)
  have HRW := Lib.hid (show ∀ W, Below w2.heap.size w2 W → W.rangeAt w.heap.size 0 (Lib.byteCells s.1) ∧ w.heap.size < W.heap.size from fun W hW => ⟨range_below HR2.out hW (by have := HS2.out; omega), by have := HS2.out; have := hW.size; omega⟩)
  have HT6 := Lib.hid (show ∀ W, Below w2.heap.size w2 W → Calls Tryd.prog 65 #[.slice (some ⟨w.heap.size, 0, none⟩) 6 128] W fun e w' => e = .returned (.int .i64 (toldB (s.1.take 6) : Int)) ∧ Below w2.heap.size w2 w' ∧ Below W.heap.size W w' from fun W hW =>
    (told_f W (s.1.take 6) (some ⟨w.heap.size, 0, none⟩) 6 128 (by rw [List.length_take, s.2]; rfl) (by omega) (row_dt (HRW.out W hW).1 (HRW.out W hW).2 0 6 128 (by rw [s.2]; omega) (by omega) (by omega))).mono fun _ _ ⟨h1, h2⟩ => ⟨h1, below_chain hW h2, h2⟩)
  have HT4 := Lib.hid (show ∀ W, Below w2.heap.size w2 W → Calls Tryd.prog 65 #[.slice (some ⟨w.heap.size, 8, none⟩) 4 120] W fun e w' => e = .returned (.int .i64 (toldB ((s.1.drop 8).take 4) : Int)) ∧ Below w2.heap.size w2 w' ∧ Below W.heap.size W w' from fun W hW =>
    (told_f W ((s.1.drop 8).take 4) (some ⟨w.heap.size, 8, none⟩) 4 120 (by rw [List.length_take, List.length_drop, s.2]; rfl) (by omega) (by have := row_dt (HRW.out W hW).1 (HRW.out W hW).2 8 4 120 (by rw [s.2]; omega) (by omega) (by omega); rwa [Nat.zero_add] at this)).mono fun _ _ ⟨h1, h2⟩ => ⟨h1, below_chain hW h2, h2⟩)
  have HTC := Lib.hid (show ∀ W, Below w2.heap.size w2 W → Calls Tryd.prog 96 #[.slice (some ⟨w.heap.size, 14, none⟩) x12.toNat 114] W fun e w' => ∃ v, e = .returned v ∧ (∃ A c, v = .slice A x12.toNat c ∧ RowOf w' 1 A x12.toNat c (Lib.byteCells ((s.1.drop 14).take x12.toNat)) ∧ (∀ x, A = some x → W.heap.size ≤ x.block)) ∧ Below w2.heap.size w2 w' ∧ Below W.heap.size W w' from fun W hW =>
    (bclone_f W (some ⟨w.heap.size, 14, none⟩) x12.toNat 114 ((s.1.drop 14).take x12.toNat) (by have := row_dt (HRW.out W hW).1 (HRW.out W hW).2 14 x12.toNat 114 (by rw [s.2]; omega) (by omega) (by omega); rwa [Nat.zero_add] at this) (by omega)).mono fun _ _ ⟨⟨v, h1, h2⟩, h3⟩ => by
      obtain ⟨A, c, e1, e2, e3⟩ := row_of_own h2
      exact ⟨v, h1, ⟨A, c, e1, e2, e3⟩, below_chain hW h3, h3⟩)
  have s1 : IntKind.i64.wrap (14 + (x12.toNat : Int)) = 14 + (x12.toNat : Int) := IntWalk.i64_in _ (by omega)
  have s2 : (0 : Int) ≤ 14 + (x12.toNat : Int) := by omega
  have s3 : (14 : Int) ≤ 14 + (x12.toNat : Int) := by omega
  have s4 : 14 + (x12.toNat : Int) ≤ 128 := by omega
  have s5 : (14 + (x12.toNat : Int)).toNat = 14 + x12.toNat := by omega
  have s6 : IntKind.i64.wrap (x12.toNat : Int) = (x12.toNat : Int) := IntWalk.i64_in _ (by omega)
  have hb0 : Below w2.heap.size w2 w2.drew := (Below.refl _ _).drew
  go_wp2_with fail
  rw [← HW.out]
  clear c6 c7 c12 c13
  go_cut [4] from 5 to 51 (fun s4 wx => UnMid w2 ⟨toldB (s.1.take 6), toldB ((s.1.drop 8).take 4), x13, (s.1.drop 14).take x12.toNat⟩ s4 wx)
  case first =>
    have HKS := Lib.hid (show ∀ W b cs, Below w2.heap.size w2 W → w2.heap.size ≤ b → (W.setCells b 0 cs).cell? ⟨w.heap.size, 12, none⟩ = some (.int .u8 x12.toNat) ∧ (W.setCells b 0 cs).cell? ⟨w.heap.size, 13, none⟩ = some (.int .u8 x13.toNat) from fun W b cs hW hb => HK.out _ (below_setCells b hb cs 0 W hW))
    go_region_held3 (fun W => W.cell? ⟨w.heap.size, 12, none⟩ = some (.int .u8 x12.toNat) ∧ W.cell? ⟨w.heap.size, 13, none⟩ = some (.int .u8 x13.toNat)) (first | exact HK.out _ (by assumption) | exact HK.out _ (below_new (by assumption) _) | ((refine HKS.out _ _ _ ?_ ?_) <;> first | assumption | exact below_new (by assumption) _ | exact Nat.le_refl _ | exact hba.size | exact hbb.size | exact hbc.size))
      (first
        | (go_at_call 65
           (with_reducible refine (HT6.out _ ?_).mono ?_)
           · first | assumption | exact below_new (by assumption) _
           rintro e wa ⟨rfl, hba, hxa⟩)
        | (go_at_call 65
           (with_reducible refine (HT4.out _ ?_).mono ?_)
           · first | assumption | exact below_new (by assumption) _
           rintro e wb ⟨rfl, hbb, hxb⟩)
        | (go_at_call 96
           (with_reducible refine (HTC.out _ ?_).mono ?_)
           · first | assumption | exact below_new (by assumption) _
           rintro e wc ⟨v, rfl, ⟨A, c, rfl, hrow, hrb⟩, hbc, hxc⟩
           have hs0 := fun g i m A n c => store_part (there_part wc) g i m A n c
           first
             | have hs1 := fun g i m A n c => store_part (there_below (there_part wb) hxc (by simp)) g i m A n c
             | have hs1 := fun g i m A n c => store_part (there_below (there_below (there_part wa) hxb (by simp)) hxc (by have := hxb.size; simp at this; omega)) g i m A n c
             | have hs1 := fun g i m A n c => store_part (there_below (there_below (there_below (show (w2.drew.alloc (.cells #[.int .i64 0, .int .i64 0, .int .u8 0, .slice none 0 0] 100)).there w2.heap.size 0 4 from there_part w2.drew) hxa (by simp)) hxb (by have := hxa.size; simp at this; omega)) hxc (by have := hxa.size; have := hxb.size; simp at *; omega)) g i m A n c
             | skip))
    all_goals go_wp2_with fail
    all_goals go_meet
    · have h1 := hrow.kept ((Below.refl _ wc).alloc (Nat.le_refl _) (.cells #[.int .i64 0, .int .i64 0, .int .u8 0, .slice none 0 0] 100)) (Nat.le_refl _)
      exact unmid_of (there_part wc) hbc.size (below_new hbc _) HDL.out h1 (fun x hx h0 e => by have := (hrow.2.2.2.2 x hx h0).2.1; omega) (fun x hx => Nat.le_trans hbb.size (hrb x hx))
    · exact unmid_of (there_below (there_part wb) hxc (by simp)) hbb.size hbc HDL.out hrow (fun x hx hl e => by have := hrb x hx; simp at this; omega) (fun x hx => Nat.le_trans hbb.size (by have := hrb x hx; simp at this; omega))
    · exact unmid_of (there_below (there_below (there_part wa) hxb (by simp)) hxc (by have := hxb.size; simp at this; omega)) hba.size hbc HDL.out hrow (fun x hx hl e => by have := hrb x hx; have := hxb.size; simp at *; omega) (fun x hx => Nat.le_trans hbb.size (hrb x hx))
    · exact unmid_of (there_below (there_below (there_below (show (w2.drew.alloc (.cells #[.int .i64 0, .int .i64 0, .int .u8 0, .slice none 0 0] 100)).there w2.heap.size 0 4 from there_part w2.drew) hxa (by simp)) hxb (by have := hxa.size; simp at this; omega)) hxc (by have := hxa.size; have := hxb.size; simp at *; omega)) (Nat.le_refl _) hbc HDL.out hrow (fun x hx hl e => by have := hrb x hx; have := hxb.size; have := hxa.size; simp at *; omega) (fun x hx => Nat.le_trans hbb.size (hrb x hx))
  case rest =>
    rename World => wx
    obtain ⟨b4, A, n, c, rfl, hb4, hn, hr4, hrow, hbx, hlo⟩ := hcut
    have HLO := Lib.hid hlo
    clear hlo
    obtain ⟨p, hp⟩ : ∃ p : Part, p = ⟨toldB (s.1.take 6), toldB ((s.1.drop 8).take 4), x13, (s.1.drop 14).take x12.toNat⟩ := ⟨_, rfl⟩
    rw [← hp] at hn hr4 hrow
    have HRP := Lib.hid (show rawP s = p by rw [HRAW.out, hp])
    have hg0 : 0 ≤ p.gen := by rw [hp]; exact Int.natCast_nonneg _
    have HDL2 := Lib.hid (show p.data.length ≤ 100 by rw [hp]; have := HDL.out; show (List.take x12.toNat (List.drop 14 s.1)).length ≤ 100; omega)
    clear hp
    have hb4x : b4 < wx.heap.size := range_lt hr4 (by simp [partC])
    have hz1 := HS2.out
    have hz2 := hbx.size
    have HTX := Lib.hid (show wx.there (w.heap.size + 1) 0 4 from there_below HP2.out.2 hbx (by omega))
    have HSX := Lib.hid (show wx.rangeAt w.heap.size 0 (secC s) from range_below HR2.out hbx (by omega))
    have HNE := Lib.hid (show b4 ≠ w.heap.size + 1 ∧ b4 ≠ w.heap.size ∧ b4 < wx.heap.size ∧ w.heap.size + 1 < wx.heap.size by omega)
    have HN := Lib.hid hn
    have HR4 := Lib.hid hr4
    have HROW := Lib.hid hrow
    have HBX := Lib.hid (below_chain HB2.out hbx)
    have HLX := Lib.hid (HL.out.below HBX.out HL.out.size)
    clear hb4 hn hr4 hrow hbx hb4x hz1 hz2
    have HK4 := Lib.hid (show ∀ W, Below wx.heap.size wx W → W.rangeAt w.heap.size 0 (secC s) ∧ W.cell? ⟨b4, 0, none⟩ = some (.int .i64 p.gen) ∧ W.cell? ⟨b4, 1, none⟩ = some (.int .i64 p.index) ∧ W.cell? ⟨b4, 2, none⟩ = some (.int .u8 p.marks.toNat) ∧ W.cell? ⟨b4, 3, none⟩ = some (.slice A n c) ∧ (partSet ⟨w.heap.size + 1, 0, none⟩ (.agg #[.int .i64 p.gen, .int .i64 p.index, .int .u8 p.marks.toNat, .slice A n c])).run Tryd.prog W = .ok () (W.setCells (w.heap.size + 1) 0 (partC p.gen p.index p.marks.toNat A n c)) from fun W hW => by
      have h1 := range_below HR4.out hW HNE.out.2.2.1
      have hk : ∀ j u, (partC p.gen p.index p.marks.toNat A n c)[j]? = some u → W.cell? ⟨b4, j, none⟩ = some u := fun j u hu => by have := h1 j u hu; rwa [Nat.zero_add] at this
      exact ⟨range_below HSX.out hW (by have := HNE.out.2.2.2; omega), hk 0 _ rfl, hk 1 _ rfl, hk 2 _ rfl, hk 3 _ rfl, store_part (there_below HTX.out hW HNE.out.2.2.2) _ _ _ _ _ _⟩)
    have HKS := Lib.hid (show ∀ W cs, Below wx.heap.size wx W → (W.setCells (w.heap.size + 1) 0 cs).rangeAt w.heap.size 0 (secC s) ∧ (W.setCells (w.heap.size + 1) 0 cs).cell? ⟨b4, 0, none⟩ = some (.int .i64 p.gen) ∧ (W.setCells (w.heap.size + 1) 0 cs).cell? ⟨b4, 1, none⟩ = some (.int .i64 p.index) ∧ (W.setCells (w.heap.size + 1) 0 cs).cell? ⟨b4, 2, none⟩ = some (.int .u8 p.marks.toNat) ∧ (W.setCells (w.heap.size + 1) 0 cs).cell? ⟨b4, 3, none⟩ = some (.slice A n c) ∧ (partSet ⟨w.heap.size + 1, 0, none⟩ (.agg #[.int .i64 p.gen, .int .i64 p.index, .int .u8 p.marks.toNat, .slice A n c])).run Tryd.prog (W.setCells (w.heap.size + 1) 0 cs) = .ok () ((W.setCells (w.heap.size + 1) 0 cs).setCells (w.heap.size + 1) 0 (partC p.gen p.index p.marks.toNat A n c)) from fun W cs hW => by
      have h1 := range_keepb (range_below HR4.out hW HNE.out.2.2.1) (heap_setCells (w.heap.size + 1) b4 HNE.out.1 cs 0 W)
      have hk : ∀ j u, (partC p.gen p.index p.marks.toNat A n c)[j]? = some u → (W.setCells (w.heap.size + 1) 0 cs).cell? ⟨b4, j, none⟩ = some u := fun j u hu => by have := h1 j u hu; rwa [Nat.zero_add] at this
      exact ⟨range_keepb (range_below HSX.out hW (by have := HNE.out.2.2.2; omega)) (heap_setCells (w.heap.size + 1) w.heap.size (by omega) cs 0 W), hk 0 _ rfl, hk 1 _ rfl, hk 2 _ rfl, hk 3 _ rfl, store_part (World.there_setCells (there_below HTX.out hW HNE.out.2.2.2) _ _ _) _ _ _ _ _ _⟩)
    have HSEC := Lib.hid (show ∀ W, Below wx.heap.size wx W → Calls Tryd.prog 53 #[.agg #[.int .i64 p.gen, .int .i64 p.index, .int .u8 p.marks.toNat, .slice A n c]] W fun e w' => e = .returned (secV p.sec) ∧ Below wx.heap.size wx w' from fun W hW =>
      (sec_f W _ p ⟨A, n, c, rfl, HN.out, HROW.out.kept hW (Nat.le_refl _)⟩ (by have := HDL2.out; have := HN.out; omega) (HLX.out.below hW (by have := HLX.out.size; omega))).mono fun _ _ ⟨h1, h2⟩ => ⟨h1, below_chain hW h2⟩)
    have heq : ∀ W, (secEql (secV p.sec) (secV s)).run Tryd.prog W = .ok (.bool (decide (p.sec = s))) W := fun W => eql_secs p.sec s W
    have HFIN := Lib.hid (show ∀ W, Below wx.heap.size wx W → (loadVar 100 ⟨w.heap.size + 1, 0, none⟩).run Tryd.prog (W.setCells (w.heap.size + 1) 0 (partC p.gen p.index p.marks.toNat A n c)) = .ok (.agg #[.int .i64 p.gen, .int .i64 p.index, .int .u8 p.marks.toNat, .slice A n c]) (W.setCells (w.heap.size + 1) 0 (partC p.gen p.index p.marks.toNat A n c)) from fun W hW => load_part (World.rangeAt_setCells_same _ _ _ _ (there_below HTX.out hW HNE.out.2.2.2)))
    have HOUT := Lib.hid (show ∀ W b, Below wx.heap.size wx W → goodS s = b → SaysPost s w (.returned (.tuple #[.agg #[.int .i64 p.gen, .int .i64 p.index, .int .u8 p.marks.toNat, .slice A n c], .bool b])) (W.setCells (w.heap.size + 1) 0 (partC p.gen p.index p.marks.toNat A n c)) from fun W b hW hb => by
      refine ⟨_, p, by rw [hb], ⟨A, n, c, rfl, HN.out, (HROW.out.kept hW (Nat.le_refl _)).keep (by rw [size_setCells]; exact Nat.le_refl _) (fun x hx h0 hl => heap_setCells _ _ (by have := HLO.out x hx; have := HS2.out; omega) _ _ _)⟩, partNew_mk (fun x hx => by have := HLO.out x hx; have := HS2.out; omega), fun _ => HRP.out.symm, by have := HDL2.out; have := HN.out; omega, below_setCells _ (by omega) _ _ _ (below_chain HBX.out hW)⟩)
    have hb0 : Below wx.heap.size wx wx.drew := (Below.refl _ _).drew
    have hu := Tryd.underlying81
    have hi : (Tryd.prog.info? 81).map (·.size) = some (secC s).length := by rw [sizeSector, secC_length]
    by_cases h1 : 1 ≤ p.gen
    · have hd1 : decide ((1 : Int) ≤ p.gen) = true := by simp; omega
      by_cases h2 : p.gen ≤ 1099511627776
      · have hd2 : decide (p.gen ≤ 1099511627776) = true := by simp; omega
        go_wp2_with fail
        go_region_held3 (fun W => W.rangeAt w.heap.size 0 (secC s) ∧ W.cell? ⟨b4, 0, none⟩ = some (.int .i64 p.gen) ∧ W.cell? ⟨b4, 1, none⟩ = some (.int .i64 p.index) ∧ W.cell? ⟨b4, 2, none⟩ = some (.int .u8 p.marks.toNat) ∧ W.cell? ⟨b4, 3, none⟩ = some (.slice A n c) ∧ (partSet ⟨w.heap.size + 1, 0, none⟩ (.agg #[.int .i64 p.gen, .int .i64 p.index, .int .u8 p.marks.toNat, .slice A n c])).run Tryd.prog W = .ok () (W.setCells (w.heap.size + 1) 0 (partC p.gen p.index p.marks.toNat A n c)))
          (first | exact HK4.out _ (by assumption) | exact HKS.out _ _ (by assumption))
          (first
            | (go_at_call 53
               (with_reducible refine (HSEC.out _ ?_).mono ?_)
               · assumption
               rintro e wy ⟨rfl, hby⟩))
        go_wp2_with fail
        refine bodyPost_ret (ret_cell_tmp rfl rfl (HFIN.out _ hby)) rfl ?_
        exact HOUT.out _ _ hby (by rw [goodS, HOK.out, HRP.out]; simp [h1, h2])
      · have hd2 : decide (p.gen ≤ 1099511627776) = false := by simp; omega
        go_wp2_with fail
        refine wp_region_held_drew (S := fun W => W.rangeAt w.heap.size 0 (secC s) ∧ W.cell? ⟨b4, 0, none⟩ = some (.int .i64 p.gen) ∧ W.cell? ⟨b4, 1, none⟩ = some (.int .i64 p.index) ∧ W.cell? ⟨b4, 2, none⟩ = some (.int .u8 p.marks.toNat) ∧ W.cell? ⟨b4, 3, none⟩ = some (.slice A n c) ∧ (partSet ⟨w.heap.size + 1, 0, none⟩ (.agg #[.int .i64 p.gen, .int .i64 p.index, .int .u8 p.marks.toNat, .slice A n c])).run Tryd.prog W = .ok () (W.setCells (w.heap.size + 1) 0 (partC p.gen p.index p.marks.toNat A n c))) (by kernel_rfl) (HK4.out _ hb0) (fun hHeld => ?_)
        refine' wpAnyH_take (i := 0) (v := _) rfl (by kernel_rfl) (by kernel_rfl) (by kernel_rfl) (fun _ _ _ h => h) (Or.inl ⟨by rfl, ?hyA0⟩) (by assumption) ?restA0
        case hyA0 => (intro w hSw; (try dsimp only at hSw); go_simp; try with_reducible rfl)
        try simp only [Act.put, List.getElem_toArray, List.getElem_cons_zero, List.getElem_cons_succ, List.setIfInBounds_toArray, List.set_cons_zero, List.set_cons_succ]
        refine' wpAnyH_take (i := 1) (v := _) rfl (by kernel_rfl) (by kernel_rfl) (by kernel_rfl) (fun _ _ _ h => h) (Or.inl ⟨by rfl, ?hyA1⟩) (by assumption) ?restA1
        case hyA1 => (intro w hSw; (try dsimp only at hSw); go_simp; try with_reducible rfl)
        try simp only [Act.put, List.getElem_toArray, List.getElem_cons_zero, List.getElem_cons_succ, List.setIfInBounds_toArray, List.set_cons_zero, List.set_cons_succ]
        refine' wpAnyH_take (i := 2) (v := _) rfl (by kernel_rfl) (by kernel_rfl) (by kernel_rfl) (fun _ _ _ h => h) (Or.inl ⟨by rfl, ?hyA2⟩) (by assumption) ?restA2
        case hyA2 => (intro w hSw; (try dsimp only at hSw); go_simp; try with_reducible rfl)
        try simp only [Act.put, List.getElem_toArray, List.getElem_cons_zero, List.getElem_cons_succ, List.setIfInBounds_toArray, List.set_cons_zero, List.set_cons_succ]
        refine' wpAnyH_take (i := 3) (v := _) rfl (by kernel_rfl) (by kernel_rfl) (by kernel_rfl) (fun _ _ _ h => h) (Or.inl ⟨by rfl, ?hyA3⟩) (by assumption) ?restA3
        case hyA3 => (intro w hSw; (try dsimp only at hSw); go_simp; try with_reducible rfl)
        try simp only [Act.put, List.getElem_toArray, List.getElem_cons_zero, List.getElem_cons_succ, List.setIfInBounds_toArray, List.set_cons_zero, List.set_cons_succ]
        refine' wpAnyH_take (i := 4) (v := _) rfl (by kernel_rfl) (by kernel_rfl) (by kernel_rfl) (fun _ _ _ h => h) (Or.inl ⟨by rfl, ?hyA4⟩) (by assumption) ?restA4
        case hyA4 => (intro w hSw; (try dsimp only at hSw); go_simp; try with_reducible rfl)
        try simp only [Act.put, List.getElem_toArray, List.getElem_cons_zero, List.getElem_cons_succ, List.setIfInBounds_toArray, List.set_cons_zero, List.set_cons_succ]
        refine' wpAnyH_take (i := 5) (v := _) rfl (by kernel_rfl) (by kernel_rfl) (by kernel_rfl) (fun _ _ _ h => h) (Or.inl ⟨by rfl, ?hyA5⟩) (by assumption) ?restA5
        case hyA5 => (intro w hSw; (try dsimp only at hSw); go_simp; try with_reducible rfl)
        try simp only [Act.put, List.getElem_toArray, List.getElem_cons_zero, List.getElem_cons_succ, List.setIfInBounds_toArray, List.set_cons_zero, List.set_cons_succ]
        refine' wpAnyH_take (i := 6) (v := _) rfl (by kernel_rfl) (by kernel_rfl) (by kernel_rfl) (fun _ _ _ h => h) (Or.inl ⟨by rfl, ?hyA6⟩) (by assumption) ?restA6
        case hyA6 => (intro w hSw; (try dsimp only at hSw); go_simp; try with_reducible rfl)
        try simp only [Act.put, List.getElem_toArray, List.getElem_cons_zero, List.getElem_cons_succ, List.setIfInBounds_toArray, List.set_cons_zero, List.set_cons_succ]
        refine' wpAnyH_take (i := 7) (v := _) rfl (by kernel_rfl) (by kernel_rfl) (by kernel_rfl) (fun _ _ _ h => h) (Or.inl ⟨by rfl, ?hyA7⟩) (by assumption) ?restA7
        case hyA7 => (intro w hSw; (try dsimp only at hSw); go_simp; try with_reducible rfl)
        try simp only [Act.put, List.getElem_toArray, List.getElem_cons_zero, List.getElem_cons_succ, List.setIfInBounds_toArray, List.set_cons_zero, List.set_cons_succ]
        refine' wpAnyH_take (i := 8) (v := _) rfl (by kernel_rfl) (by kernel_rfl) (by kernel_rfl) (fun _ _ _ h => h) (Or.inl ⟨by rfl, ?hyA8⟩) (by assumption) ?restA8
        case hyA8 => (intro w hSw; (try dsimp only at hSw); go_simp; try with_reducible rfl)
        try simp only [Act.put, List.getElem_toArray, List.getElem_cons_zero, List.getElem_cons_succ, List.setIfInBounds_toArray, List.set_cons_zero, List.set_cons_succ]
        refine' wpAnyH_take (i := 9) (v := _) rfl (by kernel_rfl) (by kernel_rfl) (by kernel_rfl) (fun _ _ _ h => h) (Or.inl ⟨by rfl, ?hyA9⟩) (by assumption) ?restA9
        case hyA9 => (intro w hSw; (try dsimp only at hSw); go_simp; try with_reducible rfl)
        try simp only [Act.put, List.getElem_toArray, List.getElem_cons_zero, List.getElem_cons_succ, List.setIfInBounds_toArray, List.set_cons_zero, List.set_cons_succ]
        refine' wpAnyH_take (i := 10) (v := _) rfl (by kernel_rfl) (by kernel_rfl) (by kernel_rfl) (fun _ _ _ h => h) (Or.inr ⟨by rfl, rfl⟩) (by assumption) ?restA10
        try simp only [Act.put, List.getElem_toArray, List.getElem_cons_zero, List.getElem_cons_succ, List.setIfInBounds_toArray, List.set_cons_zero, List.set_cons_succ]
        refine' wpAnyH_take (i := 11) (v := _) rfl (by kernel_rfl) (by kernel_rfl) (by kernel_rfl) (fun _ _ _ h => h) (Or.inr ⟨by rfl, rfl⟩) (by assumption) ?restA11
        try simp only [Act.put, List.getElem_toArray, List.getElem_cons_zero, List.getElem_cons_succ, List.setIfInBounds_toArray, List.set_cons_zero, List.set_cons_succ]
        refine' wpAnyH_take (i := 12) (v := _) rfl (by kernel_rfl) (by kernel_rfl) (by kernel_rfl) (fun _ _ _ h => h) (Or.inr ⟨by rfl, rfl⟩) (by assumption) ?restA12
        try simp only [Act.put, List.getElem_toArray, List.getElem_cons_zero, List.getElem_cons_succ, List.setIfInBounds_toArray, List.set_cons_zero, List.set_cons_succ]
        refine' wpAnyH_take (i := 13) (v := _) rfl (by kernel_rfl) (by kernel_rfl) (by kernel_rfl) (fun _ _ _ h => h) (Or.inr ⟨by rfl, rfl⟩) (by assumption) ?restA13
        try simp only [Act.put, List.getElem_toArray, List.getElem_cons_zero, List.getElem_cons_succ, List.setIfInBounds_toArray, List.set_cons_zero, List.set_cons_succ]
        refine' wpAnyH_take (i := 14) (v := _) rfl (by kernel_rfl) (by kernel_rfl) (by kernel_rfl) (fun _ _ _ h => h) (Or.inl ⟨by rfl, ?hyA14⟩) (by assumption) ?restA14
        case hyA14 => (intro w hSw; (try dsimp only at hSw); go_simp; try with_reducible rfl)
        try simp only [Act.put, List.getElem_toArray, List.getElem_cons_zero, List.getElem_cons_succ, List.setIfInBounds_toArray, List.set_cons_zero, List.set_cons_succ]
        refine wpAnyH_ready (rs := [15]) (by kernel_rfl) (by simp) (AllReadyH.cons rfl (fun K hK => ?_) AllReadyH.nil)
        go_simp
        refine hK.out _ _ (HKS.out _ _ hb0) (fun hHeld => ?_)
        clear hK K
        try simp only [Act.put, List.getElem_toArray, List.getElem_cons_zero, List.getElem_cons_succ, List.setIfInBounds_toArray, List.set_cons_zero, List.set_cons_succ]
        refine' wpAnyH_take (i := 16) (v := _) rfl (by kernel_rfl) (by kernel_rfl) (by kernel_rfl) (fun _ _ _ h => h) (Or.inl ⟨by rfl, ?hyA16⟩) (by assumption) ?restA16
        case hyA16 => (intro w hSw; (try dsimp only at hSw); go_simp; try with_reducible rfl)
        try simp only [Act.put, List.getElem_toArray, List.getElem_cons_zero, List.getElem_cons_succ, List.setIfInBounds_toArray, List.set_cons_zero, List.set_cons_succ]
        refine wpAnyH_done (by kernel_rfl) ?_ _
        clear hHeld
        go_wp2_with fail
        refine bodyPost_ret (ret_cell_tmp rfl rfl (HFIN.out _ hb0)) rfl ?_
        exact HOUT.out _ _ hb0 (by rw [goodS, HOK.out, HRP.out]; simp; intros; omega)
    · have hd1 : decide ((1 : Int) ≤ p.gen) = false := by simp; omega
      go_wp2_with fail
      refine wp_region_held_drew (S := fun W => W.rangeAt w.heap.size 0 (secC s) ∧ W.cell? ⟨b4, 0, none⟩ = some (.int .i64 p.gen) ∧ W.cell? ⟨b4, 1, none⟩ = some (.int .i64 p.index) ∧ W.cell? ⟨b4, 2, none⟩ = some (.int .u8 p.marks.toNat) ∧ W.cell? ⟨b4, 3, none⟩ = some (.slice A n c) ∧ (partSet ⟨w.heap.size + 1, 0, none⟩ (.agg #[.int .i64 p.gen, .int .i64 p.index, .int .u8 p.marks.toNat, .slice A n c])).run Tryd.prog W = .ok () (W.setCells (w.heap.size + 1) 0 (partC p.gen p.index p.marks.toNat A n c))) (by kernel_rfl) (HK4.out _ hb0) (fun hHeld => ?_)
      refine' wpAnyH_take (i := 0) (v := _) rfl (by kernel_rfl) (by kernel_rfl) (by kernel_rfl) (fun _ _ _ h => h) (Or.inl ⟨by rfl, ?hyB0⟩) (by assumption) ?restB0
      case hyB0 => (intro w hSw; (try dsimp only at hSw); go_simp; try with_reducible rfl)
      try simp only [Act.put, List.getElem_toArray, List.getElem_cons_zero, List.getElem_cons_succ, List.setIfInBounds_toArray, List.set_cons_zero, List.set_cons_succ]
      refine' wpAnyH_take (i := 1) (v := _) rfl (by kernel_rfl) (by kernel_rfl) (by kernel_rfl) (fun _ _ _ h => h) (Or.inl ⟨by rfl, ?hyB1⟩) (by assumption) ?restB1
      case hyB1 => (intro w hSw; (try dsimp only at hSw); go_simp; try with_reducible rfl)
      try simp only [Act.put, List.getElem_toArray, List.getElem_cons_zero, List.getElem_cons_succ, List.setIfInBounds_toArray, List.set_cons_zero, List.set_cons_succ]
      refine' wpAnyH_take (i := 2) (v := _) rfl (by kernel_rfl) (by kernel_rfl) (by kernel_rfl) (fun _ _ _ h => h) (Or.inl ⟨by rfl, ?hyB2⟩) (by assumption) ?restB2
      case hyB2 => (intro w hSw; (try dsimp only at hSw); go_simp; try with_reducible rfl)
      try simp only [Act.put, List.getElem_toArray, List.getElem_cons_zero, List.getElem_cons_succ, List.setIfInBounds_toArray, List.set_cons_zero, List.set_cons_succ]
      refine' wpAnyH_take (i := 3) (v := _) rfl (by kernel_rfl) (by kernel_rfl) (by kernel_rfl) (fun _ _ _ h => h) (Or.inl ⟨by rfl, ?hyB3⟩) (by assumption) ?restB3
      case hyB3 => (intro w hSw; (try dsimp only at hSw); go_simp; try with_reducible rfl)
      try simp only [Act.put, List.getElem_toArray, List.getElem_cons_zero, List.getElem_cons_succ, List.setIfInBounds_toArray, List.set_cons_zero, List.set_cons_succ]
      refine' wpAnyH_take (i := 4) (v := _) rfl (by kernel_rfl) (by kernel_rfl) (by kernel_rfl) (fun _ _ _ h => h) (Or.inl ⟨by rfl, ?hyB4⟩) (by assumption) ?restB4
      case hyB4 => (intro w hSw; (try dsimp only at hSw); go_simp; try with_reducible rfl)
      try simp only [Act.put, List.getElem_toArray, List.getElem_cons_zero, List.getElem_cons_succ, List.setIfInBounds_toArray, List.set_cons_zero, List.set_cons_succ]
      refine' wpAnyH_take (i := 5) (v := _) rfl (by kernel_rfl) (by kernel_rfl) (by kernel_rfl) (fun _ _ _ h => h) (Or.inr ⟨by rfl, rfl⟩) (by assumption) ?restB5
      try simp only [Act.put, List.getElem_toArray, List.getElem_cons_zero, List.getElem_cons_succ, List.setIfInBounds_toArray, List.set_cons_zero, List.set_cons_succ]
      refine' wpAnyH_take (i := 6) (v := _) rfl (by kernel_rfl) (by kernel_rfl) (by kernel_rfl) (fun _ _ _ h => h) (Or.inr ⟨by rfl, rfl⟩) (by assumption) ?restB6
      try simp only [Act.put, List.getElem_toArray, List.getElem_cons_zero, List.getElem_cons_succ, List.setIfInBounds_toArray, List.set_cons_zero, List.set_cons_succ]
      refine' wpAnyH_take (i := 7) (v := _) rfl (by kernel_rfl) (by kernel_rfl) (by kernel_rfl) (fun _ _ _ h => h) (Or.inr ⟨by rfl, rfl⟩) (by assumption) ?restB7
      try simp only [Act.put, List.getElem_toArray, List.getElem_cons_zero, List.getElem_cons_succ, List.setIfInBounds_toArray, List.set_cons_zero, List.set_cons_succ]
      refine' wpAnyH_take (i := 8) (v := _) rfl (by kernel_rfl) (by kernel_rfl) (by kernel_rfl) (fun _ _ _ h => h) (Or.inl ⟨by rfl, ?hyB8⟩) (by assumption) ?restB8
      case hyB8 => (intro w hSw; (try dsimp only at hSw); go_simp; try with_reducible rfl)
      try simp only [Act.put, List.getElem_toArray, List.getElem_cons_zero, List.getElem_cons_succ, List.setIfInBounds_toArray, List.set_cons_zero, List.set_cons_succ]
      refine' wpAnyH_take (i := 9) (v := _) rfl (by kernel_rfl) (by kernel_rfl) (by kernel_rfl) (fun _ _ _ h => h) (Or.inl ⟨by rfl, ?hyB9⟩) (by assumption) ?restB9
      case hyB9 => (intro w hSw; (try dsimp only at hSw); go_simp; try with_reducible rfl)
      try simp only [Act.put, List.getElem_toArray, List.getElem_cons_zero, List.getElem_cons_succ, List.setIfInBounds_toArray, List.set_cons_zero, List.set_cons_succ]
      refine' wpAnyH_take (i := 10) (v := _) rfl (by kernel_rfl) (by kernel_rfl) (by kernel_rfl) (fun _ _ _ h => h) (Or.inr ⟨by rfl, rfl⟩) (by assumption) ?restB10
      try simp only [Act.put, List.getElem_toArray, List.getElem_cons_zero, List.getElem_cons_succ, List.setIfInBounds_toArray, List.set_cons_zero, List.set_cons_succ]
      refine' wpAnyH_take (i := 11) (v := _) rfl (by kernel_rfl) (by kernel_rfl) (by kernel_rfl) (fun _ _ _ h => h) (Or.inr ⟨by rfl, rfl⟩) (by assumption) ?restB11
      try simp only [Act.put, List.getElem_toArray, List.getElem_cons_zero, List.getElem_cons_succ, List.setIfInBounds_toArray, List.set_cons_zero, List.set_cons_succ]
      refine' wpAnyH_take (i := 12) (v := _) rfl (by kernel_rfl) (by kernel_rfl) (by kernel_rfl) (fun _ _ _ h => h) (Or.inr ⟨by rfl, rfl⟩) (by assumption) ?restB12
      try simp only [Act.put, List.getElem_toArray, List.getElem_cons_zero, List.getElem_cons_succ, List.setIfInBounds_toArray, List.set_cons_zero, List.set_cons_succ]
      refine' wpAnyH_take (i := 13) (v := _) rfl (by kernel_rfl) (by kernel_rfl) (by kernel_rfl) (fun _ _ _ h => h) (Or.inr ⟨by rfl, rfl⟩) (by assumption) ?restB13
      try simp only [Act.put, List.getElem_toArray, List.getElem_cons_zero, List.getElem_cons_succ, List.setIfInBounds_toArray, List.set_cons_zero, List.set_cons_succ]
      refine' wpAnyH_take (i := 14) (v := _) rfl (by kernel_rfl) (by kernel_rfl) (by kernel_rfl) (fun _ _ _ h => h) (Or.inl ⟨by rfl, ?hyB14⟩) (by assumption) ?restB14
      case hyB14 => (intro w hSw; (try dsimp only at hSw); go_simp; try with_reducible rfl)
      try simp only [Act.put, List.getElem_toArray, List.getElem_cons_zero, List.getElem_cons_succ, List.setIfInBounds_toArray, List.set_cons_zero, List.set_cons_succ]
      refine wpAnyH_ready (rs := [15]) (by kernel_rfl) (by simp) (AllReadyH.cons rfl (fun K hK => ?_) AllReadyH.nil)
      go_simp
      refine hK.out _ _ (HKS.out _ _ hb0) (fun hHeld => ?_)
      clear hK K
      try simp only [Act.put, List.getElem_toArray, List.getElem_cons_zero, List.getElem_cons_succ, List.setIfInBounds_toArray, List.set_cons_zero, List.set_cons_succ]
      refine' wpAnyH_take (i := 16) (v := _) rfl (by kernel_rfl) (by kernel_rfl) (by kernel_rfl) (fun _ _ _ h => h) (Or.inl ⟨by rfl, ?hyB16⟩) (by assumption) ?restB16
      case hyB16 => (intro w hSw; (try dsimp only at hSw); go_simp; try with_reducible rfl)
      try simp only [Act.put, List.getElem_toArray, List.getElem_cons_zero, List.getElem_cons_succ, List.setIfInBounds_toArray, List.set_cons_zero, List.set_cons_succ]
      refine wpAnyH_done (by kernel_rfl) ?_ _
      clear hHeld
      go_wp2_with fail
      refine bodyPost_ret (ret_cell_tmp rfl rfl (HFIN.out _ hb0)) rfl ?_
      exact HOUT.out _ _ hb0 (by rw [goodS, HOK.out, HRP.out]; simp; intros; omega)
theorem says_f (w : World) (s : Sec) (hL : Laid w) : Calls Tryd.prog 79 #[secV s] w fun e w' => SaysPost s w e w' := by
  cases h : fitS s with
  | false => exact says_bad w s hL h
  | true => exact says_ok w s hL h
end Go.Proofs.YtbhjigejpdbeiaaDoor
