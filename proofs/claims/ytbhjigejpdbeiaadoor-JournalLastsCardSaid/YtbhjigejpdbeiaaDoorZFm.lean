/-
  The listed variables, as a row says them: what the walks ask of them; the door's own world has them.
-/
import Derived.Test.YtbhjigejpdbeiaaDoorRows
import Derived.Test.YtbhjigejpdbeiaaDoorZSc
import Derived.WalkKit
import Derived.ProofKit
import Derived.LaidMore
import Derived.OpenShut
import Derived.Stop.Joined
set_option linter.unusedSimpArgs false
set_option linter.unusedVariables false
namespace Go.Proofs.YtbhjigejpdbeiaaDoor
open Go.ChangeShapes Go.WideShapes Go.ChangeAt Go.RowKit
set_option linter.unusedVariables false
set_option maxRecDepth 100000

abbrev laid4 : List (String × DataW Unit) := [("vouchsafe/vouchsaferef07.roots", Rows.laid_vouchsafe_vouchsaferef07_roots), ("vouchsafe/vouchsaferef07.begins", Rows.laid_vouchsafe_vouchsaferef07_begins), ("vouchsafe/sha.roots", Rows.laid_vouchsafe_sha_roots), ("vouchsafe/sha.begins", Rows.laid_vouchsafe_sha_begins)]
theorem gRoots : Tryd.prog.globalNamed "vouchsafe/sha.roots" = some 0 := by kernel_rfl
theorem gBegins : Tryd.prog.globalNamed "vouchsafe/sha.begins" = some 1 := by kernel_rfl
theorem gRroots : Tryd.prog.globalNamed "vouchsafe/vouchsaferef07.roots" = some 3 := by kernel_rfl
theorem gRbegins : Tryd.prog.globalNamed "vouchsafe/vouchsaferef07.begins" = some 2 := by kernel_rfl
theorem tRoots : (Tryd.prog.globals[0]?).map (·.type) = some 146 := by kernel_rfl
theorem tBegins : (Tryd.prog.globals[1]?).map (·.type) = some 153 := by kernel_rfl
theorem tRroots : (Tryd.prog.globals[3]?).map (·.type) = some 146 := by kernel_rfl
theorem tRbegins : (Tryd.prog.globals[2]?).map (·.type) = some 153 := by kernel_rfl
theorem datRoots {H : Type} : (Rows.laid_vouchsafe_sha_roots : DataW H) = .agg (Sha.roots.map fun (n : Nat) => .lit (.int .u64 (n : Int))) := by kernel_rfl
theorem datBegins {H : Type} : (Rows.laid_vouchsafe_sha_begins : DataW H) = .agg (Sha.begins.map fun (n : Nat) => .lit (.int .u64 (n : Int))) := by kernel_rfl
theorem datRroots {H : Type} : (Rows.laid_vouchsafe_vouchsaferef07_roots : DataW H) = .agg (Sha.roots.map fun (n : Nat) => .lit (.int .u64 (n : Int))) := by kernel_rfl
theorem datRbegins {H : Type} : (Rows.laid_vouchsafe_vouchsaferef07_begins : DataW H) = .agg (Sha.begins.map fun (n : Nat) => .lit (.int .u64 (n : Int))) := by kernel_rfl
theorem door4 (os : Os) (args : Array Value) : laidMetH Tryd.prog laid4 ((World.doorLaid Tryd.prog 4000 os).forCall (fun _ _ => 0) ⟨#[], args, []⟩).memory :=
  laidMetH_of_parts3 (fuel := 8) (laidMet_of_run' 8 (by kernel_rfl) (by kernel_rfl)) (by kernel_rfl) (by kernel_rfl)
theorem u64s_of {W : World} {T : TypeId} {n : Nat} (hT : Tryd.prog.underlying T = some (.array n 145)) (l : List Nat) (hl : l.length = n) {cs : List Value} {fuel : Nat} {p : List MemPlace}
    (h : DataW.trod (H := Unit) (fun _ => ()) Tryd.prog W 0 (fun _ => true) false fuel T cs = some (.agg (l.map fun (n : Nat) => .lit (.int .u64 (n : Int))), p)) :
    ∀ (j : Nat) (v : Value), (l.map fun (n : Nat) => Value.int .u64 (n : Int))[j]? = some v → cs[j]? = some v := by
  obtain ⟨xs, m1, rfl, hx1, hlen, hn3, hel⟩ := DataW.trod_array hT h
  have c3 : Tryd.prog.cellsOf 145 = 1 := by kernel_rfl
  simp only [Prod.mk.injEq, DataW.agg.injEq] at hx1
  intro j v hj
  have hjl : j < l.length := by
    have := (List.getElem?_eq_some_iff.1 hj).1
    simpa using this
  have h0 := hel j (by omega)
  rw [c3, Nat.mul_one, List.getElem?_eq_getElem (by omega)] at h0
  obtain ⟨k, e1, e2, _⟩ := DataW.trod_int Tryd.underlying145 h0
  have hx := congrArg (fun a : List (DataW Unit) => a[j]?) hx1.1
  simp only [List.getElem?_map] at hx hj
  rw [List.getElem?_eq_getElem hjl, List.getElem?_eq_getElem (show j < xs.length by omega)] at hx
  rw [List.getElem?_eq_getElem hjl] at hj
  simp only [Option.map_some, Option.some.injEq] at hx hj
  rw [e2] at hx
  have hk : k = (l[j] : Int) := by
    injection hx with hx
    injection hx with _ hx
    exact hx.symm
  have hcs := congrArg (fun a : List Value => a[0]?) e1
  simp only [List.getElem?_take, List.getElem?_drop] at hcs
  rw [← hj, ← hk]
  simpa using hcs
theorem var_range {W : World} {nm : String} {g : Nat} {cs : Array Value} (hg : Tryd.prog.globalNamed nm = some g) (hv : W.var? Tryd.prog nm = some cs) {l : List Value} (h : ∀ (j : Nat) (v : Value), l[j]? = some v → cs.toList[j]? = some v) : W.rangeAt g 0 l := by
  intro j v hj
  rw [Nat.zero_add, World.var?_cell hg hv j]
  have := h j v hj
  simpa using this
theorem of_laid4 {W : World} (h : laidMetH Tryd.prog laid4 W) (hs : 4 < W.heap.size) : LaidR W := by
  rw [MakeChecks.laidMetH_plain _ _ _ (by kernel_rfl)] at h
  obtain ⟨ps, ⟨g0, t0, cs0, f0, p0, q0, hg0, ht0, hv0, hd0, ⟨g1, t1, cs1, f1, p1, q1, hg1, ht1, hv1, hd1, ⟨g2, t2, cs2, f2, p2, q2, hg2, ht2, hv2, hd2, ⟨g3, t3, cs3, f3, p3, q3, hg3, ht3, hv3, hd3, _, _⟩, _⟩, _⟩, _⟩, _, _⟩ := h
  obtain rfl := Option.some.inj (gRroots.symm.trans hg0)
  obtain rfl := Option.some.inj (gRbegins.symm.trans hg1)
  obtain rfl := Option.some.inj (gRoots.symm.trans hg2)
  obtain rfl := Option.some.inj (gBegins.symm.trans hg3)
  obtain rfl := Option.some.inj (tRroots.symm.trans ht0)
  obtain rfl := Option.some.inj (tRbegins.symm.trans ht1)
  obtain rfl := Option.some.inj (tRoots.symm.trans ht2)
  obtain rfl := Option.some.inj (tBegins.symm.trans ht3)
  rw [datRroots] at hd0
  rw [datRbegins] at hd1
  rw [datRoots] at hd2
  rw [datBegins] at hd3
  exact ⟨⟨var_range hg2 hv2 (u64s_of Tryd.underlying146 _ Sha.roots_length hd2), var_range hg3 hv3 (u64s_of Tryd.underlying153 _ (by decide) hd3), hs⟩, var_range hg0 hv0 (u64s_of Tryd.underlying146 _ Sha.roots_length hd0), var_range hg1 hv1 (u64s_of Tryd.underlying153 _ (by decide) hd1)⟩
/-- The program's variables have blocks of their own. -/
theorem size_of_shaped {W : World} (h : W.ShapedOpen Tryd.prog) : 4 < W.heap.size := by
  have h0 : (((begin Tryd.prog (fun _ _ => 0) default).world.heap[4]?).bind Obj.row?).isSome = true := by kernel_rfl
  obtain ⟨x, hx⟩ := Option.isSome_iff_exists.1 h0
  obtain ⟨zero, t⟩ := x
  obtain ⟨cs, hcs, _⟩ := h.1 4 zero t (of_decide_eq_true (by kernel_rfl)) hx
  exact (Array.getElem?_eq_some_iff.1 hcs).1
/-- A law over laid variables: the walk is told that the variables' blocks are there. -/
theorem returns_laid {H : Type} {enc : TypeId × Value → H} {os : Os} {f : FuncId} {fn : Func} {s : ChangeSpec} {X : World → Array Value → Prop}
    (hX : ∀ (w w' : World) (args : Array Value), w.heap = w'.heap → X w args → X w' args)
    (own : ownKnob Tryd.checked.prog.godebug = none) (started : os.Started) (noInit : Tryd.checked.prog.inits.idxOf? f = none) (hfn : Tryd.checked.prog.funcs[f]? = some fn)
    (witness : ∃ (w : World) (tape : Tape) (i : Input), w.os = os ∧ (w.forCall tape i).Shaped Tryd.checked.prog ∧ i.vars = [] ∧ Input.okWide Tryd.checked.prog (w.forCall tape i) .any w.heap.size f i ∧
      ((s.pre enc Tryd.checked.prog fn [] false (w.forCall tape i).memory i.args ∧ X (w.forCall tape i).memory i.args) ∧ sizedMet enc Tryd.checked.prog fn (OpenSpec.ofChange s) false (w.forCall tape i).memory i.args) ∧ ({} : Assume).holds Tryd.checked.prog (lone (Frame.enter Tryd.checked.prog f i.args .normal) [] (w.forCall tape i)))
    (contract : ∀ (W : World) (base : Nat) (args : Array Value) (ds gs : List (DataW H)) (before : List MemPlace),
      (∀ (j : Nat) t v, fn.params[j]? = some t → args[j]? = some v → Value.okWide Tryd.checked.prog W .any base t v) →
      DataW.Whole enc Tryd.checked.prog fn.params.toList s.vars false W args.toList ds gs before → X W args → 4 < W.heap.size →
      Calls Tryd.checked.prog f args W fun e W' => ∃ v, e = .returned v ∧ s.post enc Tryd.checked.prog fn false true false false W args v W') :
    ReturnsInHanded {} Tryd.checked os f .any (fun w args => (s.pre enc Tryd.checked.prog fn [] false w args ∧ X w args) ∧ sizedMet enc Tryd.checked.prog fn (OpenSpec.ofChange s) false w args) (s.post enc Tryd.checked.prog fn false true false false) := by
  refine returnsInHanded_of_calls own started noInit witness ?_
  intro w tape i _ hsh _ hok hpre hholds
  obtain ⟨_, _, _, fn', hfn', _, _, _, _, hval⟩ := hok
  obtain rfl := Option.some.inj (hfn'.symm.trans hfn)
  obtain ⟨⟨⟨ds, gs, before, hw, _⟩, hx⟩, _⟩ := hpre
  have hw' := DataW.Whole.of_heap (w' := w.forCall tape i) (by rfl) hw
  refine (contract (w.forCall tape i) w.heap.size i.args ds gs before hval hw' (hX _ _ _ (by rfl) hx) (size_of_shaped hsh)).mono fun e W' ⟨v, he, hp⟩ => ?_
  subst he
  exact ChangeSpec.post_blind hp
end Go.Proofs.YtbhjigejpdbeiaaDoor
