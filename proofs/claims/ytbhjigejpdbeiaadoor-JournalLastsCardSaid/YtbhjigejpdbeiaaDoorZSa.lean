/-
  The same records?; more sectors than are looked at?
-/
import Derived.Test.YtbhjigejpdbeiaaDoorZKLp
set_option linter.unusedSimpArgs false
set_option linter.unusedVariables false
namespace Go.Proofs.YtbhjigejpdbeiaaDoor
open Go.RowKit Go.Shelf
set_option linter.unusedVariables false
set_option maxRecDepth 8000

theorem rsame15_f (w : World) (v1 v2 : Value) (r1 r2 : List (List UInt8)) (h1 : RecsAt w v1 r1) (h2 : RecsAt w v2 r2) :
    Calls Tryd.prog 20 #[v1, v2] w fun e w' => e = .returned (.bool (decide (r1 = r2))) ∧ Below w.heap.size w w' := by
  obtain ⟨A, n, c, vs, rfl, hn, hrow, hset⟩ := h1
  obtain ⟨A', n', c', vs', rfl, hn', hrow', hset'⟩ := h2
  have HN := Lib.hid hn
  have HN' := Lib.hid hn'
  have HROW := Lib.hid hrow
  have HROW' := Lib.hid hrow'
  have HSET := Lib.hid hset
  have HSET' := Lib.hid hset'
  clear hn hn' hrow hrow' hset hset'
  go_enter Tryd.func20, Tryd.ntmps20
  by_cases hnn : n = n'
  case neg =>
    have hd : ((n : Int) != (n' : Int)) = true := by rw [bne_iff_ne]; omega
    have HR := Lib.hid (show decide (r1 = r2) = false from decide_eq_false (fun e => hnn (by rw [HN.out, HN'.out, e])))
    clear hnn
    go_wp2_with fail
    go_ret
    exact ⟨by rw [HR.out]; rfl, Below.refl _ _⟩
  subst hnn
  have hd : ((n : Int) != (n : Int)) = false := by simp
  go_wp2_with fail
  go_loopw [5] (fun i wr => ∃ k : Nat, i = .int .i64 (k : Int) ∧ k ≤ n ∧ Hid (r1.take k = r2.take k) ∧ Hid (∃ m, wr = w.drewN m)) (fun i _ => n - (intOf i).toNat)
  case atStart => exact ⟨0, rfl, by omega, Lib.hid rfl, Lib.hid ⟨0, rfl⟩⟩
  case round =>
    obtain ⟨k, rfl, hk, HT, HWR⟩ := hrel
    obtain ⟨m, rfl⟩ := HWR.out
    by_cases hlt : k < n
    case neg =>
      have hdn : decide (k < n) = false := by simp; omega
      have HR := Lib.hid (show decide (r1 = r2) = true from decide_eq_true (by
        have := HT.out
        rwa [List.take_of_length_le (by have := HN.out; omega), List.take_of_length_le (by have := HN'.out; omega)] at this))
      go_wp2_with fail
      go_ret
      exact ⟨by rw [HR.out]; rfl, below_drewN (Below.refl _ _) m⟩
    have hdn : decide (k < n) = true := by simp; omega
    have hw1 : IntKind.i64.wrap ((k : Int) + 1) = (k : Int) + 1 := IntWalk.i64_in _ (by have := HROW.out.2.1; have := HROW.out.2.2.1; omega)
    have hk1 : k < r1.length := by have := HN.out; omega
    have hk2 : k < r2.length := by have := HN'.out; omega
    obtain ⟨B, l, kk, hck, hl, hrowB, _⟩ := HSET.out.row k _ (List.getElem?_eq_getElem hk1)
    obtain ⟨B', l', kk', hck', hl', hrowB', _⟩ := HSET'.out.row k _ (List.getElem?_eq_getElem hk2)
    obtain ⟨b, o, rfl, hb, hX⟩ := row_at HROW.out (by omega)
    obtain ⟨b', o', rfl, hb', hX'⟩ := row_at HROW'.out (by omega)
    have hc0 : ∀ m, (w.drewN m).cell? ⟨b, o + k, none⟩ = some (.slice B l kk) := fun m => hX k _ hck
    have hc1 : ∀ m, (w.drewN m).cell? ⟨b', o' + k, none⟩ = some (.slice B' l' kk') := fun m => hX' k _ hck'
    obtain ⟨x1, hx1⟩ : ∃ x, x = r1[k] := ⟨_, rfl⟩
    obtain ⟨x2, hx2⟩ : ∃ x, x = r2[k] := ⟨_, rfl⟩
    rw [← hx1] at hrowB
    rw [← hx2] at hrowB'
    have hs0 : ∀ m, (convert 28 9 (.slice B l kk)).run Tryd.prog (w.drewN m) = .ok (.string ⟨x1.toArray⟩) (w.drewN m) := fun m => str_of_row (w.drewN m) B l kk x1 hrowB
    have hs1 : ∀ m, (convert 28 9 (.slice B' l' kk')).run Tryd.prog (w.drewN m) = .ok (.string ⟨x2.toArray⟩) (w.drewN m) := fun m => str_of_row (w.drewN m) B' l' kk' x2 hrowB'
    have HX1 := Lib.hid (show r1[k]? = some x1 by rw [hx1]; exact List.getElem?_eq_getElem hk1)
    have HX2 := Lib.hid (show r2[k]? = some x2 by rw [hx2]; exact List.getElem?_eq_getElem hk2)
    clear hck hck' hl hl' hrowB hrowB' hb hb' hX hX' hx1 hx2
    go_wp2_with fail
    go_quiet (fail)
    rename Nat => nq
    clear hc0 hc1 hs0 hs1
    by_cases he : x1 = x2
    case neg =>
      have hb : (x1 == x2) = false := beq_eq_false_iff_ne.2 he
      have HR := Lib.hid (show decide (r1 = r2) = false from decide_eq_false (fun e => he (by
        have h1 := HX1.out
        rw [e, HX2.out] at h1
        injection h1 with h1
        exact h1.symm)))
      rw [hb]
      clear he hb
      go_wp2_with fail
      go_ret
      exact ⟨by rw [HR.out]; rfl, below_drewN (below_drewN (Below.refl _ _) m) nq⟩
    have hb : (x1 == x2) = true := beq_iff_eq.2 he
    have HT2 := Lib.hid (show r1.take (k + 1) = r2.take (k + 1) by rw [List.take_add_one, List.take_add_one, HX1.out, HX2.out, HT.out, he])
    rw [hb]
    clear he hb
    go_wp2_with fail
    go_roundw
    case rel => exact ⟨k + 1, by simp, by omega, HT2, Lib.hid ⟨_, rfl⟩⟩
    case measure => simp [intOf]; omega
theorem fields_log : Tryd.prog.underlying 27 = some (.struct (Tryd.prog.fieldsOf 27)) := by simp only [Program.fieldsOf, Tryd.underlying27]
theorem eq_logIn (n : Nat) (a b c : Int) (w : World) : (Op.equalIn (n + 2) 27 (.agg #[.int .i64 a, .int .i64 b, .int .i64 c]) (.agg #[.int .i64 a, .int .i64 b, .int .i64 c])).run Tryd.prog w = .ok true w := by
  refine (run_equalIn_agg w (n + 1) 27 #[.int .i64 a, .int .i64 b, .int .i64 c] #[.int .i64 a, .int .i64 b, .int .i64 c] fields_log Tryd.stoodInHeld27).trans ?_
  have h0 : (part 3 #[.int .i64 a, .int .i64 b, .int .i64 c] 0).run Tryd.prog w = .ok (.int .i64 a) w := run_part_plain w (by kernel_rfl) rfl
  have h1 : (part 3 #[.int .i64 a, .int .i64 b, .int .i64 c] 1).run Tryd.prog w = .ok (.int .i64 b) w := run_part_plain w (by kernel_rfl) rfl
  have h2 : (part 3 #[.int .i64 a, .int .i64 b, .int .i64 c] 2).run Tryd.prog w = .ok (.int .i64 c) w := run_part_plain w (by kernel_rfl) rfl
  have g0 := run_equalIn_int w n 3 .i64 .i64 a a Tryd.underlying3
  have g1 := run_equalIn_int w n 3 .i64 .i64 b b Tryd.underlying3
  have g2 := run_equalIn_int w n 3 .i64 .i64 c c Tryd.underlying3
  rw [beq_self_eq_true] at g0 g1 g2
  have n1 : ¬ ("Half" = "_") := by decide
  have n2 : ¬ ("Gen" = "_") := by decide
  have n3 : ¬ ("Used" = "_") := by decide
  simp only [Program.fieldsOf, Tryd.underlying27]
  simp only [Op.eqFields, ne_eq, n1, n2, n3, not_false_eq_true, if_true, Sem.run_bind, h0, h1, h2, g0, g1, g2, Result.andThen_ok, Bool.not_true, Bool.false_eq_true, if_false, Sem.run_pure]
@[irreducible] def logEql (x y : Value) : Sem Value := binOp .eql 27 x y
@[go_sem ↓] theorem logEql_def (x y : Value) : binOp .eql 27 x y = logEql x y := by unfold logEql; rfl
@[go_sem] theorem eql_log (a b c : Int) (w : World) : (logEql (.agg #[.int .i64 a, .int .i64 b, .int .i64 c]) (.agg #[.int .i64 a, .int .i64 b, .int .i64 c])).run Tryd.prog w = .ok (.bool true) w := by
  rw [logEql, run_eql_struct, eq_logIn 9998 a b c w]; rfl
@[go_sem] theorem guard_log (op : BinOp) (x y : Operand) (s t : Array Value) (w : World) : (eqGuard op 27 x y (.agg s) (.agg t)).run Tryd.prog w = .ok () w :=
  run_eqGuard_agg w op 27 x y _ _ Tryd.eqGuardType27
end Go.Proofs.YtbhjigejpdbeiaaDoor
