/-
  Arm, spend, step, New.
-/
import Derived.Test.YtfffmmnpohgniaaRr
import Derived.Test.YtfffmmnpohgniaaDsk2
namespace Go.Proofs.Ytfffmmnpohgniaa
open Go.RowKit
set_option linter.unusedVariables false

theorem ret_cell_tmp {fn : Func} {c e : Tmp} {t : TypeId} (h : fn.results = #[.cell c t, .tmp e]) {tmps : Array Value} {a : Addr} {u : Value} {P : Program} {w : World}
    (hc : tmps.getD c undef = .pointer (some a)) (hl : (loadVar t a).run P w = .ok u w) : (results fn tmps).run P w = .ok (.tuple #[u, tmps.getD e undef]) w := by
  have hc' : tmps[c]?.getD undef = .pointer (some a) := by simpa using hc
  simp [results, h, hc', asAddr, Sem.run_bind, hl]
theorem ret_cell {fn : Func} {c : Tmp} {t : TypeId} (h : fn.results = #[.cell c t]) {tmps : Array Value} {a : Addr} {u : Value} {P : Program} {w : World}
    (hc : tmps.getD c undef = .pointer (some a)) (hl : (loadVar t a).run P w = .ok u w) : (results fn tmps).run P w = .ok u w := by
  have hc' : tmps[c]?.getD undef = .pointer (some a) := by simpa using hc
  simp [results, h, hc', asAddr, Sem.run_bind, hl]

theorem sizeDisk : (Try.prog.info? 25).map (·.size) = some 4 := by kernel_rfl
theorem load_var {w : World} {b n c n' c' : Nat} {A A' : Option Addr} {f : Int} {dn : Bool} (h : Var w b A A' n c n' c' f dn) :
    (loadVar 25 ⟨b, 0, none⟩).run Try.prog w = .ok (.agg #[.slice A n c, .slice A' n' c', .int .i64 f, .bool dn]) w :=
  run_loadVar_mid w b 0 25 [.slice A n c, .slice A' n' c', .int .i64 f, .bool dn] _ (by
    intro j v hv
    match j, hv with
    | 0, hv => simp at hv; subst hv; exact h.c0
    | 1, hv => simp at hv; subst hv; exact h.c1
    | 2, hv => simp at hv; subst hv; exact h.c2
    | 3, hv => simp at hv; subst hv; exact h.c3
    | j + 4, hv => simp at hv) Try.underlying25 rfl sizeDisk

/-- The disk's rows don't lie in block b. -/
def Clear (b : Nat) (v : Value) : Prop := ∀ A n c A' n' c' f dn, v = .agg #[.slice A n c, .slice A' n' c', f, dn] → (∀ x, A = some x → 0 < n → x.block ≠ b) ∧ (∀ x, A' = some x → 0 < n' → x.block ≠ b)
theorem clear_mk {b n c n' c' : Nat} {A A' : Option Addr} {f dn : Value} (h1 : ∀ x, A = some x → 0 < n → x.block ≠ b) (h2 : ∀ x, A' = some x → 0 < n' → x.block ≠ b) : Clear b (.agg #[.slice A n c, .slice A' n' c', f, dn]) := by
  intro B m e B' m' e' g dm h
  injection h with h
  injection h with h
  injection h with q1 h
  injection h with q2 h
  injection q1 with q11 q12
  injection q2 with q21 q22
  subst q11; subst q12; subst q21; subst q22
  exact ⟨h1, h2⟩
theorem Clear.same {b n c n' c' : Nat} {A A' : Option Addr} {f dn g dm : Value} (h : Clear b (.agg #[.slice A n c, .slice A' n' c', f, dn])) : Clear b (.agg #[.slice A n c, .slice A' n' c', g, dm]) := by
  obtain ⟨h1, h2⟩ := h _ _ _ _ _ _ _ _ rfl
  exact clear_mk h1 h2
theorem DiskAt.clear {w : World} {v : Value} {d : Dk} (h : DiskAt w v d) {b : Nat} (hb : w.heap.size ≤ b) : Clear b v := by
  obtain ⟨A, n, c, A', n', c', rfl, _, _, h1, h2, _⟩ := h
  exact clear_mk (fun x hx h0 => by have := (h1.2.2.2.2 x hx h0).2.1; omega) (fun x hx h0 => by have := (h2.2.2.2.2 x hx h0).2.1; omega)

/-- A disk comes back: where its rows may lie, given that of v. -/
def DiskGot (v : Value) (d : Dk) (w : World) (u : Value) (w' : World) : Prop := DiskAt w' u d ∧ (∀ b, b < w.heap.size → Clear b v → Clear b u)
def DiskOut (v : Value) (d : Dk) (w : World) (e : Ending) (w' : World) : Prop := (∃ u, e = .returned u ∧ DiskGot v d w u w') ∧ Below w.heap.size w w'
def DiskOut2 (v : Value) (d : Dk) (r : Value) (w : World) (e : Ending) (w' : World) : Prop := (∃ u, e = .returned (.tuple #[u, r]) ∧ DiskGot v d w u w') ∧ Below w.heap.size w w'
def SpendPost (v : Value) (d : Dk) (w : World) (e : Ending) (w' : World) : Prop := DiskOut2 v d.step.1 (.int .i64 (if d.step.2 then 0 else 9)) w e w'
def StepPost (v : Value) (d : Dk) (w : World) (e : Ending) (w' : World) : Prop := DiskOut2 v d.step.1 (.bool d.step.2) w e w'

theorem disk_of {w : World} {d : Dk} {A A' : Option Addr} {n c n' c' : Nat} {f : Int} {dn : Bool} (hn : n = d.secs.length) (hn' : n' = d.loose.length) (h1 : RowOf w 128 A n c (secsC d.secs)) (h2 : RowOf w 129 A' n' c' (wrsC d.loose))
    (hf : f = d.fuse) (hdn : dn = d.down) (f0 : -9223372036854775808 ≤ d.fuse) (f1 : d.fuse < 9223372036854775808) : DiskAt w (.agg #[.slice A n c, .slice A' n' c', .int .i64 f, .bool dn]) d := by
  subst hf; subst hdn
  exact ⟨A, n, c, A', n', c', rfl, hn, hn', h1, h2, f0, f1⟩

theorem size_alloc (w : World) (o : Obj) : (w.alloc o).heap.size = w.heap.size + 1 := by simp
theorem var_new2 (w : World) (o : Obj) (A A' : Option Addr) (n c n' c' : Nat) (f : Int) (dn : Bool) :
    Var ((w.alloc o).alloc (Obj.cells #[.slice A n c, .slice A' n' c', .int .i64 f, .bool dn] 25)) (w.heap.size + 1) A A' n c n' c' f dn := by
  have h := var_new (w.alloc o) A A' n c n' c' f dn
  rwa [size_alloc] at h
theorem below_two (w : World) (o p : Obj) : Below w.heap.size w ((w.alloc o).alloc p) := ((Below.refl w.heap.size w).alloc (Nat.le_refl _) o).alloc (by simp) p

theorem arm_f (w : World) (v : Value) (d : Dk) (f : Int) (f0 : -9223372036854775808 ≤ f) (f1 : f < 9223372036854775808) (h : DiskAt w v d) :
    Calls Try.prog 24 #[v, .int .i64 f] w fun e w' => DiskOut v (d.arm f) w e w' := by
  obtain ⟨A, n, c, A', n', c', rfl, hn, hn', h1, h2, h3⟩ := h
  have H1 := Lib.hid h1
  have H2 := Lib.hid h2
  have HN := Lib.hid hn
  have HN' := Lib.hid hn'
  clear h1 h2 hn hn' h3
  generalize hdn : d.down = dn
  generalize hf : d.fuse = g
  have HDN := Lib.hid hdn
  clear hdn hf
  go_enter Try.func24, Try.ntmps24
  by_cases q : -1 ≤ f
  · go_wp2
    refine bodyPost_ret (ret_cell rfl rfl (load_var (var_new2 _ _ _ _ _ _ _ _ _ _))) rfl ?_
    exact ⟨⟨_, rfl, ⟨disk_of (d := d.arm f) HN.out HN'.out (H1.out.kept (below_two _ _ _) (Nat.le_refl _)) (H2.out.kept (below_two _ _ _) (Nat.le_refl _)) (by simp [Dk.arm]; omega) HDN.out.symm (by simp [Dk.arm]; omega) (by simp [Dk.arm]; omega), fun b hb hc => hc.same⟩⟩, below_two _ _ _⟩
  · go_wp2
    refine bodyPost_ret (ret_cell rfl rfl (load_var (var_new2 _ _ _ _ _ _ _ _ _ _))) rfl ?_
    exact ⟨⟨_, rfl, ⟨disk_of (d := d.arm f) HN.out HN'.out (H1.out.kept (below_two _ _ _) (Nat.le_refl _)) (H2.out.kept (below_two _ _ _) (Nat.le_refl _)) (by simp [Dk.arm]; omega) HDN.out.symm (by simp [Dk.arm]; omega) (by simp [Dk.arm]; omega), fun b hb hc => hc.same⟩⟩, below_two _ _ _⟩

theorem rarm_f (w : World) (v : Value) (d : Dk) (f : Int) (f0 : -9223372036854775808 ≤ f) (f1 : f < 9223372036854775808) (h : DiskAt w v d) :
    Calls Try.prog 25 #[v, .int .i64 f] w fun e w' => DiskOut v (d.arm f) w e w' := by
  obtain ⟨A, n, c, A', n', c', rfl, hn, hn', h1, h2, h3⟩ := h
  have H1 := Lib.hid h1
  have H2 := Lib.hid h2
  have HN := Lib.hid hn
  have HN' := Lib.hid hn'
  clear h1 h2 hn hn' h3
  generalize hdn : d.down = dn
  generalize hf : d.fuse = g
  have HDN := Lib.hid hdn
  clear hdn hf
  go_enter Try.func25, Try.ntmps25
  by_cases q : -1 ≤ f
  · go_wp2
    refine bodyPost_ret (ret_cell rfl rfl (load_var (var_new2 _ _ _ _ _ _ _ _ _ _))) rfl ?_
    exact ⟨⟨_, rfl, ⟨disk_of (d := d.arm f) HN.out HN'.out (H1.out.kept (below_two _ _ _) (Nat.le_refl _)) (H2.out.kept (below_two _ _ _) (Nat.le_refl _)) (by simp [Dk.arm]; omega) HDN.out.symm (by simp [Dk.arm]; omega) (by simp [Dk.arm]; omega), fun b hb hc => hc.same⟩⟩, below_two _ _ _⟩
  · go_wp2
    refine bodyPost_ret (ret_cell rfl rfl (load_var (var_new2 _ _ _ _ _ _ _ _ _ _))) rfl ?_
    exact ⟨⟨_, rfl, ⟨disk_of (d := d.arm f) HN.out HN'.out (H1.out.kept (below_two _ _ _) (Nat.le_refl _)) (H2.out.kept (below_two _ _ _) (Nat.le_refl _)) (by simp [Dk.arm]; omega) HDN.out.symm (by simp [Dk.arm]; omega) (by simp [Dk.arm]; omega), fun b hb hc => hc.same⟩⟩, below_two _ _ _⟩

theorem spend_f (w : World) (v : Value) (d : Dk) (h : DiskAt w v d) : Calls Try.prog 28 #[v] w fun e w' => SpendPost v d w e w' := by
  obtain ⟨A, n, c, A', n', c', rfl, hn, hn', h1, h2, h3⟩ := h
  have H1 := Lib.hid h1
  have H2 := Lib.hid h2
  have HN := Lib.hid hn
  have HN' := Lib.hid hn'
  have hg0 : -9223372036854775808 ≤ d.fuse := h3.1
  have hg1 : d.fuse < 9223372036854775808 := h3.2
  have HF := Lib.hid h3
  clear h1 h2 hn hn' h3
  generalize hdn : d.down = dn
  generalize hf : d.fuse = g at hg0 hg1
  have HDN := Lib.hid hdn
  have HFU := Lib.hid hf
  clear hdn hf
  go_enter Try.func28, Try.ntmps28
  cases dn with
  | true =>
    go_wp2
    refine bodyPost_ret (ret_cell_tmp rfl rfl (load_var (var_new2 _ _ _ _ _ _ _ _ _ _))) rfl ?_
    have hs : d.step = ({ d with down := true }, false) := by rw [Dk.step]; simp [HFU.out, HDN.out]
    refine ⟨⟨_, by rw [hs]; rfl, ?_⟩, below_two _ _ _⟩
    rw [hs]
    exact ⟨disk_of HN.out HN'.out (H1.out.kept (below_two _ _ _) (Nat.le_refl _)) (H2.out.kept (below_two _ _ _) (Nat.le_refl _)) (by simp [HFU.out]) (by simp [HDN.out]) (by have := HF.out; have := HFU.out; simp; omega) (by have := HF.out; have := HFU.out; simp; omega), fun b hb hc => hc.same⟩
  | false =>
    by_cases q0 : g = 0
    · subst q0
      go_wp2
      refine bodyPost_ret (ret_cell_tmp rfl rfl (load_var (var_new2 _ _ _ _ _ _ _ _ _ _))) rfl ?_
      have hs : d.step = ({ d with down := true }, false) := by rw [Dk.step]; simp [HFU.out, HDN.out]
      refine ⟨⟨_, by rw [hs]; rfl, ?_⟩, below_two _ _ _⟩
      rw [hs]
      exact ⟨disk_of HN.out HN'.out (H1.out.kept (below_two _ _ _) (Nat.le_refl _)) (H2.out.kept (below_two _ _ _) (Nat.le_refl _)) (by simp [HFU.out]) (by simp [HDN.out]) (by have := HF.out; have := HFU.out; simp; omega) (by have := HF.out; have := HFU.out; simp; omega), fun b hb hc => hc.same⟩
    by_cases q1 : 0 < g
    · go_wp2
      refine bodyPost_ret (ret_cell_tmp rfl rfl (load_var (var_new2 _ _ _ _ _ _ _ _ _ _))) rfl ?_
      have hs : d.step = ({ d with fuse := d.fuse - 1 }, true) := by rw [Dk.step, if_neg (by simp [HDN.out, HFU.out]; omega), if_pos (by rw [HFU.out]; exact q1)]
      refine ⟨⟨_, by rw [hs]; rfl, ?_⟩, below_two _ _ _⟩
      rw [hs]
      exact ⟨disk_of HN.out HN'.out (H1.out.kept (below_two _ _ _) (Nat.le_refl _)) (H2.out.kept (below_two _ _ _) (Nat.le_refl _)) (by simp [HFU.out]) (by simp [HDN.out]) (by have := HF.out; have := HFU.out; simp; omega) (by have := HF.out; have := HFU.out; simp; omega), fun b hb hc => hc.same⟩
    · have q2 : g < 0 := by omega
      have q1 : ¬ 0 < g := by omega
      have Q1 := Lib.hid q1
      clear q1
      go_wp2
      refine bodyPost_ret (ret_cell_tmp rfl rfl (load_var (var_new2 _ _ _ _ _ _ _ _ _ _))) rfl ?_
      have hs : d.step = (d, true) := by rw [Dk.step, if_neg (by simp [HDN.out, HFU.out]; omega), if_neg (by rw [HFU.out]; have := Q1.out; omega)]
      refine ⟨⟨_, by rw [hs]; rfl, ?_⟩, below_two _ _ _⟩
      rw [hs]
      exact ⟨disk_of HN.out HN'.out (H1.out.kept (below_two _ _ _) (Nat.le_refl _)) (H2.out.kept (below_two _ _ _) (Nat.le_refl _)) (by simp [HFU.out]) (by simp [HDN.out]) (by have := HF.out; have := HFU.out; simp; omega) (by have := HF.out; have := HFU.out; simp; omega), fun b hb hc => hc.same⟩

theorem step_f (w : World) (v : Value) (d : Dk) (h : DiskAt w v d) : Calls Try.prog 30 #[v] w fun e w' => StepPost v d w e w' := by
  obtain ⟨A, n, c, A', n', c', rfl, hn, hn', h1, h2, h3⟩ := h
  have H1 := Lib.hid h1
  have H2 := Lib.hid h2
  have HN := Lib.hid hn
  have HN' := Lib.hid hn'
  have hg0 : -9223372036854775808 ≤ d.fuse := h3.1
  have hg1 : d.fuse < 9223372036854775808 := h3.2
  have HF := Lib.hid h3
  clear h1 h2 hn hn' h3
  generalize hdn : d.down = dn
  generalize hf : d.fuse = g at hg0 hg1
  have HDN := Lib.hid hdn
  have HFU := Lib.hid hf
  clear hdn hf
  go_enter Try.func30, Try.ntmps30
  cases dn with
  | true =>
    go_wp2
    refine bodyPost_ret (ret_cell_tmp rfl rfl (load_var (var_new2 _ _ _ _ _ _ _ _ _ _))) rfl ?_
    have hs : d.step = ({ d with down := true }, false) := by rw [Dk.step]; simp [HFU.out, HDN.out]
    refine ⟨⟨_, by rw [hs]; rfl, ?_⟩, below_two _ _ _⟩
    rw [hs]
    exact ⟨disk_of HN.out HN'.out (H1.out.kept (below_two _ _ _) (Nat.le_refl _)) (H2.out.kept (below_two _ _ _) (Nat.le_refl _)) (by simp [HFU.out]) (by simp [HDN.out]) (by have := HF.out; have := HFU.out; simp; omega) (by have := HF.out; have := HFU.out; simp; omega), fun b hb hc => hc.same⟩
  | false =>
    by_cases q0 : g = 0
    · subst q0
      go_wp2
      refine bodyPost_ret (ret_cell_tmp rfl rfl (load_var (var_new2 _ _ _ _ _ _ _ _ _ _))) rfl ?_
      have hs : d.step = ({ d with down := true }, false) := by rw [Dk.step]; simp [HFU.out, HDN.out]
      refine ⟨⟨_, by rw [hs]; rfl, ?_⟩, below_two _ _ _⟩
      rw [hs]
      exact ⟨disk_of HN.out HN'.out (H1.out.kept (below_two _ _ _) (Nat.le_refl _)) (H2.out.kept (below_two _ _ _) (Nat.le_refl _)) (by simp [HFU.out]) (by simp [HDN.out]) (by have := HF.out; have := HFU.out; simp; omega) (by have := HF.out; have := HFU.out; simp; omega), fun b hb hc => hc.same⟩
    by_cases q1 : 0 < g
    · go_wp2
      refine bodyPost_ret (ret_cell_tmp rfl rfl (load_var (var_new2 _ _ _ _ _ _ _ _ _ _))) rfl ?_
      have hs : d.step = ({ d with fuse := d.fuse - 1 }, true) := by rw [Dk.step, if_neg (by simp [HDN.out, HFU.out]; omega), if_pos (by rw [HFU.out]; exact q1)]
      refine ⟨⟨_, by rw [hs]; rfl, ?_⟩, below_two _ _ _⟩
      rw [hs]
      exact ⟨disk_of HN.out HN'.out (H1.out.kept (below_two _ _ _) (Nat.le_refl _)) (H2.out.kept (below_two _ _ _) (Nat.le_refl _)) (by simp [HFU.out]) (by simp [HDN.out]) (by have := HF.out; have := HFU.out; simp; omega) (by have := HF.out; have := HFU.out; simp; omega), fun b hb hc => hc.same⟩
    · have q2 : g < 0 := by omega
      have q1 : ¬ 0 < g := by omega
      have Q1 := Lib.hid q1
      clear q1
      go_wp2
      refine bodyPost_ret (ret_cell_tmp rfl rfl (load_var (var_new2 _ _ _ _ _ _ _ _ _ _))) rfl ?_
      have hs : d.step = (d, true) := by rw [Dk.step, if_neg (by simp [HDN.out, HFU.out]; omega), if_neg (by rw [HFU.out]; have := Q1.out; omega)]
      refine ⟨⟨_, by rw [hs]; rfl, ?_⟩, below_two _ _ _⟩
      rw [hs]
      exact ⟨disk_of HN.out HN'.out (H1.out.kept (below_two _ _ _) (Nat.le_refl _)) (H2.out.kept (below_two _ _ _) (Nat.le_refl _)) (by simp [HFU.out]) (by simp [HDN.out]) (by have := HF.out; have := HFU.out; simp; omega) (by have := HF.out; have := HFU.out; simp; omega), fun b hb hc => hc.same⟩

end Go.Proofs.Ytfffmmnpohgniaa
