/-
  What the laws' last regions call, said of one world: what lies there has not turned.
-/
import Derived.Test.YtfffmmnpohgniaaTp
namespace Go.Proofs.Ytfffmmnpohgniaa
open Go.RowKit
set_option linter.unusedVariables false

theorem DVar.step {w w' : World} {b : Nat} {C : Array Value} (h : DVar w b C) (hb : Below w.heap.size w w') : DVar w' b C := h.below hb h.lt
/-- A sector's variable holds s. -/
structure SVar (w : World) (b : Nat) (s : Sec) : Prop where
  lt : b < w.heap.size
  range : w.rangeAt b 0 (secC s)
theorem SVar.step {w w' : World} {b : Nat} {s : Sec} (h : SVar w b s) (hb : Below w.heap.size w w') : SVar w' b s := ⟨Nat.lt_of_lt_of_le h.lt hb.size, range_below h.range hb h.lt⟩
theorem SVar.load {w : World} {b : Nat} {s : Sec} (h : SVar w b s) : (secVar ⟨b, 0, none⟩).run Try.prog w = .ok (secV s) w := load_secVar h.range
theorem svar_new (w : World) (s : Sec) : SVar (w.alloc (secO s)) w.heap.size s := ⟨by simp, range_new w (secC s) 27⟩
/-- Two integers' variable. -/
structure TVar (w : World) (b : Nat) (i j : Int) : Prop where
  lt : b < w.heap.size
  c0 : w.cell? ⟨b, 0, none⟩ = some (.int .i64 i)
  c1 : w.cell? ⟨b, 1, none⟩ = some (.int .i64 j)
theorem TVar.step {w w' : World} {b : Nat} {i j : Int} (h : TVar w b i j) (hb : Below w.heap.size w w') : TVar w' b i j :=
  ⟨Nat.lt_of_lt_of_le h.lt hb.size, (hb.cell (p := ⟨b, 0, none⟩) h.lt).trans h.c0, (hb.cell (p := ⟨b, 1, none⟩) h.lt).trans h.c1⟩
theorem tvar_new (w : World) (i j : Int) : TVar (w.alloc (Obj.cells #[.int .i64 i, .int .i64 j] 40)) w.heap.size i j := ⟨by simp, cell_of_new _ _ _ 0, cell_of_new _ _ _ 1⟩
theorem below_new (w : World) (o : Obj) : Below w.heap.size w (w.alloc o) := (Below.refl _ _).alloc (Nat.le_refl _) o
theorem DiskAt.step {w w' : World} {v : Value} {d : Dk} (h : DiskAt w v d) (hb : Below w.heap.size w w') : DiskAt w' v d := h.kept hb (Nat.le_refl _)
theorem great_d (w : World) (v : Value) (d : Dk) (h : DiskAt w v d) : Calls Try.prog 9 #[v] w fun e w' => e = .returned (.bool (decide (100 < d.secs.length) || decide (100 < d.loose.length))) ∧ Below w.heap.size w w' := by
  obtain ⟨A, n, c, A', n', c', rfl, rfl, rfl, _⟩ := h
  exact great_f w A A' _ c _ c' d.fuse d.down
section
variable {W0 w : World}
theorem same_b {v v' : Value} {d : Dk} (hb : Below W0.heap.size W0 w) (h : DiskAt W0 v d) (h' : DiskAt W0 v' d) (h1 : d.secs.length ≤ 1000000) (h2 : d.loose.length ≤ 1000000) :
    Calls Try.prog 15 #[v, v'] w fun e w' => e = .returned (.bool true) ∧ Below W0.heap.size W0 w' :=
  (same_f w v v' d (h.kept hb (Nat.le_refl _)) (h'.kept hb (Nat.le_refl _)) h1 h2).mono fun _ _ ⟨he, hb2⟩ => ⟨he, below_chain hb hb2⟩
theorem right_b {v : Value} {d : Dk} (hb : Below W0.heap.size W0 w) (h : DiskAt W0 v d) : Calls Try.prog 16 #[v] w fun e w' => e = .returned (.bool d.right) ∧ Below W0.heap.size W0 w' :=
  (right_f w v d (h.kept hb (Nat.le_refl _))).mono fun _ _ ⟨he, hb2⟩ => ⟨he, below_chain hb hb2⟩
theorem rright_b {v : Value} {d : Dk} (hb : Below W0.heap.size W0 w) (h : DiskAt W0 v d) : Calls Try.prog 17 #[v] w fun e w' => e = .returned (.bool d.right) ∧ Below W0.heap.size W0 w' :=
  (rright_f w v d (h.kept hb (Nat.le_refl _))).mono fun _ _ ⟨he, hb2⟩ => ⟨he, below_chain hb hb2⟩
theorem arm_b {v : Value} {d : Dk} {f : Int} (hb : Below W0.heap.size W0 w) (h : DiskAt W0 v d) (f0 : -9223372036854775808 ≤ f) (f1 : f < 9223372036854775808) :
    Calls Try.prog 24 #[v, .int .i64 f] w fun e w' => (∃ u, e = .returned u ∧ DiskAt w' u (d.arm f)) ∧ Below W0.heap.size W0 w' :=
  (arm_f w v d f f0 f1 (h.kept hb (Nat.le_refl _))).mono fun _ _ ⟨⟨u, he, hg⟩, hb2⟩ => ⟨⟨u, he, hg.1⟩, below_chain hb hb2⟩
theorem rarm_b {v : Value} {d : Dk} {f : Int} (hb : Below W0.heap.size W0 w) (h : DiskAt W0 v d) (f0 : -9223372036854775808 ≤ f) (f1 : f < 9223372036854775808) :
    Calls Try.prog 25 #[v, .int .i64 f] w fun e w' => (∃ u, e = .returned u ∧ DiskAt w' u (d.arm f)) ∧ Below W0.heap.size W0 w' ∧ Below w.heap.size w w' :=
  (rarm_f w v d f f0 f1 (h.kept hb (Nat.le_refl _))).mono fun _ _ ⟨⟨u, he, hg⟩, hb2⟩ => ⟨⟨u, he, hg.1⟩, below_chain hb hb2, hb2⟩
theorem same_c {v v' : Value} {d : Dk} (hb : Below W0.heap.size W0 w) (h : DiskAt w v d) (h' : DiskAt w v' d) (h1 : d.secs.length ≤ 1000000) (h2 : d.loose.length ≤ 1000000) :
    Calls Try.prog 15 #[v, v'] w fun e w' => e = .returned (.bool true) ∧ Below W0.heap.size W0 w' :=
  (same_f w v v' d h h' h1 h2).mono fun _ _ ⟨he, hb2⟩ => ⟨he, below_chain hb hb2⟩
end
/-- One step of a law: a call whose disk goes into a variable of its own. -/
theorem disk_step {v u : Value} {d : Dk} {w w' : World} (hg : DiskGot v d w u w') : ∃ C, u = .agg C ∧ D4 C ∧ DiskAt w' (.agg C) d := by
  obtain ⟨C, rfl, hc⟩ := hg.1.agg
  exact ⟨C, rfl, hc, hg.1⟩
theorem step_secs (d : Dk) : d.step.1.secs = d.secs := by rw [Dk.step]; split <;> rfl
theorem step_loose (d : Dk) : d.step.1.loose = d.loose := by rw [Dk.step]; split <;> rfl
theorem write_len (d : Dk) (i : Int) (s : Sec) : (d.write i s).1.secs.length = d.secs.length ∧ (d.write i s).1.loose.length ≤ d.loose.length + 1 := by
  have h1 := step_secs d
  have h2 := step_loose d
  unfold Dk.write
  split
  · split
    · exact ⟨rfl, Nat.le_succ _⟩
    · split
      · rename_i x hx; rw [hx] at h1 h2; dsimp only at h1 h2; exact ⟨by rw [h1], by rw [h2]; omega⟩
      · rename_i x hx; rw [hx] at h1 h2; dsimp only at h1 h2; exact ⟨by simp [h1], by simp [h2]⟩
  · exact ⟨rfl, Nat.le_succ _⟩
theorem sync_len (d : Dk) : d.sync.1.secs.length = d.secs.length ∧ d.sync.1.loose.length ≤ d.loose.length := by
  have h1 := step_secs d
  have h2 := step_loose d
  unfold Dk.sync
  split
  · split
    · rename_i x hx; rw [hx] at h1 h2; dsimp only at h1 h2; exact ⟨by rw [h1], by rw [h2]; omega⟩
    · rename_i x hx; rw [hx] at h1 h2; dsimp only at h1 h2; exact ⟨by simp [foldl_put_length, h1], by simp⟩
  · exact ⟨rfl, Nat.le_refl _⟩
theorem fall_len (d : Dk) (f : List (UInt8 × UInt8)) (g : Int) : (d.fall f g).1.secs.length = d.secs.length ∧ (d.fall f g).1.loose.length ≤ d.loose.length := by
  unfold Dk.fall
  split
  · exact ⟨by simp [Dk.arm, lands_length], by simp [Dk.arm]⟩
  · exact ⟨rfl, Nat.le_refl _⟩
end Go.Proofs.Ytfffmmnpohgniaa
