/-
  A play of writes and syncs on a disk of eight sectors, in plain Lean: what it keeps, and what a fall leaves of it.
-/
import Derived.Test.YtfffmmnpohgniaaLr
namespace Go.Proofs.Ytfffmmnpohgniaa
set_option linter.unusedVariables false

structure Ac where
  sync : Bool
  at_ : UInt8
  byte : UInt8
structure Play where
  d : Dk
  sure : List UInt8
  last : List UInt8
  loose : List Nat
  down : Bool
namespace Play
def zero8 : List UInt8 := List.replicate 8 0
def none8 : List Nat := List.replicate 8 0
def sync (p : Play) : Play :=
  { p with d := p.d.sync.1, down := decide (p.d.sync.2 = 9), sure := if p.d.sync.2 = 0 then p.last else p.sure, loose := if p.d.sync.2 = 0 then none8 else p.loose }
def write (p : Play) (a : Nat) (b : UInt8) : Play :=
  { p with d := (p.d.write a (fill b)).1, down := decide ((p.d.write a (fill b)).2 = 9), last := if (p.d.write a (fill b)).2 = 0 then p.last.set a b else p.last,
           loose := if (p.d.write a (fill b)).2 = 0 then p.loose.set a (p.loose.getD a 0 + 1) else p.loose }
def one (p : Play) (x : Ac) : Play := if x.sync then p.sync else p.write (x.at_.toNat % 8) x.byte
/-- What holds between two acts. -/
structure Inv (p : Play) (n : Nat) : Prop where
  secs : p.d.secs.length = 8
  few : p.d.loose.length ≤ n
  right : p.d.right = true
  l1 : p.sure.length = 8
  l2 : p.last.length = 8
  l3 : p.loose.length = 8
  is : ∀ a, a < 8 → p.d.secs[a]? = some (fill (p.sure.getD a 0))
  cnt : ∀ a : Nat, a < 8 → (p.d.loose.filter fun x : Wr => decide (x.at_ = (a : Int))).length = p.loose.getD a 0
  look : ∀ a : Nat, a < 8 → Dk.lookL a p.d.loose = if p.loose.getD a 0 = 0 then none else some (fill (p.last.getD a 0))
  same : ∀ a : Nat, a < 8 → p.loose.getD a 0 = 0 → p.last.getD a 0 = p.sure.getD a 0
  le : ∀ a : Nat, a < 8 → p.loose.getD a 0 ≤ n
end Play

theorem put_at (l : List Wr) : ∀ (s : List Sec) (a : Nat), a < s.length → (∀ x ∈ l, 0 ≤ x.at_) → (l.foldl Dk.put s)[a]? = match Dk.lookL a l with | some x => some x | none => s[a]? := by
  induction l with
  | nil => intro s a _ _; rfl
  | cons x r ih =>
    intro s a ha hp
    have hx := hp x (List.mem_cons_self ..)
    rw [List.foldl_cons, ih (Dk.put s x) a (by rw [Dk.put, List.length_set]; exact ha) (fun y hy => hp y (List.mem_cons_of_mem _ hy)), Dk.lookL]
    cases h : Dk.lookL (a : Int) r with
    | some y => rfl
    | none =>
      dsimp only
      by_cases e : x.at_ = (a : Int)
      · have : x.at_.toNat = a := by omega
        rw [if_pos e, Dk.put, this, List.getElem?_set_self ha]
      · have : x.at_.toNat ≠ a := by omega
        rw [if_neg e, Dk.put, List.getElem?_set_ne this]
theorem inside_of_right {d : Dk} (h : d.right = true) : ∀ x ∈ d.loose, 0 ≤ x.at_ ∧ x.at_ < d.secs.length := by
  rw [Dk.right, Bool.and_eq_true, List.all_eq_true] at h
  intro x hx
  have := h.2 x hx
  simpa [Dk.inside] using this

theorem step_cases (d : Dk) : (d.step.2 = false ∧ d.step.1 = { d with down := true }) ∨ (d.step.2 = true) := by
  unfold Dk.step
  split
  · exact .inl ⟨rfl, rfl⟩
  · exact .inr rfl
theorem right_down (d : Dk) : Dk.right { d with down := true } = d.right := rfl
theorem right_of_rows {d x : Dk} (h1 : x.secs.length = d.secs.length) (h2 : x.loose = d.loose) : x.right = d.right := by
  rw [Dk.right, Dk.right, h1, h2]
theorem sync_cases {d : Dk} (h : d.right = true) : (d.sync.2 = 9 ∧ d.sync.1.secs = d.secs ∧ d.sync.1.loose = d.loose) ∨ (d.sync.2 = 0 ∧ d.sync.1.secs = d.loose.foldl Dk.put d.secs ∧ d.sync.1.loose = []) := by
  have h1 := step_secs d
  have h2 := step_loose d
  unfold Dk.sync
  rw [if_pos h]
  cases hst : d.step with
  | mk x ok =>
    rw [hst] at h1 h2
    cases ok with
    | false => exact .inl ⟨rfl, h1, h2⟩
    | true => exact .inr ⟨rfl, by dsimp only; rw [h1, h2], rfl⟩
theorem write_cases {d : Dk} {i : Int} {s : Sec} (h : d.right = true) (hw : d.within i = true) (hl : d.loose.length < 4096) :
    ((d.write i s).2 = 9 ∧ (d.write i s).1.secs = d.secs ∧ (d.write i s).1.loose = d.loose) ∨ ((d.write i s).2 = 0 ∧ (d.write i s).1.secs = d.secs ∧ (d.write i s).1.loose = d.loose ++ [⟨i, s⟩]) := by
  have h1 := step_secs d
  have h2 := step_loose d
  unfold Dk.write
  have hne : ¬ ((!d.down && decide (d.loose.length = 4096)) = true) := by
    intro e
    simp at e
    omega
  rw [if_pos (by rw [h, hw]; rfl), if_neg hne]
  cases hst : d.step with
  | mk x ok =>
    rw [hst] at h1 h2
    cases ok with
    | false => exact .inl ⟨rfl, h1, h2⟩
    | true => exact .inr ⟨rfl, h1, by dsimp only; rw [h2]⟩

namespace Play
theorem Inv.sync {p : Play} {n : Nat} (h : p.Inv n) : p.sync.Inv (n + 1) ∧ (p.d.sync.2 = 0 ∨ p.d.sync.2 = 9) := by
  rcases sync_cases h.right with ⟨e, h1, h2⟩ | ⟨e, h1, h2⟩
  · refine ⟨?_, .inr e⟩
    have hd : p.sync = { p with d := p.d.sync.1, down := true } := by
      unfold Play.sync; rw [e]; rfl
    rw [hd]
    exact ⟨by dsimp only; rw [h1]; exact h.secs, by dsimp only; rw [h2]; exact Nat.le_succ_of_le h.few, (right_of_rows (by dsimp only; rw [h1]) (by dsimp only; rw [h2])).trans h.right, h.l1, h.l2, h.l3,
      by dsimp only; rw [h1]; exact h.is, by dsimp only; rw [h2]; exact h.cnt, by dsimp only; rw [h2]; exact h.look, h.same, fun a ha => Nat.le_succ_of_le (h.le a ha)⟩
  · refine ⟨?_, .inl e⟩
    have hd : p.sync = { p with d := p.d.sync.1, down := false, sure := p.last, loose := none8 } := by
      unfold Play.sync; rw [e]; rfl
    have hz : ∀ a, none8.getD a 0 = 0 := by
      intro a
      simp only [none8, List.getD_eq_getElem?_getD, List.getElem?_replicate]
      split <;> rfl
    rw [hd]
    refine ⟨by dsimp only; rw [h1, foldl_put_length]; exact h.secs, by dsimp only; rw [h2]; simp, ?_, h.l2, h.l2, by simp [none8], ?_, ?_, ?_, fun a _ _ => rfl, fun a _ => by dsimp only; rw [hz]; omega⟩
    · have hb := right_bounds h.right
      dsimp only
      rw [Dk.right, h1, h2, foldl_put_length]
      simp; omega
    · intro a ha
      dsimp only
      rw [h1, put_at _ _ _ (by rw [h.secs]; exact ha) (fun x hx => (inside_of_right h.right x hx).1), h.look a ha]
      by_cases hc : p.loose.getD a 0 = 0
      · rw [if_pos hc]
        dsimp only
        rw [h.is a ha, h.same a ha hc]
      · rw [if_neg hc]
    · intro a ha
      dsimp only
      rw [h2, hz]; rfl
    · intro a ha
      dsimp only
      rw [h2, hz]; rfl
theorem Inv.write {p : Play} {n : Nat} (h : p.Inv n) (a : Nat) (b : UInt8) (ha : a < 8) (hn : n < 4000) : (p.write a b).Inv (n + 1) ∧ ((p.d.write a (fill b)).2 = 0 ∨ (p.d.write a (fill b)).2 = 9) := by
  have hwi : p.d.within (a : Int) = true := by
    rw [Dk.within, Dk.inside, h.secs]; simp; omega
  rcases write_cases (s := fill b) h.right hwi (by have := h.few; omega) with ⟨e, h1, h2⟩ | ⟨e, h1, h2⟩
  · refine ⟨?_, .inr e⟩
    have hd : p.write a b = { p with d := (p.d.write a (fill b)).1, down := true } := by
      unfold Play.write; rw [e]; rfl
    rw [hd]
    exact ⟨by dsimp only; rw [h1]; exact h.secs, by dsimp only; rw [h2]; exact Nat.le_succ_of_le h.few, (right_of_rows (by dsimp only; rw [h1]) (by dsimp only; rw [h2])).trans h.right, h.l1, h.l2, h.l3,
      by dsimp only; rw [h1]; exact h.is, by dsimp only; rw [h2]; exact h.cnt, by dsimp only; rw [h2]; exact h.look, h.same, fun a ha => Nat.le_succ_of_le (h.le a ha)⟩
  · refine ⟨?_, .inl e⟩
    have hd : p.write a b = { p with d := (p.d.write a (fill b)).1, down := false, last := p.last.set a b, loose := p.loose.set a (p.loose.getD a 0 + 1) } := by
      unfold Play.write; rw [e]; rfl
    have hok := write_ok e
    have g1 : ∀ c, (p.last.set a b).getD c 0 = if a = c ∧ c < 8 then b else p.last.getD c 0 := fun c => by
      rw [List.getD_eq_getElem?_getD, List.getElem?_set, h.l2, List.getD_eq_getElem?_getD]
      by_cases q : a = c
      · subst q; simp [ha]
      · simp [q]
    have g2 : ∀ c, (p.loose.set a (p.loose.getD a 0 + 1)).getD c 0 = if a = c ∧ c < 8 then p.loose.getD a 0 + 1 else p.loose.getD c 0 := fun c => by
      rw [List.getD_eq_getElem?_getD, List.getElem?_set, h.l3]
      by_cases q : a = c
      · subst q; simp [ha]
      · simp [q, List.getD_eq_getElem?_getD]
    rw [hd]
    refine ⟨by dsimp only; rw [h1]; exact h.secs, by dsimp only; rw [h2]; simp; exact h.few, hok.2.2.2.1, h.l1, by simp [h.l2], by simp [h.l3], by dsimp only; rw [h1]; exact h.is, ?_, ?_, ?_, ?_⟩
    · intro c hc
      dsimp only
      rw [h2, List.filter_append, List.length_append, h.cnt c hc, g2]
      by_cases q : a = c
      · subst q; simp [ha]
      · have : ¬ ((a : Int) = (c : Int)) := by omega
        simp [q, this]
    · intro c hc
      dsimp only
      rw [h2, lookL_snoc, h.look c hc, g2, g1]
      by_cases q : a = c
      · subst q; simp [ha]
      · have : ¬ ((a : Int) = (c : Int)) := by omega
        simp [q, this]
    · intro c hc
      dsimp only
      rw [g2, g1]
      by_cases q : a = c
      · subst q; simp [ha]
      · simp only [q, false_and, if_false]; exact h.same c hc
    · intro c hc
      dsimp only
      rw [g2]
      have k1 := h.le a ha
      have k2 := h.le c hc
      split <;> omega
end Play

theorem Play.sync_ok {p : Play} (e : p.d.sync.2 = 0) : p.sync = { p with d := p.d.sync.1, down := false, sure := p.last, loose := Play.none8 } := by unfold Play.sync; rw [e]; rfl
theorem Play.sync_no {p : Play} (e : p.d.sync.2 = 9) : p.sync = { p with d := p.d.sync.1, down := true } := by unfold Play.sync; rw [e]; rfl
theorem Play.write_ok {p : Play} {a : Nat} {b : UInt8} (e : (p.d.write a (fill b)).2 = 0) : p.write a b = { p with d := (p.d.write a (fill b)).1, down := false, last := p.last.set a b, loose := p.loose.set a (p.loose.getD a 0 + 1) } := by unfold Play.write; rw [e]; rfl
theorem Play.write_no {p : Play} {a : Nat} {b : UInt8} (e : (p.d.write a (fill b)).2 = 9) : p.write a b = { p with d := (p.d.write a (fill b)).1, down := true } := by unfold Play.write; rw [e]; rfl
/-- What a fall leaves at a place. -/
theorem lands_at (fates : List (UInt8 × UInt8)) (a : Nat) : ∀ (l : List Wr) (s : List Sec) (i : Nat), a < s.length → (∀ x ∈ l, 0 ≤ x.at_) →
    ((l.filter fun x : Wr => decide (x.at_ = (a : Int))) = [] → (Dk.lands fates s l i)[a]? = s[a]?) ∧
    (∀ x, (l.filter fun x : Wr => decide (x.at_ = (a : Int))) = [x] → ∃ k, (Dk.lands fates s l i)[a]? = some (Dk.torn x.data (s.getD a zeroSec) k))
  | [], s, i, ha, _ => ⟨fun _ => rfl, fun x h => by simp at h⟩
  | x :: r, s, i, ha, hp => by
    have hx := hp x (List.mem_cons_self ..)
    have hl : a < (Dk.land fates s x i).length := by rw [land_length]; exact ha
    obtain ⟨ih1, ih2⟩ := lands_at fates a r (Dk.land fates s x i) (i + 1) hl (fun y hy => hp y (List.mem_cons_of_mem _ hy))
    by_cases e : x.at_ = (a : Int)
    · have et : x.at_.toNat = a := by omega
      refine ⟨fun h => by simp [e] at h, fun y h => ?_⟩
      simp only [List.filter_cons, e, decide_true, if_true, List.cons.injEq] at h
      obtain ⟨rfl, h2⟩ := h
      rw [Dk.lands, ih1 h2, Dk.land]
      split
      · refine ⟨0, ?_⟩
        rw [torn_none, List.getD_eq_getElem?_getD, List.getElem?_eq_getElem ha]; rfl
      · rw [et, List.getElem?_set_self ha]
        exact ⟨_, rfl⟩
    · have et : x.at_.toNat ≠ a := by omega
      have hs : (Dk.land fates s x i)[a]? = s[a]? := by
        rw [Dk.land]; split
        · rfl
        · rw [List.getElem?_set_ne et]
      have hg : (Dk.land fates s x i).getD a zeroSec = s.getD a zeroSec := by rw [List.getD_eq_getElem?_getD, List.getD_eq_getElem?_getD, hs]
      have hf : (x :: r).filter (fun x : Wr => decide (x.at_ = (a : Int))) = r.filter (fun x : Wr => decide (x.at_ = (a : Int))) := by simp [e]
      rw [hf, Dk.lands]
      exact ⟨fun h => (ih1 h).trans hs, fun y h => by rw [← hg]; exact ih2 y h⟩

theorem lookL_filter (a : Int) (l : List Wr) : Dk.lookL a l = Dk.lookL a (l.filter fun x : Wr => decide (x.at_ = a)) := by
  induction l with
  | nil => rfl
  | cons x r ih =>
    by_cases e : x.at_ = a
    · rw [List.filter_cons, if_pos (by simp [e]), Dk.lookL, Dk.lookL, ih]
    · rw [List.filter_cons, if_neg (by simp [e]), Dk.lookL, ih]
      cases h : Dk.lookL a (r.filter fun x : Wr => decide (x.at_ = a)) with
      | some y => rfl
      | none => simp [e]
/-- Behind the fall a sector is read as it must be. -/
theorem fallen {p : Play} {n : Nat} (h : p.Inv n) (fates : List (UInt8 × UInt8)) : (p.d.fall fates (-1)).2 = 0 ∧ ∀ a : Nat, a < 8 →
    ∃ s, (p.d.fall fates (-1)).1.read a = (s, 0) ∧ (p.loose.getD a 0 = 0 → s = fill (p.sure.getD a 0)) ∧ (p.loose.getD a 0 = 1 → ∃ k, s = Dk.torn (fill (p.last.getD a 0)) (fill (p.sure.getD a 0)) k) := by
  have hb := right_bounds h.right
  have hf : p.d.fall fates (-1) = (Dk.arm { p.d with secs := Dk.lands fates p.d.secs p.d.loose 0, loose := [], down := false } (-1), 0) := by rw [Dk.fall, if_pos h.right]
  rw [hf]
  refine ⟨rfl, fun a ha => ?_⟩
  dsimp only
  generalize hx : Dk.arm { p.d with secs := Dk.lands fates p.d.secs p.d.loose 0, loose := [], down := false } (-1) = x
  have x1 : x.secs = Dk.lands fates p.d.secs p.d.loose 0 := by rw [← hx]; rfl
  have x2 : x.loose = [] := by rw [← hx]; rfl
  have x3 : x.down = false := by rw [← hx]; rfl
  have hr : x.right = true := by rw [Dk.right, x1, x2, lands_length]; simp; omega
  have hw : x.within (a : Int) = true := by rw [Dk.within, Dk.inside, x1, lands_length, h.secs]; simp; omega
  have hal : a < p.d.secs.length := by rw [h.secs]; exact ha
  obtain ⟨k1, k2⟩ := lands_at fates a p.d.loose p.d.secs 0 hal (fun y hy => (inside_of_right h.right y hy).1)
  have hg : p.d.secs.getD a zeroSec = fill (p.sure.getD a 0) := by rw [List.getD_eq_getElem?_getD, h.is a ha]; rfl
  refine ⟨x.look a, ?_, ?_, ?_⟩
  · rw [Dk.read, hr, hw, x3]; rfl
  · intro h0
    have hc := h.cnt a ha
    rw [h0] at hc
    have := k1 (List.eq_nil_of_length_eq_zero hc)
    rw [Dk.look, x2, x1]
    simp only [Dk.lookL, Int.toNat_natCast, List.getD_eq_getElem?_getD, this, h.is a ha]; rfl
  · intro h1
    have hc := h.cnt a ha
    rw [h1] at hc
    obtain ⟨y, hy⟩ : ∃ y, (p.d.loose.filter fun x : Wr => decide (x.at_ = (a : Int))) = [y] := by
      cases hq : (p.d.loose.filter fun x : Wr => decide (x.at_ = (a : Int))) with
      | nil => rw [hq] at hc; simp at hc
      | cons y r => rw [hq] at hc; simp at hc; subst hc; exact ⟨y, rfl⟩
    obtain ⟨k, hk⟩ := k2 y hy
    have hyd : y.data = fill (p.last.getD a 0) := by
      have hl := h.look a ha
      rw [h1, if_neg (by decide), lookL_filter, hy] at hl
      have hya : y.at_ = (a : Int) := by
        have : y ∈ (p.d.loose.filter fun x : Wr => decide (x.at_ = (a : Int))) := by rw [hy]; exact List.mem_cons_self ..
        simpa using (List.mem_filter.1 this).2
      simp only [Dk.lookL, hya, if_true] at hl
      exact Option.some.inj hl
    refine ⟨k, ?_⟩
    rw [Dk.look, x2, x1]
    simp only [Dk.lookL, Int.toNat_natCast, List.getD_eq_getElem?_getD, hk]
    rw [hyd, ← List.getD_eq_getElem?_getD, hg]; rfl
end Go.Proofs.Ytfffmmnpohgniaa
