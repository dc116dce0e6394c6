/-
  More plain laws on letters: the steps of the program's decode.
-/
import Derived.Test.YtjkbiddebiioeaaMath2
namespace Go.Proofs.Ytjkbiddebiioeaa.M

theorem idxs_snoc {a : List UInt8} : ∀ {p : List UInt8} {ks : List Nat} {c : UInt8} {k : Nat}, idxs a p = some ks → idx a c = some k → idxs a (p ++ [c]) = some (ks ++ [k]) := by
  intro p
  induction p with
  | nil => intro ks c k h1 h2; simp [idxs] at h1; subst h1; simp [idxs, h2]
  | cons d p ih =>
    intro ks c k h1 h2
    obtain ⟨kd, t, hd, ht, rfl⟩ := idxs_cons h1
    exact idxs_mk hd (ih ht h2)

theorem idxs_none_of {a : List UInt8} {c : UInt8} (hc : idx a c = none) : ∀ {g : List UInt8}, c ∈ g → idxs a g = none := by
  intro g
  induction g with
  | nil => intro h; cases h
  | cons d r ih =>
    intro h
    cases hi : idxs a (d :: r) with
    | none => rfl
    | some ks =>
      obtain ⟨kd, t, hd, ht, _⟩ := idxs_cons hi
      rcases List.mem_cons.1 h with h | h
      · subst h; rw [hc] at hd; cases hd
      · rw [ih h] at ht; cases ht

theorem idxs_lt {a : List UInt8} (A : Alph a) : ∀ {g : List UInt8} {ks : List Nat}, idxs a g = some ks → ∀ k ∈ ks, k < 64 := by
  intro g
  induction g with
  | nil => intro ks h k hk; simp [idxs] at h; subst h; cases hk
  | cons d r ih =>
    intro ks h k hk
    obtain ⟨kd, t, hd, ht, rfl⟩ := idxs_cons h
    rcases List.mem_cons.1 hk with h | h
    · subst h; exact (idx_lt A hd).1
    · exact ih ht k h

theorem dec_none_of {a t : List UInt8} (h0 : 0 < t.length) (h : idxs a (t.take 4) = none) : dec a t = none := by
  by_cases h4 : t.length < 4
  · rw [List.take_of_length_le (by omega)] at h
    rw [dec_short h4 h0]
    unfold decG; rw [h]
  · rw [← List.take_append_drop 4 t, dec_four (by simp; omega)]
    unfold decG; rw [h]

theorem dec_step {a t : List UInt8} {ks : List Nat} {m : Nat} (h0 : 0 < t.length) (hm : m = min 4 t.length) (h : idxs a (t.take m) = some ks) :
    dec a t = bif bad m (bits4 ks) then none else (dec a (t.drop m)).map ((three (bits4 ks)).take (m - 1) ++ ·) := by
  by_cases h4 : t.length < 4
  · have hm' : m = t.length := by omega
    subst hm'
    rw [List.take_of_length_le (Nat.le_refl _)] at h
    rw [dec_short h4 h0, decG_of h, List.drop_of_length_le (Nat.le_refl _)]
    cases bad t.length (bits4 ks) <;> simp [dec]
  · have hm' : m = 4 := by omega
    subst hm'
    have e := List.take_append_drop 4 t
    have hl : (t.take 4).length = 4 := by simp; omega
    conv => lhs; rw [← e]
    rw [dec_four hl, decG_of h, hl]
    cases bad 4 (bits4 ks)
    · cases dec a (t.drop 4) <;> rfl
    · rfl

/-- The numbers of letters, filled up with noughts. -/
def pad (ks : List Nat) (i : Nat) : List Nat := ks ++ List.replicate (i - ks.length) 0

theorem pad_more (ks : List Nat) (k : Nat) (h : ks.length ≤ k) : pad ks (k + 1) = pad ks k ++ [0] := by
  unfold pad
  rw [show k + 1 - ks.length = (k - ks.length) + 1 from by omega, List.replicate_succ', List.append_assoc]
theorem pad_full (ks : List Nat) (k q : Nat) (h : ks.length = k) : pad (ks ++ [q]) (k + 1) = pad ks k ++ [q] := by
  unfold pad
  simp [h]
theorem pad_length (ks : List Nat) (k : Nat) (h : ks.length ≤ k) : (pad ks k).length = k := by simp [pad]; omega
theorem num_lt (ks : List Nat) (h : ∀ k ∈ ks, k < 64) : num ks < 64 ^ ks.length := by
  have key : ∀ r : List Nat, (∀ k ∈ r, k < 64) → num r.reverse < 64 ^ r.length := by
    intro r
    induction r with
    | nil => intro _; simp [num]
    | cons u r ih =>
      intro hr
      have h1 := ih fun k hk => hr k (List.mem_cons_of_mem _ hk)
      have h2 := hr u List.mem_cons_self
      rw [List.reverse_cons, num_snoc, List.length_cons, Nat.pow_succ]; omega
  have := key ks.reverse (fun k hk => h k (List.mem_reverse.1 hk))
  simpa using this
theorem num_pad_lt (ks : List Nat) (k : Nat) (hk : k ≤ 4) (hl : ks.length ≤ k) (h : ∀ k ∈ ks, k < 64) : num (pad ks k) < 16777216 := by
  have h1 := num_lt (pad ks k) (by
    intro x hx
    unfold pad at hx
    rcases List.mem_append.1 hx with h' | h'
    · exact h x h'
    · have := (List.mem_replicate.1 h').2; omega)
  rw [pad_length ks k hl] at h1
  have : 64 ^ k ≤ 64 ^ 4 := Nat.pow_le_pow_right (by omega) hk
  omega
theorem num_pad4 (ks : List Nat) (h : ks.length ≤ 4) : num (pad ks 4) = bits4 ks := by
  match ks, h with
  | [], _ => rfl
  | [x], _ => simp [pad, num, bits4, List.replicate]; omega
  | [x, y], _ => simp [pad, num, bits4, List.replicate]; omega
  | [x, y, z], _ => simp [pad, num, bits4, List.replicate]; omega
  | [x, y, z, t], _ => simp [pad, num, bits4]; omega
  | _ :: _ :: _ :: _ :: _ :: _, h => simp at h
end Go.Proofs.Ytjkbiddebiioeaa.M
