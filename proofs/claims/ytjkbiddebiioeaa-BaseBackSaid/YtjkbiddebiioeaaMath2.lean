/-
  Letters back to bytes, in plain Lean: what is encoded is decoded as it was, and what is decoded, and encoded, is that text; if the alphabet has 64 letters, no two the same.
-/
import Derived.Test.YtjkbiddebiioeaaMath
namespace Go.Proofs.Ytjkbiddebiioeaa.M

/-- An alphabet: 64 letters, no two the same. -/
structure Alph (a : List UInt8) : Prop where
  len : a.length = 64
  back : ∀ k, k < 64 → Lib.indexByte a (lt a k) = k
  forth : ∀ c, Lib.indexByte a c = -1 ∨ (0 ≤ Lib.indexByte a c ∧ Lib.indexByte a c < 64 ∧ lt a (Lib.indexByte a c).toNat = c)

def idx (a : List UInt8) (c : UInt8) : Option Nat := if Lib.indexByte a c < 0 then none else some (Lib.indexByte a c).toNat

/-- The numbers of letters; none, if one is no letter. -/
def idxs (a : List UInt8) : List UInt8 → Option (List Nat)
  | [] => some []
  | c :: r => match idx a c, idxs a r with
    | some k, some ks => some (k :: ks)
    | _, _ => none

/-- The number of a group of at most four letters, noughts behind. -/
def bits4 (ks : List Nat) : Nat := ks.getD 0 0 * 262144 + ks.getD 1 0 * 4096 + ks.getD 2 0 * 64 + ks.getD 3 0

def three (n : Nat) : List UInt8 := [(n / 65536).toUInt8, (n / 256).toUInt8, n.toUInt8]

/-- So many letters, of such a number, are no bytes'. -/
def bad (n b : Nat) : Bool := decide (n = 1) || decide (b % 2 ^ (8 * (4 - n)) ≠ 0)

/-- A group of at most four letters. -/
def decG (a g : List UInt8) : Option (List UInt8) :=
  match idxs a g with
  | none => none
  | some ks => bif bad g.length (bits4 ks) then none else some ((three (bits4 ks)).take (g.length - 1))

theorem decG_of {a g : List UInt8} {ks : List Nat} (h : idxs a g = some ks) :
    decG a g = bif bad g.length (bits4 ks) then none else some ((three (bits4 ks)).take (g.length - 1)) := by
  unfold decG; rw [h]
theorem decG_inv {a g v : List UInt8} (h : decG a g = some v) :
    ∃ ks, idxs a g = some ks ∧ bad g.length (bits4 ks) = false ∧ v = (three (bits4 ks)).take (g.length - 1) := by
  unfold decG at h
  cases hk : idxs a g with
  | none => rw [hk] at h; cases h
  | some ks =>
    rw [hk] at h
    dsimp only at h
    cases hb : bad g.length (bits4 ks) with
    | true => rw [hb] at h; cases h
    | false => rw [hb] at h; injection h with h; exact ⟨ks, rfl, hb, h.symm⟩
theorem idxs_cons {a : List UInt8} {c : UInt8} {r : List UInt8} {ks : List Nat} (h : idxs a (c :: r) = some ks) :
    ∃ k t, idx a c = some k ∧ idxs a r = some t ∧ ks = k :: t := by
  simp only [idxs] at h
  cases hd : idx a c with
  | none => rw [hd] at h; cases h
  | some kd =>
    cases hp : idxs a r with
    | none => rw [hd, hp] at h; cases h
    | some kp => rw [hd, hp] at h; injection h with h; exact ⟨kd, kp, rfl, rfl, h.symm⟩
theorem idxs_mk {a : List UInt8} {c : UInt8} {r : List UInt8} {k : Nat} {t : List Nat} (h1 : idx a c = some k) (h2 : idxs a r = some t) : idxs a (c :: r) = some (k :: t) := by
  simp only [idxs]; rw [h1, h2]

def dec (a : List UInt8) : List UInt8 → Option (List UInt8)
  | [] => some []
  | x :: y :: z :: t :: r => match decG a [x, y, z, t], dec a r with
    | some v, some q => some (v ++ q)
    | _, _ => none
  | g => decG a g

theorem idx_lt {a : List UInt8} (A : Alph a) {c : UInt8} {k : Nat} (h : idx a c = some k) : k < 64 ∧ lt a k = c := by
  unfold idx at h
  split at h
  · cases h
  · injection h with h
    rcases A.forth c with h1 | ⟨_, h1, h2⟩
    · omega
    · subst h; exact ⟨by omega, h2⟩

theorem idx_lt_back {a : List UInt8} (A : Alph a) {k : Nat} (h : k < 64) : idx a (lt a k) = some k := by
  unfold idx
  rw [A.back k h, if_neg (by omega)]; simp

theorem toU8 (n : Nat) : (n.toUInt8).toNat = n % 256 := by simp

theorem decG_enc {a : List UInt8} (A : Alph a) {g v : List UInt8} (hg : 0 < g.length ∧ g.length ≤ 4) (h : decG a g = some v) : enc a v = g ∧ v.length + 1 = g.length := by
  obtain ⟨ks, hk, hb, rfl⟩ := decG_inv h
  clear h
  match g, hg with
  | [x], _ => simp [bad] at hb
  | [x, y], _ =>
    obtain ⟨kx, t1, hx, hk1, rfl⟩ := idxs_cons hk
    obtain ⟨ky, t2, hy, hk2, rfl⟩ := idxs_cons hk1
    obtain rfl : t2 = [] := by injection hk2 with hk2; exact hk2.symm
    obtain ⟨lx, ex⟩ := idx_lt A hx
    obtain ⟨ly, ey⟩ := idx_lt A hy
    have hb' : (kx * 262144 + ky * 4096) % 65536 = 0 := by simpa [bad, bits4] using hb
    simp only [three, List.length_cons, List.length_nil, List.take, Nat.reduceAdd, Nat.reduceSub, enc_one, toU8]
    refine ⟨?_, trivial⟩
    rw [← ex, ← ey]
    simp only [bits4, List.cons.injEq, and_true]
    refine ⟨?_, ?_⟩ <;> (congr 1; simp; omega)
  | [x, y, z], _ =>
    obtain ⟨kx, t1, hx, hk1, rfl⟩ := idxs_cons hk
    obtain ⟨ky, t2, hy, hk2, rfl⟩ := idxs_cons hk1
    obtain ⟨kz, t3, hz, hk3, rfl⟩ := idxs_cons hk2
    obtain rfl : t3 = [] := by injection hk3 with hk3; exact hk3.symm
    obtain ⟨lx, ex⟩ := idx_lt A hx
    obtain ⟨ly, ey⟩ := idx_lt A hy
    obtain ⟨lz, ez⟩ := idx_lt A hz
    have hb' : (kx * 262144 + ky * 4096 + kz * 64) % 256 = 0 := by simpa [bad, bits4] using hb
    simp only [three, List.length_cons, List.length_nil, List.take, Nat.reduceAdd, Nat.reduceSub, enc_two, toU8]
    refine ⟨?_, trivial⟩
    rw [← ex, ← ey, ← ez]
    simp only [bits4, List.cons.injEq, and_true]
    refine ⟨?_, ?_, ?_⟩ <;> (congr 1; simp; omega)
  | [x, y, z, w], _ =>
    obtain ⟨kx, t1, hx, hk1, rfl⟩ := idxs_cons hk
    obtain ⟨ky, t2, hy, hk2, rfl⟩ := idxs_cons hk1
    obtain ⟨kz, t3, hz, hk3, rfl⟩ := idxs_cons hk2
    obtain ⟨kw, t4, hw, hk4, rfl⟩ := idxs_cons hk3
    obtain rfl : t4 = [] := by injection hk4 with hk4; exact hk4.symm
    obtain ⟨lx, ex⟩ := idx_lt A hx
    obtain ⟨ly, ey⟩ := idx_lt A hy
    obtain ⟨lz, ez⟩ := idx_lt A hz
    obtain ⟨l4, e4⟩ := idx_lt A hw
    simp only [three, List.length_cons, List.length_nil, List.take, Nat.reduceAdd, Nat.reduceSub, enc_three, toU8]
    refine ⟨?_, trivial⟩
    rw [← ex, ← ey, ← ez, ← e4]
    simp only [bits4, List.cons.injEq, and_true]
    refine ⟨?_, ?_, ?_, ?_⟩ <;> (congr 1; simp; omega)
  | _ :: _ :: _ :: _ :: _ :: _, hg => simp at hg

theorem dec_short {a g : List UInt8} (h : g.length < 4) (h0 : 0 < g.length) : dec a g = decG a g := by
  match g, h, h0 with
  | [], _, h0 => simp at h0
  | [_], _, _ => rfl
  | [_, _], _, _ => rfl
  | [_, _, _], _, _ => rfl
  | _ :: _ :: _ :: _ :: _, h, _ => simp at h; omega

theorem dec_four {a g r : List UInt8} (h : g.length = 4) : dec a (g ++ r) = match decG a g, dec a r with
    | some v, some q => some (v ++ q)
    | _, _ => none := by
  match g, h with
  | [_, _, _, _], _ => rfl

theorem dec_enc {a : List UInt8} (A : Alph a) : ∀ (n : Nat) (s v : List UInt8), s.length = n → dec a s = some v → enc a v = s := by
  intro n
  induction n using Nat.strongRecOn with
  | _ n ih =>
    intro s v hn h
    by_cases h0 : s.length = 0
    · obtain rfl := List.eq_nil_of_length_eq_zero h0
      simp [dec] at h
      subst h; rfl
    by_cases h4 : s.length < 4
    · rw [dec_short h4 (by omega)] at h
      exact (decG_enc A (by omega) h).1
    · have e : s.take 4 ++ s.drop 4 = s := List.take_append_drop 4 s
      have hl : (s.take 4).length = 4 := by simp; omega
      rw [← e, dec_four hl] at h
      cases h1 : decG a (s.take 4) with
      | none => rw [h1] at h; cases h
      | some p =>
        cases h2 : dec a (s.drop 4) with
        | none => rw [h1, h2] at h; cases h
        | some q =>
          rw [h1, h2] at h
          injection h with h
          subst h
          obtain ⟨e1, e2⟩ := decG_enc A (by omega) h1
          rw [enc_append a p q (by omega), e1, ih _ (by simp; omega) _ q rfl h2, e]

theorem u8_toNat_div (x : UInt8) (n : Nat) (h : n % 256 = x.toNat) : n.toUInt8 = x := by
  apply UInt8.toNat_inj.1; rw [toU8, h]

theorem decG_one {a : List UInt8} (A : Alph a) (x : UInt8) : decG a (enc a [x]) = some [x] := by
  have hx := x.toNat_lt
  rw [enc_one, decG_of (idxs_mk (idx_lt_back A (by omega)) (idxs_mk (idx_lt_back A (by omega)) rfl))]
  have hb : bad 2 (bits4 [x.toNat * 65536 / 262144 % 64, x.toNat * 65536 / 4096 % 64]) = false := by simp [bad, bits4]; omega
  simp only [List.length_cons, List.length_nil, Nat.reduceAdd, hb, cond_false, three, List.take, Nat.reduceSub]
  rw [u8_toNat_div x _ (by simp [bits4]; omega)]

theorem decG_two {a : List UInt8} (A : Alph a) (x y : UInt8) : decG a (enc a [x, y]) = some [x, y] := by
  have hx := x.toNat_lt
  have hy := y.toNat_lt
  rw [enc_two, decG_of (idxs_mk (idx_lt_back A (by omega)) (idxs_mk (idx_lt_back A (by omega)) (idxs_mk (idx_lt_back A (by omega)) rfl)))]
  generalize hB : x.toNat * 65536 + y.toNat * 256 = N
  have hb : bad 3 (bits4 [N / 262144 % 64, N / 4096 % 64, N / 64 % 64]) = false := by simp [bad, bits4]; omega
  simp only [List.length_cons, List.length_nil, Nat.reduceAdd, hb, cond_false, three, List.take, Nat.reduceSub]
  rw [u8_toNat_div x _ (by simp [bits4]; omega), u8_toNat_div y _ (by simp [bits4]; omega)]

theorem decG_three {a : List UInt8} (A : Alph a) (x y z : UInt8) : decG a (enc a [x, y, z]) = some [x, y, z] := by
  have hx := x.toNat_lt
  have hy := y.toNat_lt
  have hz := z.toNat_lt
  rw [enc_three, decG_of (idxs_mk (idx_lt_back A (by omega)) (idxs_mk (idx_lt_back A (by omega)) (idxs_mk (idx_lt_back A (by omega)) (idxs_mk (idx_lt_back A (by omega)) rfl))))]
  generalize hB : x.toNat * 65536 + y.toNat * 256 + z.toNat = N
  have hb : bad 4 (bits4 [N / 262144 % 64, N / 4096 % 64, N / 64 % 64, N % 64]) = false := by simp [bad, bits4, Nat.mod_one]
  simp only [List.length_cons, List.length_nil, Nat.reduceAdd, hb, cond_false, three, List.take, Nat.reduceSub]
  rw [u8_toNat_div x _ (by simp [bits4]; omega), u8_toNat_div y _ (by simp [bits4]; omega), u8_toNat_div z _ (by simp [bits4]; omega)]

theorem enc_dec {a : List UInt8} (A : Alph a) : ∀ (n : Nat) (v : List UInt8), v.length = n → dec a (enc a v) = some v := by
  intro n
  induction n using Nat.strongRecOn with
  | _ n ih =>
    intro v hv
    match v, hv with
    | [], _ => rfl
    | [x], _ => rw [dec_short (by rw [enc_length]; simp [size]) (by rw [enc_length]; simp [size])]; exact decG_one A x
    | [x, y], _ => rw [dec_short (by rw [enc_length]; simp [size]) (by rw [enc_length]; simp [size])]; exact decG_two A x y
    | x :: y :: z :: r, hv =>
      have e : enc a (x :: y :: z :: r) = enc a [x, y, z] ++ enc a r := enc_append a [x, y, z] r (by simp)
      have hr := ih r.length (by simp at hv; omega) r rfl
      rw [e, dec_four (by rw [enc_length]; simp [size]), decG_three A x y z, hr]
      rfl

theorem enc_inj {a : List UInt8} (A : Alph a) {u v : List UInt8} (h : enc a u = enc a v) : u = v := by
  have h1 := enc_dec A _ u rfl
  have h2 := enc_dec A _ v rfl
  rw [h, h2] at h1
  injection h1 with h1
  exact h1.symm

/-- dec, told by enc. -/
theorem dec_iff {a : List UInt8} (A : Alph a) (s v : List UInt8) : dec a s = some v ↔ enc a v = s :=
  ⟨dec_enc A _ s v rfl, fun h => h ▸ enc_dec A _ v rfl⟩

/-! The reference's decoding, letter by letter. -/
def num (ks : List Nat) : Nat := ks.foldl (fun n k => 64 * n + k) 0
def bytes : Nat → Nat → List UInt8
  | 0, _ => []
  | m + 1, x => bytes m (x / 256) ++ [x.toUInt8]
theorem bytes_length (m x : Nat) : (bytes m x).length = m := by
  induction m generalizing x with
  | zero => rfl
  | succ m ih => simp [bytes, ih]

def outAt (ks : List Nat) (i : Nat) : List UInt8 := bytes (6 * i / 8) (num (ks.take i) / 2 ^ (6 * i % 8))
def nAt (ks : List Nat) (i : Nat) : Nat := num (ks.take i) % 2 ^ (6 * i % 8)

theorem num_snoc (ks : List Nat) (k : Nat) : num (ks ++ [k]) = 64 * num ks + k := by
  unfold num; rw [List.foldl_append]; rfl

theorem nAt_lt (ks : List Nat) (i : Nat) : nAt ks i < 2 ^ (6 * i % 8) := Nat.mod_lt _ (Nat.two_pow_pos _)

theorem step_small (ks : List Nat) (i : Nat) (hi : i < ks.length) (hk : ks[i] < 64) (h : 6 * i % 8 + 6 < 8) :
    outAt ks (i + 1) = outAt ks i ∧ nAt ks (i + 1) = nAt ks i * 64 + ks[i] := by
  unfold outAt nAt
  rw [List.take_succ_eq_append_getElem hi, num_snoc]
  have e0 : 6 * i % 8 = 0 := by omega
  have e1 : 6 * (i + 1) / 8 = 6 * i / 8 := by omega
  have e2 : 6 * (i + 1) % 8 = 6 := by omega
  rw [e1, e2, e0]
  refine ⟨?_, ?_⟩
  · congr 1
    simp only [Nat.reducePow]; omega
  · simp only [Nat.reducePow]; omega

theorem step_big (ks : List Nat) (i : Nat) (hi : i < ks.length) (hk : ks[i] < 64) (h : 8 ≤ 6 * i % 8 + 6) :
    outAt ks (i + 1) = outAt ks i ++ [((nAt ks i * 64 + ks[i]) / 2 ^ (6 * i % 8 + 6 - 8)).toUInt8] ∧ nAt ks (i + 1) = (nAt ks i * 64 + ks[i]) % 2 ^ (6 * i % 8 + 6 - 8) ∧
      6 * (i + 1) % 8 = 6 * i % 8 + 6 - 8 := by
  unfold outAt nAt
  rw [List.take_succ_eq_append_getElem hi, num_snoc]
  have e1 : 6 * (i + 1) / 8 = 6 * i / 8 + 1 := by omega
  have e2 : 6 * (i + 1) % 8 = 6 * i % 8 + 6 - 8 := by omega
  rw [e1, e2]
  generalize num (ks.take i) = N
  have hcase : 6 * i % 8 = 2 ∨ 6 * i % 8 = 4 ∨ 6 * i % 8 = 6 := by omega
  refine ⟨?_, ?_, rfl⟩
  · simp only [bytes]
    rcases hcase with h' | h' | h' <;> rw [h'] <;> simp only [Nat.reducePow, Nat.reduceAdd, Nat.reduceSub] <;> congr 1
    · congr 1; omega
    · congr 1; apply UInt8.toNat_inj.1; simp; omega
    · congr 1; omega
    · congr 1; apply UInt8.toNat_inj.1; simp; omega
    · congr 1; omega
    · congr 1; apply UInt8.toNat_inj.1; simp; omega
  · rcases hcase with h' | h' | h' <;> rw [h'] <;> simp only [Nat.reducePow, Nat.reduceAdd, Nat.reduceSub] <;> omega

theorem bytes_val : ∀ (l : List UInt8), bytes l.length (val l) = l := by
  have h : ∀ r : List UInt8, bytes r.length (val r.reverse) = r.reverse := by
    intro r
    induction r with
    | nil => rfl
    | cons u r ih =>
      have := u.toNat_lt
      rw [List.reverse_cons, val_snoc, List.length_cons, bytes]
      rw [show (256 * val r.reverse + u.toNat) / 256 = val r.reverse from by omega, ih]
      congr 2
      apply UInt8.toNat_inj.1; simp
  intro l
  simpa using h l.reverse

theorem num_digs {a : List UInt8} (A : Alph a) (m x : Nat) : ∃ ks, idxs a (digs a m x) = some ks ∧ num ks = x % 64 ^ m := by
  have app : ∀ (p : List UInt8) (ks : List Nat) (c : UInt8) (k : Nat), idxs a p = some ks → idx a c = some k → idxs a (p ++ [c]) = some (ks ++ [k]) := by
    intro p
    induction p with
    | nil => intro ks c k h1 h2; simp [idxs] at h1; subst h1; simp [idxs, h2]
    | cons d p ih =>
      intro ks c k h1 h2
      simp only [idxs, List.cons_append] at h1 ⊢
      cases hd : idx a d with
      | none => simp [hd] at h1
      | some kd =>
        cases hp : idxs a p with
        | none => simp [hd, hp] at h1
        | some kp =>
          simp [hd, hp] at h1
          subst h1
          rw [ih kp c k hp h2]; rfl
  induction m generalizing x with
  | zero => exact ⟨[], rfl, by simp [num, Nat.mod_one]⟩
  | succ m ih =>
    obtain ⟨ks, h1, h2⟩ := ih (x / 64)
    refine ⟨ks ++ [x % 64], app _ _ _ _ h1 (idx_lt_back A (by omega)), ?_⟩
    rw [num_snoc, h2, Nat.pow_succ, Nat.mul_comm (64 ^ m) 64, Nat.mod_mul]; omega

theorem idxs_length {a : List UInt8} : ∀ {s : List UInt8} {ks : List Nat}, idxs a s = some ks → ks.length = s.length := by
  intro s
  induction s with
  | nil => intro ks h; simp [idxs] at h; subst h; rfl
  | cons c r ih =>
    intro ks h
    simp only [idxs] at h
    cases hd : idx a c with
    | none => simp [hd] at h
    | some kd =>
      cases hp : idxs a r with
      | none => simp [hd, hp] at h
      | some kp => simp [hd, hp] at h; subst h; simp [ih hp]

theorem idxs_get {a : List UInt8} : ∀ {s : List UInt8} {ks : List Nat}, idxs a s = some ks → ∀ i (h1 : i < s.length) (h2 : i < ks.length), idx a s[i] = some ks[i] := by
  intro s
  induction s with
  | nil => intro ks _ i h1; simp at h1
  | cons c r ih =>
    intro ks h i h1 h2
    simp only [idxs] at h
    cases hd : idx a c with
    | none => simp [hd] at h
    | some kd =>
      cases hp : idxs a r with
      | none => simp [hd, hp] at h
      | some kp =>
        simp [hd, hp] at h; subst h
        cases i with
        | zero => simpa using hd
        | succ i => simpa using ih hp i (by simpa using h1) (by simpa using h2)

theorem idxs_none {a : List UInt8} : ∀ {s : List UInt8}, (∀ i (h : i < s.length), idx a s[i] ≠ none) → ∃ ks, idxs a s = some ks := by
  intro s
  induction s with
  | nil => intro _; exact ⟨[], rfl⟩
  | cons c r ih =>
    intro h
    obtain ⟨ks, hk⟩ := ih fun i hi => h (i + 1) (by simpa using hi)
    cases hc : idx a c with
    | none => exact absurd hc (h 0 (by simp))
    | some k => exact ⟨k :: ks, by simp [idxs, hc, hk]⟩

/-- A text that is some bytes' letters: the reference's bytes are those. -/
theorem out_of_enc {a : List UInt8} (A : Alph a) {s v : List UInt8} {ks : List Nat} (hs : enc a v = s) (hk : idxs a s = some ks) : outAt ks s.length = v := by
  obtain ⟨ks', h1, h2⟩ := num_digs A (size v.length) (val v * 2 ^ (6 * size v.length - 8 * v.length))
  have e : ks' = ks := by
    have : idxs a s = some ks' := by rw [← hs]; exact h1
    rw [hk] at this; injection this with this; exact this.symm
  subst e
  have hl : s.length = size v.length := by rw [← hs, enc_length]
  have hlk := idxs_length hk
  have hlt : val v * 2 ^ (6 * size v.length - 8 * v.length) < 64 ^ size v.length := by
    have hs' : 8 * v.length ≤ 6 * size v.length := by unfold size; omega
    have e5 : 256 ^ v.length * 2 ^ (6 * size v.length - 8 * v.length) = 64 ^ size v.length := by
      rw [show (256 : Nat) = 2 ^ 8 from rfl, show (64 : Nat) = 2 ^ 6 from rfl, ← Nat.pow_mul, ← Nat.pow_mul, ← Nat.pow_add]
      congr 1; omega
    rw [← e5]
    exact (Nat.mul_lt_mul_right (Nat.two_pow_pos _)).2 (val_lt v)
  rw [Nat.mod_eq_of_lt hlt] at h2
  unfold outAt
  rw [List.take_of_length_le (by omega), h2, hl]
  have e1 : 6 * size v.length / 8 = v.length := by unfold size; omega
  have e2 : 6 * size v.length % 8 = 6 * size v.length - 8 * v.length := by unfold size; omega
  rw [e1, e2, Nat.mul_div_cancel _ (Nat.two_pow_pos _), bytes_val]

/-- The reference's answer is dec's. -/
theorem ref_dec {a : List UInt8} (A : Alph a) (s : List UInt8) :
    dec a s = match idxs a s with
      | none => none
      | some ks => if enc a (outAt ks s.length) = s then some (outAt ks s.length) else none := by
  cases hk : idxs a s with
  | none =>
    cases hd : dec a s with
    | none => rfl
    | some v =>
      have he := (dec_iff A s v).1 hd
      obtain ⟨ks', h1, _⟩ := num_digs A (size v.length) (val v * 2 ^ (6 * size v.length - 8 * v.length))
      have : idxs a s = some ks' := by rw [← he]; exact h1
      rw [hk] at this; cases this
  | some ks =>
    dsimp only
    split
    · rename_i h; exact (dec_iff A s _).2 h
    · rename_i h
      cases hd : dec a s with
      | none => rfl
      | some v =>
        have he := (dec_iff A s v).1 hd
        rw [out_of_enc A he hk] at h
        exact absurd he h
end Go.Proofs.Ytjkbiddebiioeaa.M
