import Derived.Lib.UnsafeStr
set_option linter.unusedSimpArgs false
set_option linter.unusedVariables false

section
/-
  A disk in plain Lean: sectors of 128 bytes, writes that aren't sure, a fuse; what each operation answers. No program in sight.
-/
namespace Go.Proofs.YtbhjigejpdbeiaaDoor

/-- A sector: 128 bytes. -/
abbrev Sec := { l : List UInt8 // l.length = 128 }
def zeroSec : Sec := ⟨List.replicate 128 0, by simp⟩

structure Wr where
  at_ : Int
  data : Sec

structure Dk where
  secs : List Sec
  loose : List Wr
  fuse : Int
  down : Bool

namespace Dk
def inside (n : Nat) (i : Int) : Bool := decide (0 ≤ i ∧ i < n)
def within (d : Dk) (i : Int) : Bool := inside d.secs.length i
def right (d : Dk) : Bool := decide (1 ≤ d.secs.length ∧ d.secs.length ≤ 2048 ∧ d.loose.length ≤ 4096) && d.loose.all fun x => inside d.secs.length x.at_
def arm (d : Dk) (f : Int) : Dk := { d with fuse := max f (-1) }
/-- The last loose write's data at a place, or none. -/
def lookL (i : Int) : List Wr → Option Sec
  | [] => none
  | x :: r => match lookL i r with
    | some s => some s
    | none => if x.at_ = i then some x.data else none
def look (d : Dk) (i : Int) : Sec := match lookL i d.loose with
  | some s => s
  | none => d.secs.getD i.toNat zeroSec
def read (d : Dk) (i : Int) : Sec × Int :=
  if right d && within d i then (if d.down then (zeroSec, 9) else (look d i, 0)) else (zeroSec, 1)
def step (d : Dk) : Dk × Bool :=
  if d.down || decide (d.fuse = 0) then ({ d with down := true }, false)
  else ({ d with fuse := if 0 < d.fuse then d.fuse - 1 else d.fuse }, true)
def write (d : Dk) (i : Int) (s : Sec) : Dk × Int :=
  if right d && within d i then
    (if !d.down && decide (d.loose.length = 4096) then (d, 10)
     else match step d with
      | (x, false) => (x, 9)
      | (x, true) => ({ x with loose := x.loose ++ [⟨i, s⟩] }, 0))
  else (d, 1)
def put (l : List Sec) (x : Wr) : List Sec := l.set x.at_.toNat x.data
def sync (d : Dk) : Dk × Int :=
  if right d then
    (match step d with
      | (x, false) => (x, 9)
      | (x, true) => ({ x with secs := x.loose.foldl put x.secs, loose := [] }, 0))
  else (d, 1)
/-- The first bytes of a sector, and the end of another one. -/
def torn (a b : Sec) (n : Nat) : Sec := ⟨a.1.take n ++ b.1.drop n, by
  rw [List.length_append, List.length_take, List.length_drop, a.2, b.2]; omega⟩
/-- How many bytes a fate keeps. -/
def kept (f : UInt8 × UInt8) : Nat := if f.1.toNat % 3 = 1 then 128 else if f.1.toNat % 3 = 2 then f.2.toNat % 128 else 0
def land (fates : List (UInt8 × UInt8)) (l : List Sec) (x : Wr) (i : Nat) : List Sec :=
  if fates.length = 0 then l else l.set x.at_.toNat (torn x.data (l.getD x.at_.toNat zeroSec) (kept (fates.getD (i % fates.length) (0, 0))))
def lands (fates : List (UInt8 × UInt8)) : List Sec → List Wr → Nat → List Sec
  | l, [], _ => l
  | l, x :: r, i => lands fates (land fates l x i) r (i + 1)
def fall (d : Dk) (fates : List (UInt8 × UInt8)) (f : Int) : Dk × Int :=
  if right d then (arm { d with secs := lands fates d.secs d.loose 0, loose := [], down := false } f, 0) else (d, 1)
def new (n : Int) : Dk × Int := if 1 ≤ n ∧ n ≤ 2048 then (⟨List.replicate n.toNat zeroSec, [], -1, false⟩, 0) else (⟨[], [], 0, false⟩, 1)
end Dk
end Go.Proofs.YtbhjigejpdbeiaaDoor
end

section
/-
  Plain laws of disks: what is looked up.
-/
namespace Go.Proofs.YtbhjigejpdbeiaaDoor
namespace Dk
theorem lookL_none {i : Int} {l : List Wr} (h : ∀ x ∈ l, x.at_ ≠ i) : lookL i l = none := by
  induction l with
  | nil => rfl
  | cons x r ih =>
    rw [lookL, ih fun y hy => h y (List.mem_cons_of_mem _ hy)]
    exact if_neg (h x (List.mem_cons_self ..))
theorem lookL_some {i : Int} {l : List Wr} {k : Nat} {x : Wr} (hk : l[k]? = some x) (hx : x.at_ = i) (h : ∀ j y, k < j → l[j]? = some y → y.at_ ≠ i) : lookL i l = some x.data := by
  induction l generalizing k with
  | nil => simp at hk
  | cons y r ih =>
    cases k with
    | zero =>
      simp at hk; subst hk
      rw [lookL, lookL_none]
      · exact if_pos hx
      · intro z hz
        obtain ⟨j, hj⟩ := List.getElem?_of_mem hz
        exact h (j + 1) z (by omega) (by simpa using hj)
    | succ k =>
      rw [lookL, ih (k := k) (by simpa using hk) fun j y hj hy => h (j + 1) y (by omega) (by simpa using hy)]
end Dk
end Go.Proofs.YtbhjigejpdbeiaaDoor
end

section
/-
  SHA-256 of 120 bytes in plain Lean. No program in sight.
-/
namespace Go.Proofs.YtbhjigejpdbeiaaDoor

abbrev W32 := BitVec 32
namespace Sha
def roots : List Nat := [
  4794697086780616226, 8158064640168781261, 13096744586834688815, 16840607885511220156, 4131703408338449720, 6480981068601479193,
  10538285296894168987, 12329834152419229976, 15566598209576043074, 1334009975649890238, 2608012711638119052, 6128411473006802146,
  8268148722764581231, 9286055187155687089, 11230858885718282805, 13951009754708518548, 16472876342353939154, 17275323862435702243,
  1135362057144423861, 2597628984639134821, 3308224258029322869, 5365058923640841347, 6679025012923562964, 8573033837759648693,
  10970295158949994411, 12119686244451234320, 12683024718118986047, 13788192230050041572, 14330467153632333762, 15395433587784984357,
  489312712824947311, 1452737877330783856, 2861767655752347644, 3322285676063803686, 5560940570517711597, 5996557281743188959,
  7280758554555802590, 8532644243296465576, 9350256976987008742, 10552545826968843579, 11727347734174303076, 12113106623233404929,
  14000437183269869457, 14369950271660146224, 15101387698204529176, 15463397548674623760, 17586052441742319658, 1182934255886127544,
  1847814050463011016, 2177327727835720531, 2830643537854262169, 3796741975233480872, 4115178125766777443, 5681478168544905931,
  6601373596472566643, 7507060721942968483, 8399075790359081724, 8693463985226723168, 9568029438360202098, 10144078919501101548,
  10430055236837252648, 11840083180663258601, 13761210420658862357, 14299343276471374635, 14566680578165727644, 15097957966210449927,
  16922976911328602910, 17689382322260857208, 500013540394364858, 748580250866718886, 1242879168328830382, 1977374033974150939,
  2944078676154940804, 3659926193048069267, 4368137639120453308, 4836135668995329356, 5532061633213252278, 6448918945643986474,
  6902733635092675308, 7801388544844847127]
def begins : List Nat := [
  7640891576956012808, 13503953896175478587, 4354685564936845355, 11912009170470909681, 5840696475078001361, 11170449401992604703,
  2270897969802886507, 6620516959819538809]
theorem roots_length : roots.length = 80 := by decide +kernel
theorem begins_length : begins.length = 8 := by decide +kernel
def K (i : Nat) : W32 := BitVec.ofNat 32 (roots.getD i 0 / 4294967296)
def rotr (x : W32) (n : Nat) : W32 := (x >>> n) ||| (x <<< (32 - n))
def big0 (x : W32) : W32 := rotr x 2 ^^^ rotr x 13 ^^^ rotr x 22
def big1 (x : W32) : W32 := rotr x 6 ^^^ rotr x 11 ^^^ rotr x 25
def small0 (x : W32) : W32 := rotr x 7 ^^^ rotr x 18 ^^^ (x >>> 3)
def small1 (x : W32) : W32 := rotr x 17 ^^^ rotr x 19 ^^^ (x >>> 10)
/-- One word more. -/
def next (m : List W32) : W32 := m.getD (m.length - 16) 0 + small0 (m.getD (m.length - 15) 0) + m.getD (m.length - 7) 0 + small1 (m.getD (m.length - 2) 0)
def sched (m : List W32) : Nat → List W32
  | 0 => m
  | n + 1 => let p := sched m n; p ++ [next p]
structure St where
  (a b c d e f g h : W32)
def tee (s : St) (k x : W32) : W32 := s.h + big1 s.e + ((s.e &&& s.f) ^^^ (~~~s.e &&& s.g)) + k + x
def you (s : St) : W32 := big0 s.a + ((s.a &&& s.b) ^^^ (s.a &&& s.c) ^^^ (s.b &&& s.c))
def round (s : St) (k x : W32) : St := ⟨tee s k x + you s, s.a, s.b, s.c, s.d + tee s k x, s.e, s.f, s.g⟩
def runs (m : List W32) (s : St) : Nat → St
  | 0 => s
  | i + 1 => let r := runs m s i; round r (K i) (m.getD i 0)
def St.add (s t : St) : St := ⟨s.a + t.a, s.b + t.b, s.c + t.c, s.d + t.d, s.e + t.e, s.f + t.f, s.g + t.g, s.h + t.h⟩
def St.list (s : St) : List W32 := [s.a, s.b, s.c, s.d, s.e, s.f, s.g, s.h]
/-- A block of sixteen words is taken in. -/
def take (h : St) (l : List W32) : St := h.add (runs (sched l 48) h 64)
/-- The words of the first i bytes of a block. -/
def words (b : List UInt8) : Nat → List W32
  | 0 => List.replicate 16 0
  | i + 1 => let l := words b i; l.set (i / 4) ((l.getD (i / 4) 0 <<< 8) ||| BitVec.ofNat 32 (b.getD i 0).toNat)
def begin_ (i : Nat) : W32 := BitVec.ofNat 32 (begins.getD i 0 / 4294967296)
def start : St := ⟨begin_ 0, begin_ 1, begin_ 2, begin_ 3, begin_ 4, begin_ 5, begin_ 6, begin_ 7⟩
/-- 120 bytes, and what is padded. -/
def pad (b : List UInt8) : List UInt8 := b ++ 128 :: List.replicate 69 0 ++ [3, 192]
def bytesOf (x : W32) : List UInt8 := [UInt8.ofNat (x.toNat / 16777216), UInt8.ofNat (x.toNat / 65536), UInt8.ofNat (x.toNat / 256), UInt8.ofNat x.toNat]
def out (s : St) : List UInt8 := (s.list.map bytesOf).flatten
def block (h : St) (b : List UInt8) : St := take h (words b 64)
/-- The sum of 120 bytes. -/
def sum (b : List UInt8) : List UInt8 :=
  let p := pad b
  out (block (block (block start (p.take 64)) ((p.drop 64).take 64)) ((p.drop 128).take 64))

theorem sched_length (m : List W32) (n : Nat) : (sched m n).length = m.length + n := by
  induction n with
  | zero => rfl
  | succ n ih => rw [sched, List.length_append, ih]; rfl
theorem words_length (b : List UInt8) (i : Nat) : (words b i).length = 16 := by
  induction i with
  | zero => rfl
  | succ i ih => rw [words, List.length_set, ih]
theorem out_length (s : St) : (out s).length = 32 := by simp [out, St.list, bytesOf]
theorem pad_length (b : List UInt8) (h : b.length = 120) : (pad b).length = 192 := by simp [pad, h]
theorem sum_length (b : List UInt8) : (sum b).length = 32 := by unfold sum; exact out_length _
/-- A word is begun with its own bytes alone. -/
theorem words_get (b : List UInt8) (i : Nat) : ∀ j, (i ≤ 4 * j → (words b i).getD j 0 = 0) ∧ (4 * j ≤ i → i ≤ 4 * j + 3 → ((words b i).getD j 0).toNat < 256 ^ (i - 4 * j)) := by
  induction i with
  | zero =>
    intro j
    have h0 : (words b 0).getD j 0 = 0 := by
      rw [words]
      by_cases hj : j < 16
      · rw [List.getD_eq_getElem?_getD, List.getElem?_replicate, if_pos hj]; rfl
      · rw [List.getD_eq_getElem?_getD, List.getElem?_replicate, if_neg hj]; rfl
    refine ⟨fun _ => h0, fun h1 h2 => ?_⟩
    rw [h0]
    have : j = 0 := by omega
    subst this
    decide
  | succ i ih =>
    intro j
    obtain ⟨h1, h2⟩ := ih j
    refine ⟨fun h => ?_, fun k1 k2 => ?_⟩
    · rw [words, List.getD_eq_getElem?_getD, List.getElem?_set_ne (by omega), ← List.getD_eq_getElem?_getD]
      exact h1 (by omega)
    · by_cases hj : i / 4 = j
      · subst hj
        rw [words, List.getD_eq_getElem?_getD]
        by_cases hl : i / 4 < (words b i).length
        · rw [List.getElem?_set_self hl]
          have h3 := h2 (by omega) (by omega)
          show (((words b i).getD (i / 4) 0) <<< 8 ||| BitVec.ofNat 32 (b.getD i 0).toNat).toNat < _
          generalize (words b i).getD (i / 4) 0 = x at *
          have hb : (b.getD i 0).toNat < 256 := (b.getD i 0).toNat_lt
          generalize (b.getD i 0).toNat = y at *
          rw [BitVec.toNat_or, BitVec.toNat_shiftLeft, BitVec.toNat_ofNat, Nat.shiftLeft_eq]
          obtain ⟨q, hq⟩ : ∃ q, q = i - 4 * (i / 4) := ⟨_, rfl⟩
          rw [← hq] at h3
          rw [show i + 1 - 4 * (i / 4) = q + 1 by omega]
          have hq3 : q ≤ 2 := by omega
          have hle : 256 ^ (q + 1) = 256 ^ q * 256 := Nat.pow_succ ..
          have hp : 256 ^ q * 256 = 2 ^ (8 * (q + 1)) := by
            rw [← hle, show (256 : Nat) = 2 ^ 8 from rfl, ← Nat.pow_mul]
          have hm : x.toNat * 2 ^ 8 % 2 ^ 32 < 256 ^ q * 256 := by
            refine Nat.lt_of_le_of_lt (Nat.mod_le _ _) ?_
            exact Nat.mul_lt_mul_of_pos_right h3 (by decide)
          rw [hle]
          rw [hp] at hm ⊢
          refine Nat.or_lt_two_pow hm ?_
          refine Nat.lt_of_le_of_lt (Nat.mod_le _ _) (Nat.lt_of_lt_of_le hb ?_)
          rw [← hp]
          exact Nat.le_mul_of_pos_left _ (Nat.pow_pos (by decide))
        · rw [List.getElem?_eq_none (by rw [List.length_set]; omega)]
          exact Nat.pow_pos (by decide)
      · rw [words, List.getD_eq_getElem?_getD, List.getElem?_set_ne (by omega), ← List.getD_eq_getElem?_getD]
        have : i + 1 = 4 * j := by omega
        rw [this, Nat.sub_self, h1 (by omega)]
        decide
-- checks: the sum of 120 bytes 0
end Sha
end Go.Proofs.YtbhjigejpdbeiaaDoor
end

section
/-
  A journal in plain Lean: what a sealed sector says, records of a half, and what each operation answers. No program in sight.
-/
namespace Go.Proofs.YtbhjigejpdbeiaaDoor
attribute [local irreducible] Sha.sum

/-- What a sealed sector says. -/
structure Part where
  gen : Int
  index : Int
  marks : UInt8
  data : List UInt8

/-- The bytes of a number, the lowest first. -/
def leB (n : Int) (k : Nat) : List UInt8 := (List.range k).map fun i => UInt8.ofNat (n / 2 ^ (8 * i) % 256).toNat
theorem leB_length (n : Int) (k : Nat) : (leB n k).length = k := by simp [leB]
/-- A number of bytes. -/
def toldB : List UInt8 → Nat
  | [] => 0
  | x :: r => x.toNat + 256 * toldB r

namespace Part
/-- The bytes that are summed. -/
def body (p : Part) : List UInt8 := (leB p.gen 8 ++ leB p.index 4 ++ [UInt8.ofNat p.data.length, p.marks] ++ p.data ++ List.replicate (106 - p.data.length) 0).take 120
theorem body_length (p : Part) : p.body.length = 120 := by
  simp only [body, List.length_take, List.length_append, leB_length, List.length_cons, List.length_nil, List.length_replicate]
  omega
theorem body_eq (p : Part) (h : p.data.length ≤ 106) : p.body = leB p.gen 8 ++ leB p.index 4 ++ [UInt8.ofNat p.data.length, p.marks] ++ p.data ++ List.replicate (106 - p.data.length) 0 := by
  rw [body, List.take_of_length_le]
  simp only [List.length_append, leB_length, List.length_cons, List.length_nil, List.length_replicate]
  omega
/-- A part's sector. -/
def sec (p : Part) : Sec := ⟨p.body ++ (Sha.sum p.body).take 8, by rw [List.length_append, body_length, List.length_take, Sha.sum_length]; rfl⟩
end Part

/-- What a sector says that isn't asked whether it is sealed. -/
def rawP (s : Sec) : Part := ⟨toldB (s.1.take 6), toldB ((s.1.drop 8).take 4), s.1.getD 13 0, (s.1.drop 14).take (s.1.getD 12 0).toNat⟩
/-- May a sector be sealed? -/
def fitS (s : Sec) : Bool := !(decide (100 < (s.1.getD 12 0).toNat) || decide (3 < (s.1.getD 13 0).toNat) || !(s.1.getD 6 0 ||| s.1.getD 7 0 == 0))
/-- Is it? -/
def goodS (s : Sec) : Bool := fitS s && decide (1 ≤ (rawP s).gen ∧ (rawP s).gen ≤ 1099511627776) && decide ((rawP s).sec = s)
def says (s : Sec) : Option Part := if goodS s then some (rawP s) else none

/-- How many sectors a record has. -/
def jsize (n : Int) : Int := if n < 0 ∨ n > 4096 then 0 else max 1 ((n + 99) / 100)
def sizeN (n : Nat) : Nat := if n > 4096 then 0 else max 1 ((n + 99) / 100)
theorem jsize_cast (n : Nat) : jsize n = sizeN n := by
  unfold jsize sizeN
  by_cases h : n > 4096
  · rw [if_pos (Or.inr (by omega)), if_pos h]; rfl
  · rw [if_neg (by omega), if_neg h]
    omega

namespace Dk
def half (d : Dk) : Nat := d.secs.length / 2
/-- The part that stands at an index of a half. -/
def at_ (d : Dk) (h i : Nat) : Option Part :=
  if i < d.half then (match says (d.look ((h * d.half + i : Nat) : Int)) with
    | some p => if p.index = i then some p else none
    | none => none)
  else none
theorem at_lt {d : Dk} {h i : Nat} {p : Part} (hp : d.at_ h i = some p) : i < d.half := by
  unfold at_ at hp
  by_cases q : i < d.half
  · exact q
  · rw [if_neg q] at hp; cases hp

/-- May a part stand where it does, within a record that begins at an index? -/
def bad (p : Part) (gen : Int) (start k len : Nat) : Bool :=
  !decide (p.gen = gen) || !((p.marks &&& 1 != 0) == decide (k = start)) || (!(p.marks &&& 2 != 0) && decide (p.data.length < 100)) || (!(p.marks &&& 1 != 0) && decide (p.data.length = 0)) || decide (4096 < len + p.data.length)
/-- The record whose first sector stands at an index, and the index behind it. -/
def oneF (d : Dk) (h : Nat) (gen : Int) (start : Nat) : Nat → Nat → List UInt8 → Option (List UInt8 × Nat)
  | 0, _, _ => none
  | f + 1, k, acc => match d.at_ h k with
    | none => none
    | some p => if bad p gen start k acc.length then none else if p.marks &&& 2 != 0 then some (acc ++ p.data, k + 1) else oneF d h gen start f (k + 1) (acc ++ p.data)
def one (d : Dk) (h : Nat) (gen : Int) (start : Nat) : Option (List UInt8 × Nat) := oneF d h gen start (d.half + 1 - start) start []
/-- A half's records, from an index on. -/
def readF (d : Dk) (h : Nat) (gen : Int) (n : Nat) : Nat → Nat → List (List UInt8) → Option (List (List UInt8) × Nat)
  | 0, _, _ => none
  | f + 1, i, acc => match d.one h gen i with
    | none => if i ≤ n then none else some (acc, i)
    | some (r, j) => if i ≤ n ∧ n + 1 < j then none else readF d h gen n f j (acc ++ [r])
/-- What the header says: how many sectors the snapshot has. -/
def header (p : Part) : Option Nat := if p.marks = 3 ∧ p.data.length = 7 ∧ p.data.take 3 = [108, 111, 103] then some (toldB (p.data.drop 3)) else none
/-- A half's records, its generation, and how many sectors are used. -/
def used (d : Dk) (h : Nat) : Option (List (List UInt8) × Int × Nat) :=
  match d.at_ h 0 with
  | none => none
  | some p => match header p with
    | none => none
    | some n => if n < d.half then (match readF d h p.gen n (d.half + 1) 1 [] with
        | none => none
        | some (l, i) => some (l, p.gen, i)) else none
def able (d : Dk) : Int := if d.secs.length < 8 ∨ d.right = false then 1 else if d.down then 9 else 0
def records (d : Dk) (h : Int) : Option (List (List UInt8) × Int) :=
  if 0 ≤ h ∧ h ≤ 1 ∧ d.able = 0 then (d.used h.toNat).map fun x => (x.1, x.2.1) else none
/-- The greatest generation that a sealed sector bears. -/
def genAt (d : Dk) (i : Nat) : Int := match says (d.look i) with | some p => p.gen | none => 0
def topF (d : Dk) : Nat → Int
  | 0 => 0
  | i + 1 => max (topF d i) (d.genAt i)
def top (d : Dk) : Int := d.topF d.secs.length

/-- A record's parts. -/
def partN (r : List UInt8) (gen index : Int) (i : Nat) : Part :=
  ⟨gen, index + i, (if i = 0 then 1 else 0) ||| (if i + 1 = sizeN r.length then 2 else 0), (r.drop (100 * i)).take 100⟩
def parts (r : List UInt8) (gen index : Int) : List Part := (List.range (sizeN r.length)).map (partN r gen index)
theorem parts_length (r : List UInt8) (gen index : Int) : (parts r gen index).length = sizeN r.length := by simp [parts]
/-- Parts are written, and synced. -/
def puts (d : Dk) (h : Nat) : List Part → Dk × Int
  | [] => d.sync
  | p :: l => match d.write (((h * d.half : Nat) : Int) + p.index) p.sec with
    | (x, e) => if e = 0 then puts x h l else (x, e)
def layP (gen : Int) : List (List UInt8) → List Part → List Part
  | [], l => l
  | r :: rs, l => layP gen rs (l ++ parts r gen ((1 + l.length : Nat) : Int))
def head (gen : Int) (n : Nat) : Part := ⟨gen, 0, 3, [108, 111, 103] ++ leB n 4⟩

structure Log where
  half : Int
  gen : Int
  used : Int
def Log.zero : Log := ⟨0, 0, 0⟩

/-- Records in a half. -/
def lay (d : Dk) (h : Nat) (rs : List (List UInt8)) : Dk × Log × Int :=
  if 1099511627776 ≤ d.top then (d, .zero, 5) else
  match d.puts h (layP (d.top + 1) rs []) with
  | (x, e) => if e = 0 then (match x.puts h [head (d.top + 1) (layP (d.top + 1) rs []).length] with
      | (y, e) => if e = 0 then (y, ⟨h, d.top + 1, ((1 + (layP (d.top + 1) rs []).length : Nat) : Int)⟩, 0) else (y, .zero, e)) else (x, .zero, e)
def format (d : Dk) : Dk × Log × Int := if d.able = 0 then d.lay 0 [] else (d, .zero, d.able)
/-- The half whose records are the journal's. -/
def best (d : Dk) : Option (List (List UInt8) × Nat) :=
  match d.used 0, d.used 1 with
  | none, none => none
  | some a, none => some (a.1, 0)
  | none, some b => some (b.1, 1)
  | some a, some b => if a.2.1 < b.2.1 then some (b.1, 1) else some (a.1, 0)
def open_ (d : Dk) : Dk × Log × List (List UInt8) × Int :=
  if d.able = 0 then (match d.best with
    | none => (d, .zero, [], 20)
    | some (rs, h) => match d.lay (1 - h) rs with
      | (x, l, e) => if e = 0 then (x, l, rs, 0) else (x, l, [], e))
  else (d, .zero, [], d.able)
def logged (d : Dk) (l : Log) : Bool := decide (0 ≤ l.half) && decide (l.half ≤ 1) && decide (1 ≤ l.gen) && decide (l.gen ≤ 1099511627776) && decide (1 ≤ l.used) && decide (l.used ≤ d.half)
def ready (d : Dk) (l : Log) : Int := if d.able = 0 then (if d.logged l then 0 else 1) else d.able
def append (d : Dk) (l : Log) (r : List UInt8) : Dk × Log × Int :=
  if d.ready l = 0 then
    (if 4096 < r.length then (d, l, 3)
     else if (d.half : Int) - l.used < sizeN r.length then (d, l, 10)
     else match d.puts l.half.toNat (parts r l.gen l.used) with
      | (x, e) => if e = 0 then (x, { l with used := l.used + sizeN r.length }, 0) else (x, l, e))
  else (d, l, d.ready l)
/-- How many sectors records want, or none: one is too long. -/
def wantF : List (List UInt8) → Nat → Option Nat
  | [], n => some n
  | r :: rs, n => if 4096 < r.length then none else wantF rs (n + sizeN r.length)
def compact (d : Dk) (l : Log) (rs : List (List UInt8)) : Dk × Log × Int :=
  if d.ready l = 0 then
    (match wantF rs 1 with
     | none => (d, l, 3)
     | some n => if d.half < n then (d, l, 10) else
       match d.lay (1 - l.half).toNat rs with
       | (x, m, e) => if e = 0 then (x, m, 0) else (x, l, e))
  else (d, l, d.ready l)
end Dk
end Go.Proofs.YtbhjigejpdbeiaaDoor
end

section
/-
  Plain laws of sealed sectors: what is sealed says its part, and nothing else does.
-/
namespace Go.Proofs.YtbhjigejpdbeiaaDoor
attribute [local irreducible] Sha.sum

namespace Jp
theorem toldB_append (a b : List UInt8) : toldB (a ++ b) = toldB a + 256 ^ a.length * toldB b := by
  induction a with
  | nil => simp [toldB]
  | cons x r ih =>
    rw [List.cons_append, toldB, ih, toldB, List.length_cons, Nat.pow_succ, Nat.mul_add, ← Nat.mul_assoc, Nat.mul_comm (256 ^ r.length) 256]
    omega
theorem toldB_lt (l : List UInt8) : toldB l < 256 ^ l.length := by
  induction l with
  | nil => simp [toldB]
  | cons x r ih =>
    have hx := x.toNat_lt
    rw [toldB, List.length_cons, Nat.pow_succ]
    omega
theorem byte_nat (n : Int) : ((UInt8.ofNat (n % 256).toNat).toNat : Int) = n % 256 := by
  have h1 := Int.emod_nonneg n (show (256 : Int) ≠ 0 by decide)
  have h2 := Int.emod_lt_of_pos n (show (0 : Int) < 256 by decide)
  generalize n % 256 = x at *
  rw [UInt8.toNat_ofNat']
  omega
theorem leB_snoc (n : Int) (k : Nat) : leB n (k + 1) = leB n k ++ [UInt8.ofNat (n / 2 ^ (8 * k) % 256).toNat] := by
  simp [leB, List.range_succ]
theorem leB_take (n : Int) (k j : Nat) (h : j ≤ k) : (leB n k).take j = leB n j := by
  rw [leB, leB, ← List.map_take, List.take_range, Nat.min_eq_left h]
theorem told_leB (n : Int) (k : Nat) : (toldB (leB n k) : Int) = n % 256 ^ k := by
  induction k with
  | zero => rw [Int.pow_zero, Int.emod_one]; rfl
  | succ k ih =>
    rw [leB_snoc, toldB_append, leB_length]
    have h1 : toldB [UInt8.ofNat (n / 2 ^ (8 * k) % 256).toNat] = (UInt8.ofNat (n / 2 ^ (8 * k) % 256).toNat).toNat := by simp [toldB]
    rw [h1]
    have e0 : ((256 ^ k : Nat) : Int) = (256 : Int) ^ k := Int.natCast_pow 256 k
    rw [Int.natCast_add, Int.natCast_mul, e0, byte_nat, ih]
    have h2 : (2 : Int) ^ (8 * k) = 256 ^ k := by rw [Int.pow_mul]; rfl
    rw [h2, Int.pow_succ]
    generalize hm : (256 : Int) ^ k = m
    have hm0 : (0 : Int) < m := by rw [← hm]; exact Int.pow_pos (by decide)
    have e1 := Int.emod_add_mul_ediv n m
    have e2 := Int.emod_add_mul_ediv (n / m) 256
    have e3 := Int.emod_add_mul_ediv n (m * 256)
    have e4 : n / (m * 256) = n / m / 256 := by rw [Int.ediv_ediv_of_nonneg (Int.le_of_lt hm0)]
    rw [e4] at e3
    have e5 : m * (n / m % 256) = m * (n / m) - m * (256 * (n / m / 256)) := by rw [← Int.mul_sub]; congr 1; omega
    rw [e5, ← Int.mul_assoc]
    omega
theorem told_leB_eq (n : Int) (k : Nat) (h0 : 0 ≤ n) (h1 : n < 256 ^ k) : (toldB (leB n k) : Int) = n := by
  rw [told_leB, Int.emod_eq_of_lt h0 h1]

/-- A part that may be sealed. -/
structure Good (p : Part) : Prop where
  gen0 : 1 ≤ p.gen
  gen1 : p.gen ≤ 1099511627776
  index0 : 0 ≤ p.index
  index1 : p.index < 4294967296
  marks : p.marks.toNat ≤ 3
  data : p.data.length ≤ 100

theorem sec_eq (p : Part) (h : p.data.length ≤ 100) : p.sec.1 = leB p.gen 8 ++ (leB p.index 4 ++ (UInt8.ofNat p.data.length :: p.marks :: (p.data ++ (List.replicate (106 - p.data.length) 0 ++ (Sha.sum p.body).take 8)))) := by
  show p.body ++ (Sha.sum p.body).take 8 = _
  conv => lhs; lhs; rw [p.body_eq (by omega)]
  simp only [List.append_assoc, List.cons_append, List.nil_append]
theorem leB8 (n : Int) (h0 : 0 ≤ n) (h1 : n < 281474976710656) : leB n 8 = leB n 6 ++ [0, 0] := by
  rw [leB_snoc, leB_snoc, List.append_assoc]
  have e1 : n / 2 ^ (8 * 6) % 256 = 0 := by omega
  have e2 : n / 2 ^ (8 * 7) % 256 = 0 := by omega
  rw [e1, e2]; rfl
theorem rawP_sec {p : Part} (h : Good p) : rawP p.sec = p := by
  obtain ⟨g0, g1, i0, i1, hm, hd⟩ := h
  have e := sec_eq p hd
  have e12 : p.sec.1.getD 12 0 = UInt8.ofNat p.data.length := by
    rw [e, List.getD_eq_getElem?_getD, List.getElem?_append_right (by rw [leB_length]; omega), leB_length, List.getElem?_append_right (by rw [leB_length]; omega), leB_length]; rfl
  have e13 : p.sec.1.getD 13 0 = p.marks := by
    rw [e, List.getD_eq_getElem?_getD, List.getElem?_append_right (by rw [leB_length]; omega), leB_length, List.getElem?_append_right (by rw [leB_length]; omega), leB_length]; rfl
  have e6 : p.sec.1.take 6 = leB p.gen 6 := by
    rw [e, List.take_append_of_le_length (by rw [leB_length]; omega), leB_take _ _ _ (by omega)]
  have e8 : p.sec.1.drop 8 = leB p.index 4 ++ (UInt8.ofNat p.data.length :: p.marks :: (p.data ++ (List.replicate (106 - p.data.length) 0 ++ (Sha.sum p.body).take 8))) := by
    rw [e, List.drop_left' (leB_length _ _)]
  have e84 : (p.sec.1.drop 8).take 4 = leB p.index 4 := by rw [e8, List.take_left' (leB_length _ _)]
  have e14 : p.sec.1.drop 14 = p.data ++ (List.replicate (106 - p.data.length) 0 ++ (Sha.sum p.body).take 8) := by
    rw [show 14 = 8 + (4 + 2) by rfl, ← List.drop_drop, e8, ← List.drop_drop, List.drop_left' (leB_length _ _)]; rfl
  have hl : (UInt8.ofNat p.data.length).toNat = p.data.length := by rw [UInt8.toNat_ofNat']; omega
  unfold rawP
  rw [e12, e13, e6, e84, e14, hl, List.take_left, told_leB_eq _ _ (by omega) (by omega), told_leB_eq _ _ (by omega) (by omega)]
theorem says_sec {p : Part} (h : Good p) : says p.sec = some p := by
  have hr := rawP_sec h
  obtain ⟨g0, g1, i0, i1, hm, hd⟩ := h
  have e := sec_eq p hd
  have e12 : p.sec.1.getD 12 0 = UInt8.ofNat p.data.length := by
    rw [e, List.getD_eq_getElem?_getD, List.getElem?_append_right (by rw [leB_length]; omega), leB_length, List.getElem?_append_right (by rw [leB_length]; omega), leB_length]; rfl
  have e13 : p.sec.1.getD 13 0 = p.marks := by
    rw [e, List.getD_eq_getElem?_getD, List.getElem?_append_right (by rw [leB_length]; omega), leB_length, List.getElem?_append_right (by rw [leB_length]; omega), leB_length]; rfl
  have e6 : p.sec.1.getD 6 0 = 0 := by
    rw [e, List.getD_eq_getElem?_getD, List.getElem?_append_left (by rw [leB_length]; omega), leB8 _ (by omega) (by omega), List.getElem?_append_right (by rw [leB_length]; omega), leB_length]; rfl
  have e7 : p.sec.1.getD 7 0 = 0 := by
    rw [e, List.getD_eq_getElem?_getD, List.getElem?_append_left (by rw [leB_length]; omega), leB8 _ (by omega) (by omega), List.getElem?_append_right (by rw [leB_length]; omega), leB_length]; rfl
  have hl : (UInt8.ofNat p.data.length).toNat = p.data.length := by rw [UInt8.toNat_ofNat']; omega
  have hg : goodS p.sec = true := by
    unfold goodS fitS
    rw [hr, e12, e13, e6, e7, hl]
    simp
    omega
  rw [says, if_pos hg, hr]
theorem rawP_data (s : Sec) : (rawP s).data.length ≤ (s.1.getD 12 0).toNat := by
  simp only [rawP, List.length_take]
  omega
theorem good_of_says {s : Sec} {p : Part} (h : says s = some p) : Good p ∧ p.sec = s := by
  unfold says at h
  by_cases hg : goodS s = true
  · rw [if_pos hg] at h
    cases h
    unfold goodS at hg
    simp only [Bool.and_eq_true, decide_eq_true_eq] at hg
    obtain ⟨⟨hf, hgen⟩, hs⟩ := hg
    unfold fitS at hf
    simp at hf
    refine ⟨⟨hgen.1, hgen.2, Int.natCast_nonneg _, ?_, ?_, ?_⟩, hs⟩
    · have := toldB_lt ((s.1.drop 8).take 4)
      have hl : ((s.1.drop 8).take 4).length = 4 := by rw [List.length_take, List.length_drop, s.2]; rfl
      rw [hl] at this
      show ((toldB ((s.1.drop 8).take 4) : Nat) : Int) < 4294967296
      omega
    · show (s.1.getD 13 0).toNat ≤ 3
      rw [List.getD_eq_getElem?_getD]
      omega
    · have := rawP_data s
      rw [List.getD_eq_getElem?_getD] at this
      omega
  · rw [if_neg hg] at h; cases h
end Jp
end Go.Proofs.YtbhjigejpdbeiaaDoor
end

section
/-
  Plain laws of disks for journals: what is looked up behind parts that were written and synced, and behind a fall.
-/
namespace Go.Proofs.YtbhjigejpdbeiaaDoor
attribute [local irreducible] Sha.sum

namespace Jp
theorem fold_length (l : List Wr) : ∀ s : List Sec, (l.foldl Dk.put s).length = s.length := by
  induction l with
  | nil => intro s; rfl
  | cons x r ih => intro s; rw [List.foldl_cons, ih, Dk.put, List.length_set]
theorem fold_at (l : List Wr) : ∀ (s : List Sec) (a : Nat), a < s.length → (∀ x ∈ l, 0 ≤ x.at_) → (l.foldl Dk.put s)[a]? = match Dk.lookL a l with | some x => some x | none => s[a]? := by
  induction l with
  | nil => intro s a _ _; rfl
  | cons x r ih =>
    intro s a ha hp
    have hx := hp x (List.mem_cons_self ..)
    rw [List.foldl_cons, ih (Dk.put s x) a (by rw [Dk.put, List.length_set]; exact ha) (fun y hy => hp y (List.mem_cons_of_mem _ hy)), Dk.lookL]
    cases h : Dk.lookL (a : Int) r with
    | some y => rfl
    | none =>
      dsimp only
      by_cases e : x.at_ = (a : Int)
      · have : x.at_.toNat = a := by omega
        rw [if_pos e, Dk.put, this, List.getElem?_set_self ha]
      · have : x.at_.toNat ≠ a := by omega
        rw [if_neg e, Dk.put, List.getElem?_set_ne this]
theorem bounds_of_right {d : Dk} (h : d.right = true) : 1 ≤ d.secs.length ∧ d.secs.length ≤ 2048 ∧ d.loose.length ≤ 4096 ∧ ∀ x ∈ d.loose, 0 ≤ x.at_ ∧ x.at_ < d.secs.length := by
  rw [Dk.right, Bool.and_eq_true, List.all_eq_true, decide_eq_true_eq] at h
  refine ⟨h.1.1, h.1.2.1, h.1.2.2, fun x hx => ?_⟩
  have := h.2 x hx
  simpa [Dk.inside] using this
theorem right_of {d : Dk} (h1 : 1 ≤ d.secs.length) (h2 : d.secs.length ≤ 2048) (h3 : d.loose.length ≤ 4096) (h4 : ∀ x ∈ d.loose, 0 ≤ x.at_ ∧ x.at_ < d.secs.length) : d.right = true := by
  rw [Dk.right, Bool.and_eq_true, List.all_eq_true, decide_eq_true_eq]
  exact ⟨⟨h1, h2, h3⟩, fun x hx => by simpa [Dk.inside] using h4 x hx⟩

/-- Up: right, and not down. -/
structure Up (d : Dk) : Prop where
  right : d.right = true
  up : d.down = false
theorem up_step {d : Dk} (h : d.down = false) : (d.step = ({ d with down := true }, false) ∧ d.fuse = 0) ∨ (∃ f, d.step = ({ d with fuse := f }, true) ∧ (d.fuse < 0 → f = d.fuse)) := by
  unfold Dk.step
  rw [h]
  by_cases h0 : d.fuse = 0
  · left; simp [h0]
  · right
    refine ⟨if 0 < d.fuse then d.fuse - 1 else d.fuse, by simp [h0], fun hf => by rw [if_neg (by omega)]⟩
theorem up_write {d : Dk} (h : Up d) {i : Int} (s : Sec) (hi : d.within i = true) (hl : d.loose.length < 4096) :
    (d.write i s = ({ d with down := true }, 9) ∧ d.fuse = 0) ∨ (∃ f, d.write i s = ({ d with fuse := f, loose := d.loose ++ [⟨i, s⟩] }, 0) ∧ (d.fuse < 0 → f = d.fuse)) := by
  have hne : ¬ ((!d.down && decide (d.loose.length = 4096)) = true) := by simp; omega
  unfold Dk.write
  rw [if_pos (by rw [h.right, hi]; rfl), if_neg hne]
  rcases up_step h.up with ⟨e, hf⟩ | ⟨f, e, hf⟩
  · left; rw [e]; exact ⟨rfl, hf⟩
  · right; rw [e]; exact ⟨f, rfl, hf⟩
theorem up_sync {d : Dk} (h : Up d) :
    (d.sync = ({ d with down := true }, 9) ∧ d.fuse = 0) ∨ (∃ f, d.sync = ({ d with fuse := f, secs := d.loose.foldl Dk.put d.secs, loose := [] }, 0) ∧ (d.fuse < 0 → f = d.fuse)) := by
  unfold Dk.sync
  rw [if_pos h.right]
  rcases up_step h.up with ⟨e, hf⟩ | ⟨f, e, hf⟩
  · left; rw [e]; exact ⟨rfl, hf⟩
  · right; rw [e]; exact ⟨f, rfl, hf⟩

/-- The writes of parts. -/
def wrs (hb : Nat) (l : List Part) : List Wr := l.map fun p => ⟨(hb : Int) + p.index, p.sec⟩
/-- Parts' places lie within. -/
def Fits (d : Dk) (h : Nat) (l : List Part) : Prop := ∀ p ∈ l, d.within (((h * d.half : Nat) : Int) + p.index) = true
theorem puts_cases (h : Nat) : ∀ (l : List Part) (d : Dk), Up d → Fits d h l → d.loose.length + l.length ≤ 4096 →
    (∃ x k, d.puts h l = (x, 9) ∧ 0 ≤ d.fuse ∧ k ≤ l.length ∧ x.secs = d.secs ∧ x.loose = d.loose ++ wrs (h * d.half) (l.take k) ∧ x.down = true ∧ Dk.right x = true) ∨
    (∃ x, d.puts h l = (x, 0) ∧ x.secs = (d.loose ++ wrs (h * d.half) l).foldl Dk.put d.secs ∧ x.loose = [] ∧ x.down = false ∧ (d.fuse < 0 → x.fuse = d.fuse)) := by
  intro l
  induction l with
  | nil =>
    intro d hu _ _
    rw [Dk.puts]
    rcases up_sync hu with ⟨e, hf⟩ | ⟨f, e, hf⟩
    · left; rw [e]; exact ⟨_, 0, rfl, by omega, Nat.le_refl _, rfl, by simp [wrs], rfl, hu.right⟩
    · right; rw [e]; exact ⟨_, rfl, by simp [wrs], rfl, hu.up, hf⟩
  | cons p l ih =>
    intro d hu hfit hlen
    rw [List.length_cons] at hlen
    have hp := hfit p (List.mem_cons_self ..)
    obtain ⟨b1, b2, b3, b4⟩ := bounds_of_right hu.right
    rw [Dk.puts]
    rcases up_write hu p.sec hp (by omega) with ⟨e, hf⟩ | ⟨f, e, hf⟩
    · left
      rw [e]
      exact ⟨_, 0, rfl, by omega, Nat.zero_le _, rfl, by simp [wrs], rfl, hu.right⟩
    · rw [e]
      dsimp only
      rw [if_pos rfl]
      have hu' : Up { d with fuse := f, loose := d.loose ++ [⟨((h * d.half : Nat) : Int) + p.index, p.sec⟩] } :=
        ⟨right_of b1 b2 (by simp; omega) (fun x hx => by
          rcases List.mem_append.1 hx with hx | hx
          · exact b4 x hx
          · rw [List.mem_singleton] at hx; subst hx
            simpa [Dk.within, Dk.inside] using hp), hu.up⟩
      rcases ih _ hu' (fun q hq => hfit q (List.mem_cons_of_mem _ hq)) (by simp; omega) with ⟨x, k, h1, h2, h3, h4, h5, h6, h7⟩ | ⟨x, h1, h2, h3, h4, h5⟩
      · left
        refine ⟨x, k + 1, h1, ?_, by simp; omega, h4, ?_, h6, h7⟩
        · have h2' : 0 ≤ f := h2
          rcases Int.lt_or_le d.fuse 0 with q | q
          · rw [hf q] at h2'; omega
          · exact q
        · rw [h5]
          show d.loose ++ [_] ++ wrs (h * d.half) (l.take k) = _
          rw [List.append_assoc]; rfl
      · right
        refine ⟨x, h1, ?_, h3, h4, fun q => ?_⟩
        · rw [h2]
          show (d.loose ++ [_] ++ wrs (h * d.half) l).foldl Dk.put d.secs = _
          rw [List.append_assoc]; rfl
        · have := h5 (by show f < 0; rw [hf q]; exact q)
          rw [this]; exact hf q

/-- Parts with rising indices. -/
def Seq (k0 : Nat) (l : List Part) : Prop := ∀ i p, l[i]? = some p → p.index = ((k0 + i : Nat) : Int)
theorem Seq.take {k0 : Nat} {l : List Part} (h : Seq k0 l) (k : Nat) : Seq k0 (l.take k) := fun i p hp => by
  rw [List.getElem?_take] at hp
  split at hp
  · exact h i p hp
  · cases hp
theorem lookL_wrs {hb k0 : Nat} {l : List Part} (h : Seq k0 l) (i : Nat) : Dk.lookL i (wrs hb l) = if hb + k0 ≤ i then (l[i - (hb + k0)]?).map Part.sec else none := by
  by_cases h1 : hb + k0 ≤ i
  · rw [if_pos h1]
    by_cases h2 : i - (hb + k0) < l.length
    · have hp : l[i - (hb + k0)]? = some l[i - (hb + k0)] := List.getElem?_eq_getElem h2
      rw [hp, Option.map_some]
      have hx := h _ _ hp
      rw [Dk.lookL_some (k := i - (hb + k0)) (x := ⟨(hb : Int) + l[i - (hb + k0)].index, l[i - (hb + k0)].sec⟩)]
      · rw [wrs, List.getElem?_map, hp]; rfl
      · show (hb : Int) + l[i - (hb + k0)].index = i
        rw [hx]; omega
      · intro j y hj hy
        rw [wrs, List.getElem?_map, Option.map_eq_some_iff] at hy
        obtain ⟨q, hq, rfl⟩ := hy
        show (hb : Int) + q.index ≠ i
        rw [h _ _ hq]; omega
    · rw [List.getElem?_eq_none (by omega)]
      refine Dk.lookL_none fun x hx => ?_
      obtain ⟨j, hj⟩ := List.getElem?_of_mem hx
      rw [wrs, List.getElem?_map, Option.map_eq_some_iff] at hj
      obtain ⟨q, hq, rfl⟩ := hj
      have hlt := (List.getElem?_eq_some_iff.1 hq).1
      show (hb : Int) + q.index ≠ i
      rw [h _ _ hq]; omega
  · rw [if_neg h1]
    refine Dk.lookL_none fun x hx => ?_
    obtain ⟨j, hj⟩ := List.getElem?_of_mem hx
    rw [wrs, List.getElem?_map, Option.map_eq_some_iff] at hj
    obtain ⟨q, hq, rfl⟩ := hj
    show (hb : Int) + q.index ≠ i
    rw [h _ _ hq]; omega
theorem fits_of {d : Dk} {h k0 : Nat} {l : List Part} (hs : Seq k0 l) (hh : h ≤ 1) (hk : k0 + l.length ≤ d.half) : Fits d h l := fun p hp => by
  obtain ⟨j, hj⟩ := List.getElem?_of_mem hp
  have hlt := (List.getElem?_eq_some_iff.1 hj).1
  have e := hs _ _ hj
  rw [Dk.within, Dk.inside, e]
  have hd : d.half = d.secs.length / 2 := rfl
  have : h * d.half ≤ d.half := by
    rcases Nat.le_one_iff_eq_zero_or_eq_one.1 hh with rfl | rfl <;> omega
  simp
  omega
/-- What is looked up behind a sync of parts. -/
theorem look_puts {d x : Dk} {hb k0 : Nat} {l : List Part} (hs : Seq k0 l) (hlo : d.loose = []) (h1 : x.secs = (d.loose ++ wrs hb l).foldl Dk.put d.secs) (h2 : x.loose = []) {i : Nat} (hi : i < d.secs.length) :
    x.look i = if hb + k0 ≤ i then (match l[i - (hb + k0)]? with | some p => p.sec | none => d.look i) else d.look i := by
  rw [hlo, List.nil_append] at h1
  have hn : ∀ y ∈ wrs hb l, 0 ≤ y.at_ := fun y hy => by
    obtain ⟨j, hj⟩ := List.getElem?_of_mem hy
    rw [wrs, List.getElem?_map, Option.map_eq_some_iff] at hj
    obtain ⟨q, hq, rfl⟩ := hj
    show 0 ≤ (hb : Int) + q.index
    rw [hs _ _ hq]; omega
  have hf := fold_at (wrs hb l) d.secs i hi hn
  rw [← h1, lookL_wrs hs] at hf
  have hd : d.look i = d.secs.getD i zeroSec := by rw [Dk.look, hlo]; rfl
  have hx : x.look i = (x.secs[i]?).getD zeroSec := by rw [Dk.look, h2]; simp [Dk.lookL]
  rw [hx, hf, hd]
  by_cases q : hb + k0 ≤ i
  · rw [if_pos q, if_pos q]
    cases l[i - (hb + k0)]? with
    | some p => rfl
    | none => simp
  · rw [if_neg q, if_neg q]; simp

/-! ### A fall -/
/-- Is a sector sealed by chance? -/
def chanceF (fates : List (UInt8 × UInt8)) : List Sec → List Wr → Nat → Bool
  | _, [], _ => false
  | l, x :: r, i =>
    (let s := Dk.torn x.data (l.getD x.at_.toNat zeroSec) (Dk.kept (fates.getD (i % fates.length) (0, 0)))
     (says s).isSome && decide (s ≠ l.getD x.at_.toNat zeroSec) && decide (s ≠ x.data)) || chanceF fates (Dk.land fates l x i) r (i + 1)
def chance (d : Dk) (fates : List (UInt8 × UInt8)) : Bool := if fates.length = 0 then false else chanceF fates d.secs d.loose 0
theorem land_length (fates : List (UInt8 × UInt8)) (l : List Sec) (x : Wr) (i : Nat) : (Dk.land fates l x i).length = l.length := by
  unfold Dk.land; split
  · rfl
  · rw [List.length_set]
theorem lands_length (fates : List (UInt8 × UInt8)) : ∀ (a : List Wr) (l : List Sec) (i : Nat), (Dk.lands fates l a i).length = l.length
  | [], _, _ => rfl
  | x :: r, l, i => by rw [Dk.lands, lands_length fates r, land_length]
theorem lands_mix (fates : List (UInt8 × UInt8)) (h0 : fates.length ≠ 0) (a : Nat) : ∀ (ws : List Wr) (l : List Sec) (i : Nat), a < l.length → (∀ x ∈ ws, 0 ≤ x.at_) → ws.Pairwise (fun x y => x.at_ ≠ y.at_) → chanceF fates l ws i = false →
    ((Dk.lands fates l ws i).getD a zeroSec = l.getD a zeroSec ∨ ∃ x ∈ ws, x.at_ = a ∧ ((Dk.lands fates l ws i).getD a zeroSec = x.data ∨ says ((Dk.lands fates l ws i).getD a zeroSec) = none)) := by
  intro ws
  induction ws with
  | nil => intro l i _ _ _ _; exact .inl rfl
  | cons x r ih =>
    intro l i ha hp hd hc
    rw [chanceF, Bool.or_eq_false_iff] at hc
    obtain ⟨hc1, hc2⟩ := hc
    rw [List.pairwise_cons] at hd
    have hx := hp x (List.mem_cons_self ..)
    rw [Dk.lands]
    rcases ih (Dk.land fates l x i) (i + 1) (by rw [land_length]; exact ha) (fun y hy => hp y (List.mem_cons_of_mem _ hy)) hd.2 hc2 with h | ⟨y, hy, h1, h2⟩
    · rw [h]
      by_cases e : x.at_ = (a : Int)
      · have et : x.at_.toNat = a := by omega
        have hl : (Dk.land fates l x i).getD a zeroSec = Dk.torn x.data (l.getD x.at_.toNat zeroSec) (Dk.kept (fates.getD (i % fates.length) (0, 0))) := by
          rw [Dk.land, if_neg h0, List.getD_eq_getElem?_getD, et, List.getElem?_set_self ha]; rfl
        rw [hl]
        generalize hs : Dk.torn x.data (l.getD x.at_.toNat zeroSec) (Dk.kept (fates.getD (i % fates.length) (0, 0))) = s at hc1 ⊢
        rw [et] at hc1
        by_cases q1 : s = l.getD a zeroSec
        · exact .inl q1
        by_cases q2 : s = x.data
        · exact .inr ⟨x, List.mem_cons_self .., e, .inl q2⟩
        · refine .inr ⟨x, List.mem_cons_self .., e, .inr ?_⟩
          have hc1 : ((says s).isSome && decide (s ≠ l.getD a zeroSec) && decide (s ≠ x.data)) = false := hc1
          rw [decide_eq_true q1, decide_eq_true q2, Bool.and_true, Bool.and_true] at hc1
          cases hn : says s with
          | none => rfl
          | some p => rw [hn] at hc1; cases hc1
      · left
        have et : x.at_.toNat ≠ a := by omega
        rw [Dk.land, if_neg h0, List.getD_eq_getElem?_getD, List.getElem?_set_ne et, List.getD_eq_getElem?_getD]
    · exact .inr ⟨y, List.mem_cons_of_mem _ hy, h1, h2⟩
theorem lands_none (ws : List Wr) (l : List Sec) (i : Nat) : Dk.lands [] l ws i = l := by
  induction ws generalizing i with
  | nil => rfl
  | cons x r ih => rw [Dk.lands, Dk.land, if_pos (show ([] : List (UInt8 × UInt8)).length = 0 from rfl), ih]
/-- What is looked up behind a fall on parts that weren't sure. -/
theorem look_fall {d : Dk} {s0 : List Sec} {hb k0 : Nat} {l : List Part} (hs : Seq k0 l) (hsec : d.secs = s0) (hlo : d.loose = wrs hb l) (hr : d.right = true) (fates : List (UInt8 × UInt8)) (ff : Int) (hc : chance d fates = false) :
    ∃ y, d.fall fates ff = (y, 0) ∧ Up y ∧ y.loose = [] ∧ y.secs.length = d.secs.length ∧ y.fuse = max ff (-1) ∧ ∀ i, i < d.secs.length → (y.look i = s0.getD i zeroSec ∨ ∃ p, hb + k0 ≤ i ∧ l[i - (hb + k0)]? = some p ∧ (y.look i = p.sec ∨ says (y.look i) = none)) := by
  obtain ⟨b1, b2, b3, b4⟩ := bounds_of_right hr
  refine ⟨Dk.arm { d with secs := Dk.lands fates d.secs d.loose 0, loose := [], down := false } ff, by rw [Dk.fall, if_pos hr], ⟨?_, rfl⟩, rfl, lands_length _ _ _ _, rfl, fun i hi => ?_⟩
  · exact right_of (by show 1 ≤ (Dk.lands fates d.secs d.loose 0).length; rw [lands_length]; exact b1) (by show (Dk.lands fates d.secs d.loose 0).length ≤ 2048; rw [lands_length]; exact b2) (by show ([] : List Wr).length ≤ 4096; simp) (fun x hx => by cases hx)
  · have hy : Dk.look (Dk.arm { d with secs := Dk.lands fates d.secs d.loose 0, loose := [], down := false } ff) i = (Dk.lands fates d.secs d.loose 0).getD i zeroSec := rfl
    rw [hy]
    by_cases h0 : fates.length = 0
    · have : fates = [] := List.eq_nil_of_length_eq_zero h0
      subst this
      rw [lands_none, hsec]
      exact .inl rfl
    · rw [chance, if_neg h0] at hc
      have hpw : d.loose.Pairwise (fun x y => x.at_ ≠ y.at_) := by
        rw [hlo, wrs, List.pairwise_map, List.pairwise_iff_getElem]
        intro a b ha hb' hab
        show (hb : Int) + _ ≠ (hb : Int) + _
        rw [hs a _ (List.getElem?_eq_getElem ha), hs b _ (List.getElem?_eq_getElem hb')]
        omega
      rcases lands_mix fates h0 i d.loose d.secs 0 hi (fun x hx => (b4 x hx).1) hpw hc with h | ⟨x, hx, h1, h2⟩
      · left; rw [h, hsec]
      · right
        rw [hlo] at hx
        obtain ⟨j, hj⟩ := List.getElem?_of_mem hx
        rw [wrs, List.getElem?_map, Option.map_eq_some_iff] at hj
        obtain ⟨q, hq, rfl⟩ := hj
        have h1' : (hb : Int) + q.index = i := h1
        rw [hs _ _ hq] at h1'
        have hj2 : i - (hb + k0) = j := by omega
        exact ⟨q, by omega, by rw [hj2]; exact hq, h2⟩
end Jp
end Go.Proofs.YtbhjigejpdbeiaaDoor
end

section
/-
  Plain laws of records in a half: what is read where parts stand.
-/
namespace Go.Proofs.YtbhjigejpdbeiaaDoor
attribute [local irreducible] Sha.sum

namespace Jp
theorem at_good {d : Dk} {h i : Nat} {p : Part} (hp : d.at_ h i = some p) : i < d.half ∧ Good p ∧ p.index = (i : Int) ∧ d.look ((h * d.half + i : Nat) : Int) = p.sec := by
  have hlt := Dk.at_lt hp
  unfold Dk.at_ at hp
  rw [if_pos hlt] at hp
  cases hs : says (d.look ((h * d.half + i : Nat) : Int)) with
  | none => rw [hs] at hp; cases hp
  | some q =>
    rw [hs] at hp
    dsimp only at hp
    by_cases hi : q.index = (i : Int)
    · rw [if_pos hi] at hp
      cases hp
      obtain ⟨h1, h2⟩ := good_of_says hs
      exact ⟨hlt, h1, hi, h2.symm⟩
    · rw [if_neg hi] at hp; cases hp
theorem at_of {d : Dk} {h i : Nat} {p : Part} (hlt : i < d.half) (hg : Good p) (hi : p.index = (i : Int)) (hl : d.look ((h * d.half + i : Nat) : Int) = p.sec) : d.at_ h i = some p := by
  unfold Dk.at_
  rw [if_pos hlt, hl, says_sec hg]
  exact if_pos hi
theorem at_none_of {d : Dk} {h i : Nat} (hl : says (d.look ((h * d.half + i : Nat) : Int)) = none) : d.at_ h i = none := by
  unfold Dk.at_
  rw [hl]
  split <;> rfl
theorem at_same {d x : Dk} {h i : Nat} (hh : x.half = d.half) (hl : i < d.half → x.look ((h * d.half + i : Nat) : Int) = d.look ((h * d.half + i : Nat) : Int)) : x.at_ h i = d.at_ h i := by
  unfold Dk.at_
  rw [hh]
  by_cases q : i < d.half
  · rw [if_pos q, if_pos q, hl q]
  · rw [if_neg q, if_neg q]

theorem step_at {d : Dk} {h : Nat} {gen : Int} {start k : Nat} {acc : List UInt8} {p : Part} (hk : d.at_ h k = some p) : d.oneF h gen start (d.half + 1 - k) k acc =
    if Dk.bad p gen start k acc.length then none else if p.marks &&& 2 != 0 then some (acc ++ p.data, k + 1) else d.oneF h gen start (d.half + 1 - (k + 1)) (k + 1) (acc ++ p.data) := by
  have hlt := Dk.at_lt hk
  rw [show d.half + 1 - k = (d.half + 1 - (k + 1)) + 1 by omega, Dk.oneF, hk]
theorem step_none {d : Dk} {h : Nat} {gen : Int} {start f k : Nat} {acc : List UInt8} (hk : d.at_ h k = none) : d.oneF h gen start f k acc = none := by
  cases f with
  | zero => rfl
  | succ f => rw [Dk.oneF, hk]

/-! ### A record's parts -/
theorem sizeN_pos {n : Nat} (h : n ≤ 4096) : 1 ≤ sizeN n ∧ (sizeN n - 1) * 100 ≤ n ∧ n ≤ sizeN n * 100 ∧ sizeN n ≤ 41 ∧ (n = 0 → sizeN n = 1) ∧ (0 < n → (sizeN n - 1) * 100 < n) := by
  unfold sizeN
  rw [if_neg (by omega)]
  omega
def markN (r : List UInt8) (i : Nat) : UInt8 := (if i = 0 then 1 else 0) ||| (if i + 1 = sizeN r.length then 2 else 0)
theorem mark_first (r : List UInt8) (i : Nat) : (markN r i &&& 1 != 0) = decide (i = 0) := by
  unfold markN
  by_cases a : i = 0 <;> by_cases b : i + 1 = sizeN r.length
  · rw [if_pos a, if_pos b, decide_eq_true a]; decide
  · rw [if_pos a, if_neg b, decide_eq_true a]; decide
  · rw [if_neg a, if_pos b, decide_eq_false a]; decide
  · rw [if_neg a, if_neg b, decide_eq_false a]; decide
theorem mark_last (r : List UInt8) (i : Nat) : (markN r i &&& 2 != 0) = decide (i + 1 = sizeN r.length) := by
  unfold markN
  by_cases a : i = 0 <;> by_cases b : i + 1 = sizeN r.length
  · rw [if_pos a, if_pos b, decide_eq_true b]; decide
  · rw [if_pos a, if_neg b, decide_eq_false b]; decide
  · rw [if_neg a, if_pos b, decide_eq_true b]; decide
  · rw [if_neg a, if_neg b, decide_eq_false b]; decide
theorem mark_le (r : List UInt8) (i : Nat) : (markN r i).toNat ≤ 3 := by
  unfold markN
  by_cases a : i = 0 <;> by_cases b : i + 1 = sizeN r.length
  · rw [if_pos a, if_pos b]; decide
  · rw [if_pos a, if_neg b]; decide
  · rw [if_neg a, if_pos b]; decide
  · rw [if_neg a, if_neg b]; decide
theorem mark_eq {m : UInt8} (hm : m.toNat ≤ 3) {r : List UInt8} {i : Nat} (h1 : (m &&& 1 != 0) = decide (i = 0)) (h2 : (m &&& 2 != 0) = decide (i + 1 = sizeN r.length)) : m = markN r i := by
  rw [← mark_first r] at h1
  rw [← mark_last r] at h2
  have hl := mark_le r i
  generalize markN r i = q at *
  have key : ∀ a b : Fin 4, ((UInt8.ofNat a.val &&& 1 != 0) = (UInt8.ofNat b.val &&& 1 != 0)) → ((UInt8.ofNat a.val &&& 2 != 0) = (UInt8.ofNat b.val &&& 2 != 0)) → a = b := by decide
  have e1 : UInt8.ofNat m.toNat = m := UInt8.ofNat_toNat
  have e2 : UInt8.ofNat q.toNat = q := UInt8.ofNat_toNat
  have := key ⟨m.toNat, by omega⟩ ⟨q.toNat, by omega⟩ (by rw [e1, e2]; exact h1) (by rw [e1, e2]; exact h2)
  rw [← e1, ← e2]
  exact congrArg (fun x : Fin 4 => UInt8.ofNat x.val) this
theorem partN_marks (r : List UInt8) (gen index : Int) (i : Nat) : (Dk.partN r gen index i).marks = markN r i := rfl
theorem partN_len {r : List UInt8} {gen index : Int} {i : Nat} (hl : r.length ≤ 4096) (hi : i < sizeN r.length) : (Dk.partN r gen index i).data.length = min 100 (r.length - 100 * i) := by
  show ((r.drop (100 * i)).take 100).length = _
  rw [List.length_take, List.length_drop]
theorem take_step (r : List UInt8) (i : Nat) : r.take (100 * i) ++ (r.drop (100 * i)).take 100 = r.take (100 * (i + 1)) := by
  rw [show 100 * (i + 1) = 100 * i + 100 by omega, List.take_add]
theorem partN_good {r : List UInt8} {gen : Int} {index i : Nat} (h0 : 1 ≤ gen) (h1 : gen ≤ 1099511627776) (hx : index + i < 4294967296) : Good (Dk.partN r gen index i) :=
  ⟨h0, h1, by show (0 : Int) ≤ (index : Int) + (i : Int); omega, by show (index : Int) + (i : Int) < 4294967296; omega, mark_le r i, by
    show ((r.drop (100 * i)).take 100).length ≤ 100
    rw [List.length_take]; omega⟩
/-- A part of a record is not bad where it stands. -/
theorem partN_ok {r : List UInt8} {gen : Int} {start i : Nat} (hl : r.length ≤ 4096) (hi : i < sizeN r.length) : Dk.bad (Dk.partN r gen start i) gen start (start + i) (r.take (100 * i)).length = false := by
  obtain ⟨s1, s2, s3, s4, s5, s6⟩ := sizeN_pos hl
  have hd := partN_len (gen := gen) (index := (start : Int)) hl hi
  have hm1 := mark_first r i
  have hm2 := mark_last r i
  unfold Dk.bad
  rw [partN_marks, hm1, hm2, hd, List.length_take]
  have hg : (Dk.partN r gen start i).gen = gen := rfl
  rw [hg]
  by_cases a : i = 0
  · subst a
    by_cases b : 0 + 1 = sizeN r.length
    · simp [← b]; omega
    · simp [b]; omega
  · have hr : 0 < r.length := by
      rcases Nat.eq_zero_or_pos r.length with h | h
      · have := s5 h; omega
      · exact h
    have := s6 hr
    by_cases b : i + 1 = sizeN r.length
    · simp [a, b]; omega
    · simp [a, b]; omega
theorem one_from {d : Dk} {h : Nat} {gen : Int} {start : Nat} {r : List UInt8} (hl : r.length ≤ 4096) (hp : ∀ i, i < sizeN r.length → d.at_ h (start + i) = some (Dk.partN r gen start i)) :
    ∀ m i, i + (m + 1) = sizeN r.length → d.oneF h gen start (d.half + 1 - (start + i)) (start + i) (r.take (100 * i)) = some (r, start + sizeN r.length) := by
  obtain ⟨s1, s2, s3, s4, s5, s6⟩ := sizeN_pos hl
  intro m
  induction m with
  | zero =>
    intro i hi
    rw [step_at (hp i (by omega)), partN_ok hl (by omega)]
    have hlast : ((Dk.partN r gen start i).marks &&& 2 != 0) = true := by rw [partN_marks, mark_last]; simp; omega
    rw [hlast]
    have hd : r.take (100 * i) ++ (Dk.partN r gen start i).data = r := by
      show r.take (100 * i) ++ (r.drop (100 * i)).take 100 = r
      rw [take_step, List.take_of_length_le (by rw [show i + 1 = sizeN r.length by omega]; omega)]
    rw [hd]
    simp; omega
  | succ m ih =>
    intro i hi
    rw [step_at (hp i (by omega)), partN_ok hl (by omega)]
    have hlast : ((Dk.partN r gen start i).marks &&& 2 != 0) = false := by rw [partN_marks, mark_last]; simp; omega
    rw [hlast]
    have hd : r.take (100 * i) ++ (Dk.partN r gen start i).data = r.take (100 * (i + 1)) := take_step r i
    rw [hd]
    exact ih (i + 1) (by omega)
/-- Where a record's parts stand, it is read. -/
theorem one_parts {d : Dk} {h : Nat} {gen : Int} {start : Nat} {r : List UInt8} (hl : r.length ≤ 4096) (hp : ∀ i, i < sizeN r.length → d.at_ h (start + i) = some (Dk.partN r gen start i)) :
    d.one h gen start = some (r, start + sizeN r.length) := by
  have hs := (sizeN_pos hl).1
  have := one_from hl hp (sizeN r.length - 1) 0 (by omega)
  simpa [Dk.one] using this
/-- Where one of them lacks, nothing is read. -/
theorem one_broken {d : Dk} {h : Nat} {gen : Int} {start k : Nat} {r : List UInt8} (hl : r.length ≤ 4096) (hk : k < sizeN r.length) (hp : ∀ i, i < k → d.at_ h (start + i) = some (Dk.partN r gen start i))
    (hb : d.at_ h (start + k) = none ∨ ∃ q, d.at_ h (start + k) = some q ∧ q.gen ≠ gen) : d.one h gen start = none := by
  have key : ∀ m i, i + m = k → d.oneF h gen start (d.half + 1 - (start + i)) (start + i) (r.take (100 * i)) = none := by
    intro m
    induction m with
    | zero =>
      intro i hi
      obtain rfl : i = k := by omega
      rcases hb with hb | ⟨q, hq, hg⟩
      · exact step_none hb
      · rw [step_at hq, if_pos]
        unfold Dk.bad; simp [hg]
    | succ m ih =>
      intro i hi
      rw [step_at (hp i (by omega)), partN_ok hl (by omega)]
      have hlast : ((Dk.partN r gen start i).marks &&& 2 != 0) = false := by rw [partN_marks, mark_last]; simp; omega
      rw [hlast]
      have hd : r.take (100 * i) ++ (Dk.partN r gen start i).data = r.take (100 * (i + 1)) := take_step r i
      rw [hd]
      exact ih (i + 1) (by omega)
  have := key k 0 (by omega)
  simpa [Dk.one] using this
theorem one_none {d : Dk} {h : Nat} {gen : Int} {start : Nat} (hb : d.at_ h start = none ∨ ∃ q, d.at_ h start = some q ∧ q.gen ≠ gen) : d.one h gen start = none := by
  have := one_broken (d := d) (h := h) (gen := gen) (start := start) (k := 0) (r := []) (by simp) (by decide) (fun i hi => by omega) (by simpa using hb)
  exact this

/-- What has been read of a record, from a place on. -/
structure Tail (d : Dk) (h : Nat) (gen : Int) (start k j : Nat) (acc t : List UInt8) : Prop where
  lt : k < j
  le : j ≤ d.half
  len : acc.length + t.length ≤ 4096
  up : t.length ≤ (j - k) * 100
  lo : (j - k - 1) * 100 ≤ t.length
  lo2 : ¬ (k = start ∧ j = k + 1) → (j - k - 1) * 100 < t.length
  parts : ∀ i, i < j - k → ∃ p, d.at_ h (k + i) = some p ∧ p.gen = gen ∧ (p.marks &&& 1 != 0) = decide (k + i = start) ∧ (p.marks &&& 2 != 0) = decide (k + i + 1 = j) ∧ p.data = (t.drop (100 * i)).take 100
theorem tail_of {d : Dk} {h : Nat} {gen : Int} {start : Nat} : ∀ (m k : Nat) (acc r : List UInt8) (j : Nat), d.half + 1 - k ≤ m → start ≤ k → d.oneF h gen start (d.half + 1 - k) k acc = some (r, j) → ∃ t, r = acc ++ t ∧ Tail d h gen start k j acc t := by
  intro m
  induction m with
  | zero =>
    intro k acc r j hm hk ho
    rw [show d.half + 1 - k = 0 by omega] at ho
    cases ho
  | succ m ih =>
    intro k acc r j hm hk ho
    cases ha : d.at_ h k with
    | none => rw [step_none ha] at ho; cases ho
    | some p =>
      obtain ⟨g1, g2, g3, g4⟩ := at_good ha
      rw [step_at ha] at ho
      by_cases hb : Dk.bad p gen start k acc.length = true
      · rw [if_pos hb] at ho; cases ho
      rw [if_neg hb] at ho
      unfold Dk.bad at hb
      simp only [Bool.or_eq_true, not_or, Bool.not_eq_true, Bool.or_eq_false_iff, Bool.not_eq_false', decide_eq_true_eq, decide_eq_false_iff_not, Bool.and_eq_false_iff, beq_iff_eq] at hb
      obtain ⟨⟨⟨⟨b1, b2⟩, b3⟩, b4⟩, b5⟩ := hb
      have hdl := g2.data
      by_cases hl : (p.marks &&& 2 != 0) = true
      · rw [if_pos hl] at ho
        cases ho
        refine ⟨p.data, rfl, by omega, by omega, by omega, by omega, by omega, fun hn => ?_, fun i hi => ?_⟩
        · have : ¬ k = start := fun e => hn ⟨e, rfl⟩
          rw [decide_eq_false this] at b2
          rcases b4 with q | q
          · rw [b2] at q; cases q
          · omega
        · obtain rfl : i = 0 := by omega
          refine ⟨p, ha, b1, b2, by rw [hl]; simp, ?_⟩
          rw [List.drop_zero, List.take_of_length_le hdl]
      · rw [if_neg hl] at ho
        have hl : (p.marks &&& 2 != 0) = false := by simpa using hl
        have h100 : p.data.length = 100 := by
          rcases b3 with q | q
          · rw [hl] at q; cases q
          · omega
        obtain ⟨t, rfl, ht⟩ := ih (k + 1) (acc ++ p.data) r j (by omega) (by omega) ho
        obtain ⟨t1, t2, t3, t4, t5, t6, t7⟩ := ht
        rw [List.length_append] at t3
        refine ⟨p.data ++ t, by rw [List.append_assoc], by omega, by omega, by rw [List.length_append]; omega, ?_, ?_, fun _ => ?_, fun i hi => ?_⟩
        · rw [List.length_append, h100, show j - k = (j - (k + 1)) + 1 by omega, Nat.succ_mul]; omega
        · rw [List.length_append, h100, show j - k - 1 = (j - (k + 1) - 1) + 1 by omega, Nat.succ_mul]; omega
        · have := t6 (by omega)
          rw [List.length_append, h100, show j - k - 1 = (j - (k + 1) - 1) + 1 by omega, Nat.succ_mul]; omega
        · cases i with
          | zero =>
            refine ⟨p, ha, b1, b2, by rw [hl]; simp; omega, ?_⟩
            rw [Nat.mul_zero, List.drop_zero, List.take_append_of_le_length (by omega), List.take_of_length_le (by omega)]
          | succ i =>
            obtain ⟨q, q1, q2, q3, q4, q5⟩ := t7 i (by omega)
            refine ⟨q, by rw [← q1]; congr 1; omega, q2, by rw [q3]; congr 2; omega, by rw [q4]; congr 2; omega, ?_⟩
            rw [q5, show 100 * (i + 1) = p.data.length + 100 * i by omega, ← List.drop_drop, List.drop_left]
/-- What is read, stands there. -/
theorem one_shape {d : Dk} {h : Nat} {gen : Int} {start j : Nat} {r : List UInt8} (ho : d.one h gen start = some (r, j)) :
    r.length ≤ 4096 ∧ j = start + sizeN r.length ∧ start < j ∧ j ≤ d.half ∧ ∀ i, i < sizeN r.length → d.at_ h (start + i) = some (Dk.partN r gen start i) := by
  obtain ⟨t, e, ht⟩ := tail_of (d.half + 1 - start) start [] r j (Nat.le_refl _) (Nat.le_refl _) ho
  rw [List.nil_append] at e
  subst e
  obtain ⟨t1, t2, t3, t4, t5, t6, t7⟩ := ht
  have t3 : r.length ≤ 4096 := by simpa using t3
  have hs : sizeN r.length = j - start := by
    unfold sizeN
    rw [if_neg (by omega)]
    by_cases q : j = start + 1
    · omega
    · have := t6 (by omega)
      omega
  refine ⟨t3, by omega, t1, t2, fun i hi => ?_⟩
  obtain ⟨p, p1, p2, p3, p4, p5⟩ := t7 i (by omega)
  obtain ⟨g1, g2, g3, g4⟩ := at_good p1
  rw [p1]
  have hm : p.marks = markN r i := mark_eq g2.marks (by rw [p3]; congr 1; rw [eq_iff_iff]; omega) (by rw [p4]; congr 1; rw [eq_iff_iff]; omega)
  cases p with
  | mk pg pi pm pd =>
    dsimp only at p2 g3 hm p5
    subst p2
    rw [g3, hm, p5]
    show some _ = some (Part.mk pg ((start : Int) + (i : Int)) (markN r i) _)
    congr 2
theorem one_bounds {d : Dk} {h : Nat} {gen : Int} {start j : Nat} {r : List UInt8} (ho : d.one h gen start = some (r, j)) : start < j ∧ j ≤ d.half ∧ r.length ≤ 4096 :=
  let ⟨a, _, b, c, _⟩ := one_shape ho
  ⟨b, c, a⟩
end Jp
end Go.Proofs.YtbhjigejpdbeiaaDoor
end

section
/-
  Plain laws of records one behind the other: where they stand, what is read; what lay writes.
-/
namespace Go.Proofs.YtbhjigejpdbeiaaDoor
attribute [local irreducible] Sha.sum

namespace Jp
/-- How many sectors records have. -/
def totN : List (List UInt8) → Nat
  | [] => 0
  | r :: rs => sizeN r.length + totN rs
theorem totN_append (a b : List (List UInt8)) : totN (a ++ b) = totN a + totN b := by
  induction a with
  | nil => simp [totN]
  | cons r a ih => rw [List.cons_append, totN, totN, ih]; omega
theorem totN_ge {rs : List (List UInt8)} (h : ∀ r ∈ rs, r.length ≤ 4096) : rs.length ≤ totN rs := by
  induction rs with
  | nil => simp [totN]
  | cons r rs ih =>
    have := ih (fun x hx => h x (List.mem_cons_of_mem _ hx))
    have := (sizeN_pos (h r (List.mem_cons_self ..))).1
    rw [List.length_cons, totN]; omega
theorem totN_drop (rs : List (List UInt8)) (k : Nat) : totN (rs.drop k) ≤ totN rs := by
  have := totN_append (rs.take k) (rs.drop k)
  rw [List.take_append_drop] at this
  omega
theorem layP_append (gen : Int) : ∀ (rs : List (List UInt8)) (l : List Part), ∃ m, Dk.layP gen rs l = l ++ m ∧ m.length = totN rs
  | [], l => ⟨[], by simp [Dk.layP], rfl⟩
  | r :: rs, l => by
    obtain ⟨m, h1, h2⟩ := layP_append gen rs (l ++ Dk.parts r gen ((1 + l.length : Nat) : Int))
    refine ⟨Dk.parts r gen ((1 + l.length : Nat) : Int) ++ m, ?_, ?_⟩
    · rw [Dk.layP, h1, List.append_assoc]
    · rw [List.length_append, Dk.parts_length, h2, totN]
theorem layP_length (gen : Int) (rs : List (List UInt8)) : (Dk.layP gen rs []).length = totN rs := by
  obtain ⟨m, h1, h2⟩ := layP_append gen rs []
  rw [h1, List.nil_append, h2]
theorem parts_at {r : List UInt8} {gen : Int} {index i : Nat} {p : Part} (h : (Dk.parts r gen (index : Int))[i]? = some p) : i < sizeN r.length ∧ p = Dk.partN r gen index i := by
  have hlt := (List.getElem?_eq_some_iff.1 h).1
  rw [Dk.parts_length] at hlt
  rw [Dk.parts, List.getElem?_map, List.getElem?_range hlt] at h
  injection h with h
  exact ⟨hlt, h.symm⟩
theorem parts_get {r : List UInt8} {gen : Int} {index i : Nat} (h : i < sizeN r.length) : (Dk.parts r gen (index : Int))[i]? = some (Dk.partN r gen index i) := by
  rw [Dk.parts, List.getElem?_map, List.getElem?_range h]; rfl
/-- Parts that lay writes: their places, and generation. -/
theorem layP_seq (gen : Int) : ∀ (rs : List (List UInt8)) (l : List Part), Seq 1 l → (∀ p ∈ l, p.gen = gen) → Seq 1 (Dk.layP gen rs l) ∧ ∀ p ∈ Dk.layP gen rs l, p.gen = gen
  | [], l, h, hg => ⟨h, hg⟩
  | r :: rs, l, h, hg => by
    rw [Dk.layP]
    refine layP_seq gen rs _ ?_ ?_
    · intro i p hp
      rcases Nat.lt_or_ge i l.length with hi | hi
      · rw [List.getElem?_append_left hi] at hp
        exact h i p hp
      · rw [List.getElem?_append_right hi] at hp
        obtain ⟨h1, h2⟩ := parts_at hp
        rw [h2]
        show ((1 + l.length : Nat) : Int) + ((i - l.length : Nat) : Int) = _
        omega
    · intro p hp
      rcases List.mem_append.1 hp with hp | hp
      · exact hg p hp
      · obtain ⟨j, hj⟩ := List.getElem?_of_mem hp
        rw [(parts_at hj).2]; rfl
/-- Records stand one behind the other, from an index on. -/
def Stand (d : Dk) (h : Nat) (gen : Int) : Nat → List (List UInt8) → Prop
  | _, [] => True
  | i, r :: rs => r.length ≤ 4096 ∧ (∀ j, j < sizeN r.length → d.at_ h (i + j) = some (Dk.partN r gen i j)) ∧ Stand d h gen (i + sizeN r.length) rs
theorem stand_append {d : Dk} {h : Nat} {gen : Int} : ∀ {i : Nat} {a b : List (List UInt8)}, Stand d h gen i (a ++ b) ↔ (Stand d h gen i a ∧ Stand d h gen (i + totN a) b)
  | i, [], b => by simp [Stand, totN]
  | i, r :: a, b => by
    rw [List.cons_append, Stand, Stand, stand_append (a := a), totN, Nat.add_assoc]
    constructor
    · rintro ⟨h1, h2, h3, h4⟩; exact ⟨⟨h1, h2, h3⟩, h4⟩
    · rintro ⟨⟨h1, h2, h3⟩, h4⟩; exact ⟨h1, h2, h3, h4⟩
theorem stand_len {d : Dk} {h : Nat} {gen : Int} : ∀ {i : Nat} {a : List (List UInt8)}, Stand d h gen i a → ∀ r ∈ a, r.length ≤ 4096
  | _, [], _, r, hr => by cases hr
  | _, q :: a, hs, r, hr => by
    rcases List.mem_cons.1 hr with rfl | hr
    · exact hs.1
    · exact stand_len hs.2.2 r hr
theorem stand_same {d x : Dk} {h : Nat} {gen : Int} : ∀ {i : Nat} {a : List (List UInt8)}, Stand d h gen i a → (∀ k, i ≤ k → k < i + totN a → x.at_ h k = d.at_ h k) → Stand x h gen i a
  | _, [], _, _ => trivial
  | i, r :: a, hs, hk => by
    refine ⟨hs.1, fun j hj => ?_, stand_same hs.2.2 (fun k h1 h2 => hk k (by omega) (by rw [totN]; omega))⟩
    rw [hk (i + j) (by omega) (by rw [totN]; omega)]
    exact hs.2.1 j hj
theorem stand_le {d : Dk} {h : Nat} {gen : Int} : ∀ {i : Nat} {a : List (List UInt8)}, Stand d h gen i a → i ≤ d.half → i + totN a ≤ d.half
  | _, [], _, hi => by simp [totN]; exact hi
  | i, r :: a, hs, hi => by
    obtain ⟨s1, s2, s3, s4, s5, s6⟩ := sizeN_pos hs.1
    have := Dk.at_lt (hs.2.1 (sizeN r.length - 1) (by omega))
    have := stand_le hs.2.2 (by omega)
    rw [totN]; omega
/-- What is read where records stand. -/
theorem read_stand {d : Dk} {h : Nat} {gen : Int} {n : Nat} : ∀ (rs : List (List UInt8)) (i f : Nat) (acc : List (List UInt8)), Stand d h gen i rs → d.one h gen (i + totN rs) = none → rs.length < f →
    (n + 1 ≤ i ∨ ∃ a b, rs = a ++ b ∧ n + 1 = i + totN a) → d.readF h gen n f i acc = some (acc ++ rs, i + totN rs)
  | [], i, f, acc, hs, ho, hf, hn => by
    obtain ⟨f, rfl⟩ : ∃ f', f = f' + 1 := ⟨f - 1, by simp at hf; omega⟩
    have hni : ¬ i ≤ n := by
      rcases hn with hn | ⟨a, b, h1, h2⟩
      · omega
      · have : a = [] := by cases a; rfl; cases h1
        subst this
        simp [totN] at h2; omega
    simp only [totN, Nat.add_zero] at ho ⊢
    rw [Dk.readF, ho]
    dsimp only
    rw [if_neg hni, List.append_nil]
  | r :: rs, i, f, acc, hs, ho, hf, hn => by
    obtain ⟨f, rfl⟩ : ∃ f', f = f' + 1 := ⟨f - 1, by simp at hf; omega⟩
    obtain ⟨s1, s2, s3⟩ := hs
    have hsz := (sizeN_pos s1).1
    rw [Dk.readF, one_parts s1 s2]
    dsimp only
    have hc : ¬ (i ≤ n ∧ n + 1 < i + sizeN r.length) := by
      rintro ⟨q1, q2⟩
      rcases hn with hn | ⟨a, b, h1, h2⟩
      · omega
      · cases a with
        | nil => simp [totN] at h2; omega
        | cons x a =>
          rw [List.cons_append] at h1
          injection h1 with h1 h3
          subst h1
          rw [totN] at h2; omega
    rw [if_neg hc, read_stand rs (i + sizeN r.length) f (acc ++ [r]) s3 (by rw [totN] at ho; rw [Nat.add_assoc]; exact ho) (by simp at hf; omega) ?_]
    · rw [List.append_assoc, totN, Nat.add_assoc]; rfl
    · rcases hn with hn | ⟨a, b, h1, h2⟩
      · left; omega
      · cases a with
        | nil => left; simp [totN] at h2; omega
        | cons x a =>
          rw [List.cons_append] at h1
          injection h1 with h1 h3
          subst h1
          right
          exact ⟨a, b, h3, by rw [totN] at h2; omega⟩
/-- What is read, stands. -/
theorem read_shape {d : Dk} {h : Nat} {gen : Int} {n : Nat} : ∀ (f i : Nat) (acc l : List (List UInt8)) (u : Nat), d.readF h gen n f i acc = some (l, u) → ∃ rs, l = acc ++ rs ∧ Stand d h gen i rs ∧ u = i + totN rs ∧ n + 1 ≤ u ∧ d.one h gen u = none
  | 0, i, acc, l, u, hr => by cases hr
  | f + 1, i, acc, l, u, hr => by
    rw [Dk.readF] at hr
    cases ho : d.one h gen i with
    | none =>
      rw [ho] at hr
      dsimp only at hr
      by_cases q : i ≤ n
      · rw [if_pos q] at hr; cases hr
      · rw [if_neg q] at hr
        cases hr
        exact ⟨[], by simp, trivial, by simp [totN], by omega, ho⟩
    | some x =>
      obtain ⟨r, j⟩ := x
      rw [ho] at hr
      dsimp only at hr
      by_cases q : i ≤ n ∧ n + 1 < j
      · rw [if_pos q] at hr; cases hr
      · rw [if_neg q] at hr
        obtain ⟨rs, h1, h2, h3, h4, h5⟩ := read_shape f j _ l u hr
        obtain ⟨o1, o2, o3, o4, o5⟩ := one_shape ho
        subst o2
        exact ⟨r :: rs, by rw [h1, List.append_assoc]; rfl, ⟨o1, o5, h2⟩, by rw [h3, totN]; omega, h4, h5⟩
/-- A half holds records: a header, and records behind. -/
structure Holds (d : Dk) (h : Nat) (gen : Int) (rs : List (List UInt8)) : Prop where
  head : ∃ a b p, rs = a ++ b ∧ d.at_ h 0 = some p ∧ p.gen = gen ∧ Dk.header p = some (totN a)
  stand : Stand d h gen 1 rs
  fits : 1 + totN rs ≤ d.half
  stop : d.one h gen (1 + totN rs) = none
theorem Holds.used {d : Dk} {h : Nat} {gen : Int} {rs : List (List UInt8)} (k : Holds d h gen rs) : d.used h = some (rs, gen, 1 + totN rs) := by
  obtain ⟨a, b, p, h1, h2, h3, h4⟩ := k.head
  have ht : totN rs = totN a + totN b := by rw [h1, totN_append]
  have hf := k.fits
  have hl := totN_ge (stand_len k.stand)
  unfold Dk.used
  rw [h2]
  dsimp only
  rw [h4]
  dsimp only
  rw [if_pos (by omega), h3, read_stand rs 1 (d.half + 1) [] k.stand k.stop (by omega) (.inr ⟨a, b, h1, by omega⟩)]
  rfl
theorem used_shape {d : Dk} {h : Nat} {gen : Int} {rs : List (List UInt8)} {u : Nat} (hu : d.used h = some (rs, gen, u)) :
    Stand d h gen 1 rs ∧ u = 1 + totN rs ∧ 1 + totN rs ≤ d.half ∧ ∃ p, d.at_ h 0 = some p ∧ p.gen = gen := by
  unfold Dk.used at hu
  cases ha : d.at_ h 0 with
  | none => rw [ha] at hu; cases hu
  | some p =>
    rw [ha] at hu
    dsimp only at hu
    cases hh : Dk.header p with
    | none => rw [hh] at hu; cases hu
    | some n =>
      rw [hh] at hu
      dsimp only at hu
      by_cases q : n < d.half
      · rw [if_pos q] at hu
        cases hr : d.readF h p.gen n (d.half + 1) 1 [] with
        | none => rw [hr] at hu; cases hu
        | some x =>
          obtain ⟨l, i⟩ := x
          rw [hr] at hu
          dsimp only at hu
          injection hu with hu
          injection hu with e1 e2
          injection e2 with e2 e3
          subst e1; subst e2; subst e3
          obtain ⟨rs, h1, h2, h3, h4, h5⟩ := read_shape _ _ _ _ _ hr
          rw [List.nil_append] at h1
          subst h1
          exact ⟨h2, h3, stand_le h2 (by omega), p, rfl, rfl⟩
      · rw [if_neg q] at hu; cases hu
theorem head_header {gen : Int} {n : Nat} (h : n < 4294967296) : Dk.header (Dk.head gen n) = some n := by
  unfold Dk.header Dk.head
  rw [if_pos (by simp [leB_length])]
  have : ((toldB (leB (n : Int) 4) : Nat) : Int) = (n : Int) := told_leB_eq (n : Int) 4 (by omega) (by omega)
  have e : ([108, 111, 103] ++ leB (n : Int) 4).drop 3 = leB (n : Int) 4 := rfl
  rw [e]
  congr 1
  omega
theorem head_good {gen : Int} {n : Nat} (h0 : 1 ≤ gen) (h1 : gen ≤ 1099511627776) : Good (Dk.head gen n) :=
  ⟨h0, h1, Int.le_refl _, by show (0 : Int) < 4294967296; omega, by show (3 : UInt8).toNat ≤ 3; decide, by simp [Dk.head, leB_length]⟩
end Jp
end Go.Proofs.YtbhjigejpdbeiaaDoor
end

section
/-
  Plain laws of lay: what it answers, and what is looked up behind it, or behind a fall within it.
-/
namespace Go.Proofs.YtbhjigejpdbeiaaDoor
attribute [local irreducible] Sha.sum

namespace Jp
/-- All loose writes are sure. -/
def flush (d : Dk) : Dk := { d with secs := d.loose.foldl Dk.put d.secs, loose := [] }
theorem flush_len (d : Dk) : (flush d).secs.length = d.secs.length := fold_length _ _
theorem look_plain {d : Dk} (h : d.loose = []) (i : Nat) : d.look i = d.secs.getD i zeroSec := by rw [Dk.look, h]; rfl
theorem flush_look {d : Dk} (hr : d.right = true) {i : Nat} (hi : i < d.secs.length) : (flush d).look i = d.look i := by
  obtain ⟨b1, b2, b3, b4⟩ := bounds_of_right hr
  rw [look_plain (d := flush d) rfl]
  show (d.loose.foldl Dk.put d.secs).getD i zeroSec = _
  rw [List.getD_eq_getElem?_getD, fold_at d.loose d.secs i hi (fun x hx => (b4 x hx).1), Dk.look]
  cases Dk.lookL (i : Int) d.loose with
  | some s => rfl
  | none => simp
theorem half_len {d x : Dk} (h : x.secs.length = d.secs.length) : x.half = d.half := by unfold Dk.half; rw [h]
theorem top_ge {d : Dk} {i : Nat} {p : Part} (hi : i < d.secs.length) (hs : says (d.look i) = some p) : p.gen ≤ d.top := by
  have hg : d.genAt i = p.gen := by rw [Dk.genAt, hs]
  have key : ∀ n, i < n → p.gen ≤ d.topF n := by
    intro n
    induction n with
    | zero => intro h; omega
    | succ n ih =>
      intro h
      rw [Dk.topF]
      by_cases q : i = n
      · subst q; rw [hg]; omega
      · have := ih (by omega); omega
  exact key _ hi
theorem top_le {d : Dk} {m : Int} (h0 : 0 ≤ m) (h : ∀ i p, i < d.secs.length → says (d.look i) = some p → p.gen ≤ m) : d.top ≤ m := by
  have key : ∀ n, n ≤ d.secs.length → d.topF n ≤ m := by
    intro n
    induction n with
    | zero => intro _; exact h0
    | succ n ih =>
      intro hn
      rw [Dk.topF]
      have h1 := ih (by omega)
      have h2 : d.genAt n ≤ m := by
        unfold Dk.genAt
        cases hs : says (d.look n) with
        | none => exact h0
        | some p => exact h n p (by omega) hs
      omega
  exact key _ (Nat.le_refl _)
theorem top_pos (d : Dk) : 0 ≤ d.top := by
  have : ∀ n, 0 ≤ d.topF n := by
    intro n
    induction n with
    | zero => exact Int.le_refl _
    | succ n ih => rw [Dk.topF]; omega
  exact this _
theorem up_of_len {d x : Dk} (hu : Up d) (hl : x.secs.length = d.secs.length) (hlo : x.loose = []) (hd : x.down = false) : Up x := by
  obtain ⟨b1, b2, b3, b4⟩ := bounds_of_right hu.right
  exact ⟨right_of (by omega) (by omega) (by rw [hlo]; simp) (fun y hy => by rw [hlo] at hy; cases hy), hd⟩
/-- The places that lay writes, and what it writes. -/
def laidP (g : Int) (rs : List (List UInt8)) : List Part := Dk.layP g rs []
theorem laidP_len (g : Int) (rs : List (List UInt8)) : (laidP g rs).length = totN rs := layP_length g rs
theorem laidP_seq (g : Int) (rs : List (List UInt8)) : Seq 1 (laidP g rs) := (layP_seq g rs [] (fun i p h => by simp at h) (fun p h => by cases h)).1
theorem laidP_gen {g : Int} {rs : List (List UInt8)} {p : Part} (h : p ∈ laidP g rs) : p.gen = g := (layP_seq g rs [] (fun i p h => by simp at h) (fun p h => by cases h)).2 p h
theorem head_seq (g : Int) (n : Nat) : Seq 0 [Dk.head g n] := fun i p h => by
  cases i with
  | zero => simp at h; subst h; rfl
  | succ i => simp at h
theorem lay_cases {d : Dk} {h : Nat} {rs : List (List UInt8)} (hu : Up d) (hh : h ≤ 1) (hfit : 1 + totN rs ≤ d.half) (ht : d.top < 1099511627776) (hlo : d.loose.length + 1 + totN rs ≤ 4096) :
    (∃ x k, d.lay h rs = (x, .zero, 9) ∧ 0 ≤ d.fuse ∧ x.secs = d.secs ∧ x.loose = d.loose ++ wrs (h * d.half) ((laidP (d.top + 1) rs).take k) ∧ x.down = true ∧ x.right = true) ∨
    (∃ x k, d.lay h rs = (x, .zero, 9) ∧ 0 ≤ d.fuse ∧ x.secs = (wrs (h * d.half) (laidP (d.top + 1) rs)).foldl Dk.put (flush d).secs ∧ x.loose = wrs (h * d.half) ([Dk.head (d.top + 1) (totN rs)].take k) ∧ x.down = true ∧ x.right = true) ∨
    (∃ y, d.lay h rs = (y, ⟨h, d.top + 1, ((1 + totN rs : Nat) : Int)⟩, 0) ∧ y.secs = (wrs (h * d.half) [Dk.head (d.top + 1) (totN rs)]).foldl Dk.put ((wrs (h * d.half) (laidP (d.top + 1) rs)).foldl Dk.put (flush d).secs) ∧ y.loose = [] ∧ Up y ∧ (d.fuse < 0 → y.fuse = d.fuse)) := by
  have hPl := laidP_len (d.top + 1) rs
  have hP : Dk.layP (d.top + 1) rs [] = laidP (d.top + 1) rs := rfl
  unfold Dk.lay
  rw [if_neg (by omega), hP, hPl]
  rcases puts_cases h (laidP (d.top + 1) rs) d hu (fits_of (laidP_seq _ _) hh (by omega)) (by omega) with ⟨x, k, h1, h2, h3, h4, h5, h6, h7⟩ | ⟨x, h1, h2, h3, h4, h5⟩
  · left
    rw [h1]
    exact ⟨x, k, rfl, h2, h4, h5, h6, h7⟩
  · right
    have hsec : x.secs = (wrs (h * d.half) (laidP (d.top + 1) rs)).foldl Dk.put (flush d).secs := by rw [h2, List.foldl_append]; rfl
    have hlen : x.secs.length = d.secs.length := by rw [hsec, fold_length, flush_len]
    have hhf := half_len hlen
    have hux := up_of_len hu hlen h3 h4
    rw [h1]
    dsimp only
    rw [if_pos rfl]
    rcases puts_cases h [Dk.head (d.top + 1) (totN rs)] x hux (fits_of (head_seq _ _) hh (by simp; omega)) (by rw [h3]; simp) with ⟨y, k, g1, g2, g3, g4, g5, g6, g7⟩ | ⟨y, g1, g2, g3, g4, g5⟩
    · left
      rw [g1]
      refine ⟨y, k, rfl, ?_, g4.trans hsec, by rw [g5, h3, hhf]; rfl, g6, g7⟩
      rcases Int.lt_or_le d.fuse 0 with q | q
      · rw [h5 q] at g2; omega
      · exact q
    · right
      rw [g1]
      refine ⟨y, rfl, by rw [g2, h3, List.nil_append, hhf, hsec], g3, up_of_len hux ?_ g3 g4, fun q => ?_⟩
      · rw [g2, fold_length]
      · rw [g5 (by rw [h5 q]; exact q), h5 q]
/-- What is looked up behind parts and a header. -/
structure View (d y : Dk) (hb : Nat) (g : Int) (rs : List (List UInt8)) : Prop where
  len : y.secs.length = d.secs.length
  head : y.look hb = (Dk.head g (totN rs)).sec
  part : ∀ j p, (laidP g rs)[j]? = some p → y.look ((hb + 1 + j : Nat) : Int) = p.sec
  rest : ∀ i, i < d.secs.length → i ≠ hb → (i < hb + 1 ∨ hb + 1 + totN rs ≤ i) → y.look i = d.look i
theorem look_fold {s : List Sec} {y : Dk} {hb k0 : Nat} {l : List Part} (hs : Seq k0 l) (h1 : y.secs = (wrs hb l).foldl Dk.put s) (h2 : y.loose = []) {i : Nat} (hi : i < s.length) :
    y.look i = if hb + k0 ≤ i then (match l[i - (hb + k0)]? with | some p => p.sec | none => s.getD i zeroSec) else s.getD i zeroSec :=
  look_puts (d := ⟨s, [], 0, false⟩) hs rfl h1 h2 hi
/-- A disk of sectors. -/
def ofSecs (s : List Sec) : Dk := ⟨s, [], 0, false⟩
theorem look_ofSecs (s : List Sec) (i : Nat) : (ofSecs s).look i = s.getD i zeroSec := look_plain rfl i
theorem view_of {d y : Dk} {hb : Nat} {g : Int} {rs : List (List UInt8)} (hr : d.right = true) (hlen : hb + 1 + totN rs ≤ d.secs.length)
    (h1 : y.secs = (wrs hb [Dk.head g (totN rs)]).foldl Dk.put ((wrs hb (laidP g rs)).foldl Dk.put (flush d).secs)) (h2 : y.loose = []) : View d y hb g rs := by
  have hfl := flush_len d
  have hl1 : ((wrs hb (laidP g rs)).foldl Dk.put (flush d).secs).length = d.secs.length := by rw [fold_length, hfl]
  have e1 : ∀ i : Nat, i < d.secs.length → y.look i = if i = hb then (Dk.head g (totN rs)).sec else (ofSecs ((wrs hb (laidP g rs)).foldl Dk.put (flush d).secs)).look i := by
    intro i hi
    rw [look_fold (head_seq g (totN rs)) h1 h2 (by rw [hl1]; exact hi), look_ofSecs, Nat.add_zero]
    by_cases q : i = hb
    · subst q; simp
    · rw [if_neg q]
      by_cases q2 : hb ≤ i
      · rw [if_pos q2, List.getElem?_eq_none (by simp; omega)]
      · rw [if_neg q2]
  have e2 : ∀ i : Nat, i < d.secs.length → (ofSecs ((wrs hb (laidP g rs)).foldl Dk.put (flush d).secs)).look i = if hb + 1 ≤ i then (match (laidP g rs)[i - (hb + 1)]? with | some p => p.sec | none => d.look i) else d.look i := by
    intro i hi
    have hx : (flush d).secs.getD i zeroSec = d.look i := by rw [← flush_look hr hi, look_plain (d := flush d) rfl]
    rw [look_fold (s := (flush d).secs) (laidP_seq g rs) rfl rfl (by rw [hfl]; exact hi), hx]
  have hPl := laidP_len g rs
  refine ⟨?_, ?_, fun j p hj => ?_, fun i hi hne hout => ?_⟩
  · rw [h1, fold_length, hl1]
  · rw [e1 hb (by omega), if_pos rfl]
  · have hlt := (List.getElem?_eq_some_iff.1 hj).1
    rw [e1 _ (by omega), if_neg (by omega), e2 _ (by omega), if_pos (by omega), show hb + 1 + j - (hb + 1) = j by omega, hj]
  · rw [e1 i hi, if_neg hne, e2 i hi]
    by_cases q : hb + 1 ≤ i
    · rw [if_pos q, List.getElem?_eq_none (by omega)]
    · rw [if_neg q]
end Jp
end Go.Proofs.YtbhjigejpdbeiaaDoor
end

section
/-
  Plain laws of a journal's states: what holds between acts, and behind a fall.
-/
namespace Go.Proofs.YtbhjigejpdbeiaaDoor
attribute [local irreducible] Sha.sum

namespace Jp
theorem laidP_split (g : Int) (r : List UInt8) (rs : List (List UInt8)) (l : List Part) : ∃ m, Dk.layP g (r :: rs) l = (l ++ Dk.parts r g ((1 + l.length : Nat) : Int)) ++ m := by
  obtain ⟨m, h, _⟩ := layP_append g rs (l ++ Dk.parts r g ((1 + l.length : Nat) : Int))
  exact ⟨m, by rw [Dk.layP, h]⟩
theorem laid_get (g : Int) (r : List UInt8) (rs : List (List UInt8)) (l : List Part) {j : Nat} (hj : j < sizeN r.length) : (Dk.layP g (r :: rs) l)[l.length + j]? = some (Dk.partN r g ((1 + l.length : Nat) : Int) j) := by
  obtain ⟨m, h⟩ := laidP_split g r rs l
  rw [h, List.getElem?_append_left (by rw [List.length_append, Dk.parts_length]; omega), List.getElem?_append_right (by omega), show l.length + j - l.length = j by omega]
  exact parts_get hj
theorem stand_of {y : Dk} {h : Nat} {g : Int} : ∀ (rs : List (List UInt8)) (l : List Part), (∀ r ∈ rs, r.length ≤ 4096) → (∀ j p, l.length ≤ j → (Dk.layP g rs l)[j]? = some p → y.at_ h (1 + j) = some p) → Stand y h g (1 + l.length) rs
  | [], _, _, _ => trivial
  | r :: rs, l, hr, hp => by
    refine ⟨hr r (List.mem_cons_self ..), fun j hj => ?_, ?_⟩
    · rw [Nat.add_assoc]
      exact hp (l.length + j) _ (by omega) (laid_get g r rs l hj)
    · have := stand_of rs (l ++ Dk.parts r g ((1 + l.length : Nat) : Int)) (fun x hx => hr x (List.mem_cons_of_mem _ hx)) (fun j p hj h1 => by
        rw [List.length_append] at hj
        exact hp j p (by omega) (by rw [Dk.layP]; exact h1))
      rw [List.length_append, Dk.parts_length] at this
      rw [Nat.add_assoc]; exact this
theorem laidP_good {g : Int} (h0 : 1 ≤ g) (h1 : g ≤ 1099511627776) : ∀ (rs : List (List UInt8)) (l : List Part), l.length + totN rs ≤ 100000 → (∀ p ∈ l, Good p) → ∀ p ∈ Dk.layP g rs l, Good p
  | [], l, _, hl, p, hp => hl p hp
  | r :: rs, l, hn, hl, p, hp => by
    rw [totN] at hn
    rw [Dk.layP] at hp
    refine laidP_good h0 h1 rs _ (by rw [List.length_append, Dk.parts_length]; omega) (fun q hq => ?_) p hp
    rcases List.mem_append.1 hq with hq | hq
    · exact hl q hq
    · obtain ⟨j, hj⟩ := List.getElem?_of_mem hq
      obtain ⟨k1, k2⟩ := parts_at hj
      rw [k2]
      exact partN_good h0 h1 (by omega)
theorem laid_good {g : Int} (h0 : 1 ≤ g) (h1 : g ≤ 1099511627776) {rs : List (List UInt8)} (hn : totN rs ≤ 100000) {p : Part} (hp : p ∈ laidP g rs) : Good p :=
  laidP_good h0 h1 rs [] (by simp; exact hn) (fun q hq => by cases hq) p hp
/-- Nothing that is read in a half is as new. -/
def Low (y : Dk) (h : Nat) (g : Int) : Prop := ∀ p, y.at_ h 0 = some p → (Dk.header p).isSome = true → p.gen < g
theorem low_used {y : Dk} {h : Nat} {g : Int} (hl : Low y h g) {b : List (List UInt8) × Int × Nat} (hb : y.used h = some b) : b.2.1 < g := by
  unfold Dk.used at hb
  cases ha : y.at_ h 0 with
  | none => rw [ha] at hb; cases hb
  | some p =>
    rw [ha] at hb
    dsimp only at hb
    cases hh : Dk.header p with
    | none => rw [hh] at hb; cases hb
    | some n =>
      rw [hh] at hb
      dsimp only at hb
      have := hl p ha (by rw [hh]; rfl)
      by_cases q : n < y.half
      · rw [if_pos q] at hb
        cases hr : y.readF h p.gen n (y.half + 1) 1 [] with
        | none => rw [hr] at hb; cases hb
        | some x =>
          rw [hr] at hb
          dsimp only at hb
          injection hb with hb
          rw [← hb]; exact this
      · rw [if_neg q] at hb; cases hb
theorem Low.same {d x : Dk} {h : Nat} {g : Int} (hl : Low d h g) (hs : x.at_ h 0 = d.at_ h 0) : Low x h g := fun p hp => by rw [hs] at hp; exact hl p hp
/-- What may be opened: a half holds records, and the other one nothing as new. -/
structure PO (y : Dk) (h : Nat) (g : Int) (came : List (List UInt8)) (m : Int) : Prop where
  up : Up y
  loose : y.loose = []
  top : y.top ≤ m
  half : h ≤ 1
  holds : Holds y h g came
  low : Low y (1 - h) g
/-- What holds between acts: nothing behind the records is of their generation. -/
structure Inv (y : Dk) (h : Nat) (g : Int) (came : List (List UInt8)) (m : Int) : Prop extends PO y h g came m where
  gen0 : 1 ≤ g
  gen1 : g ≤ 1099511627776
  fresh : ∀ i p, 1 + totN came ≤ i → y.at_ h i = some p → p.gen ≠ g
def logOf (h : Nat) (g : Int) (came : List (List UInt8)) : Dk.Log := ⟨h, g, ((1 + totN came : Nat) : Int)⟩
theorem PO.best {y : Dk} {h : Nat} {g : Int} {came : List (List UInt8)} {m : Int} (k : PO y h g came m) : y.best = some (came, h) := by
  have hu := k.holds.used
  have hl := k.low
  unfold Dk.best
  rcases Nat.le_one_iff_eq_zero_or_eq_one.1 k.half with rfl | rfl
  · rw [hu]
    cases ho : y.used 1 with
    | none => rfl
    | some b =>
      have := low_used hl ho
      dsimp only
      rw [if_neg (by omega)]
  · rw [hu]
    cases ho : y.used 0 with
    | none => rfl
    | some b =>
      have := low_used hl ho
      dsimp only
      rw [if_pos (by omega)]
theorem one_same {d x : Dk} {h : Nat} {g : Int} (hh : x.half = d.half) {s : Nat} (hs : ∀ i, s ≤ i → x.at_ h i = d.at_ h i) : x.one h g s = d.one h g s := by
  have key : ∀ f k acc, s ≤ k → x.oneF h g s f k acc = d.oneF h g s f k acc := by
    intro f
    induction f with
    | zero => intro k acc _; rfl
    | succ f ih =>
      intro k acc hk
      rw [Dk.oneF, Dk.oneF, hs k hk]
      cases d.at_ h k with
      | none => rfl
      | some p => dsimp only; rw [ih (k + 1) _ (by omega)]
  rw [Dk.one, Dk.one, hh]
  exact key _ _ _ (Nat.le_refl _)
theorem Holds.same {d x : Dk} {h : Nat} {g : Int} {rs : List (List UInt8)} (k : Holds d h g rs) (hh : x.half = d.half) (hs : ∀ i, x.at_ h i = d.at_ h i) : Holds x h g rs := by
  obtain ⟨a, b, p, h1, h2, h3, h4⟩ := k.head
  exact ⟨⟨a, b, p, h1, by rw [hs]; exact h2, h3, h4⟩, stand_same k.stand (fun i _ _ => hs i), by rw [hh]; exact k.fits, by rw [one_same hh (fun i _ => hs i)]; exact k.stop⟩
theorem half_pos {h i n : Nat} (hh : h ≤ 1) (hi : i < n) : h * n + i < 2 * n := by
  rcases Nat.le_one_iff_eq_zero_or_eq_one.1 hh with rfl | rfl <;> omega
theorem place_lt {d : Dk} {h i : Nat} (hh : h ≤ 1) (hi : i < d.half) : h * d.half + i < d.secs.length := by
  have := half_pos hh hi
  have : d.half = d.secs.length / 2 := rfl
  omega
theorem place_ne {h n i j : Nat} (hh : h ≤ 1) (hi : i < n) (hj : j < n) : (1 - h) * n + i ≠ h * n + j := by
  rcases Nat.le_one_iff_eq_zero_or_eq_one.1 hh with rfl | rfl <;> omega
theorem at_none_ge {d : Dk} {h i : Nat} (hi : d.half ≤ i) : d.at_ h i = none := by rw [Dk.at_, if_neg (by omega)]
/-- Behind parts and a header, records are held. -/
theorem View.inv {d y : Dk} {h : Nat} {g : Int} {rs : List (List UInt8)} (v : View d y (h * d.half) g rs) (hu : Up y) (hlo : y.loose = []) (hh : h ≤ 1) (hfit : 1 + totN rs ≤ d.half) (hlen : ∀ r ∈ rs, r.length ≤ 4096) (hr : d.right = true)
    (hg : g = d.top + 1) (h1 : g ≤ 1099511627776) : Inv y h g rs g ∧ y.secs.length = d.secs.length := by
  obtain ⟨b1, b2, b3, b4⟩ := bounds_of_right hr
  have hhf : d.half = d.secs.length / 2 := rfl
  have hyh := half_len v.len
  have h0 : 1 ≤ g := by have := top_pos d; omega
  have hP := laidP_len g rs
  have hpart : ∀ j p, (laidP g rs)[j]? = some p → y.at_ h (1 + j) = some p := fun j p hj => by
    have hlt := (List.getElem?_eq_some_iff.1 hj).1
    refine at_of (by rw [hyh]; omega) (laid_good h0 h1 (by omega) (List.mem_of_getElem? hj)) (laidP_seq g rs j p hj) ?_
    rw [hyh]
    have := v.part j p hj
    rw [show h * d.half + (1 + j) = h * d.half + 1 + j by omega]; exact this
  have hhead : y.at_ h 0 = some (Dk.head g (totN rs)) := at_of (by rw [hyh]; omega) (head_good h0 h1) rfl (by rw [hyh]; exact v.head)
  have hrest : ∀ i, 1 + totN rs ≤ i → y.at_ h i = d.at_ h i := fun i hi => at_same hyh (fun hlt => v.rest _ (place_lt hh hlt) (by omega) (.inr (by omega)))
  have hold : ∀ h' i p, h' ≤ 1 → d.at_ h' i = some p → p.gen < g := fun h' i p hh' hp => by
    obtain ⟨q1, q2, q3, q4⟩ := at_good hp
    have := top_ge (place_lt hh' q1) (by rw [q4]; exact says_sec q2)
    omega
  have hoth : ∀ i, y.at_ (1 - h) i = d.at_ (1 - h) i := fun i => at_same hyh (fun hlt => by
    have hne := fun j (hj : j < d.half) => place_ne (n := d.half) hh hlt hj
    have n0 := hne 0 (by omega)
    refine v.rest _ (place_lt (by omega) hlt) (by omega) ?_
    rcases Nat.le_one_iff_eq_zero_or_eq_one.1 hh with rfl | rfl
    · right; simp; omega
    · left; simp; omega)
  have hfresh : ∀ i p, 1 + totN rs ≤ i → y.at_ h i = some p → p.gen ≠ g := fun i p hi hp => by
    rw [hrest i hi] at hp
    have := hold h i p hh hp
    omega
  refine ⟨⟨⟨hu, hlo, ?_, hh, ⟨⟨rs, [], _, by simp, hhead, rfl, head_header (by omega)⟩, ?_, by rw [hyh]; exact hfit, ?_⟩, fun p hp _ => ?_⟩, h0, h1, hfresh⟩, v.len⟩
  · refine top_le (by omega) (fun i p hi hs => ?_)
    rw [v.len] at hi
    by_cases q : i = h * d.half
    · rw [q, v.head, says_sec (head_good h0 h1)] at hs
      injection hs with hs
      rw [← hs]; exact Int.le_refl _
    · by_cases q2 : i < h * d.half + 1 ∨ h * d.half + 1 + totN rs ≤ i
      · rw [v.rest i hi q q2] at hs
        have := top_ge hi hs
        omega
      · obtain ⟨j, hj, hj2⟩ : ∃ j, i = h * d.half + 1 + j ∧ j < totN rs := ⟨i - (h * d.half + 1), by omega, by omega⟩
        have hpj := List.getElem?_eq_getElem (show j < (laidP g rs).length by omega)
        rw [hj, v.part j _ hpj, says_sec (laid_good h0 h1 (by omega) (List.mem_of_getElem? hpj))] at hs
        injection hs with hs
        rw [← hs, laidP_gen (List.mem_of_getElem? hpj)]
        exact Int.le_refl _
  · exact stand_of rs [] hlen (fun j p _ hj => hpart j p hj)
  · cases ha : y.at_ h (1 + totN rs) with
    | none => exact one_none (.inl ha)
    | some p => exact one_none (.inr ⟨p, ha, hfresh _ p (Nat.le_refl _) ha⟩)
  · rw [hoth] at hp
    exact hold (1 - h) 0 p (by omega) hp
end Jp
end Go.Proofs.YtbhjigejpdbeiaaDoor
end

section
/-
  Plain laws of acts on a journal: what each answers, and what a fall within it leaves.
-/
namespace Go.Proofs.YtbhjigejpdbeiaaDoor
attribute [local irreducible] Sha.sum

namespace Jp
/-- What may be opened, wherever it lies. -/
def Opn (y : Dk) (came : List (List UInt8)) (m : Int) : Prop := ∃ h g, PO y h g came m
/-- The power may go: what is there then is this or that. -/
structure Risk (x : Dk) (n : Nat) (a b : List (List UInt8)) (m : Int) : Prop where
  down : x.down = true
  right : x.right = true
  fall : ∀ fates ff, chance x fates = false → ∃ y, x.fall fates ff = (y, 0) ∧ y.fuse = max ff (-1) ∧ y.secs.length = n ∧ (Opn y a m ∨ Opn y b m)
theorem Opn.mono {y : Dk} {came : List (List UInt8)} {m m' : Int} (k : Opn y came m) (h : m ≤ m') : Opn y came m' := by
  obtain ⟨a, g, k⟩ := k
  exact ⟨a, g, k.up, k.loose, by have := k.top; omega, k.half, k.holds, k.low⟩
theorem Inv.mono {y : Dk} {h : Nat} {g : Int} {came : List (List UInt8)} {m m' : Int} (k : Inv y h g came m) (hm : m ≤ m') : Inv y h g came m' :=
  ⟨⟨k.up, k.loose, by have := k.top; omega, k.half, k.holds, k.low⟩, k.gen0, k.gen1, k.fresh⟩
theorem Inv.opn {y : Dk} {h : Nat} {g : Int} {came : List (List UInt8)} {m : Int} (k : Inv y h g came m) : Opn y came m := ⟨h, g, k.toPO⟩
theorem PO.gen_top {y : Dk} {h : Nat} {g : Int} {came : List (List UInt8)} {m : Int} (k : PO y h g came m) : g ≤ y.top ∧ 1 ≤ g ∧ g ≤ 1099511627776 := by
  obtain ⟨a, b, p, h1, h2, h3, h4⟩ := k.holds.head
  obtain ⟨q1, q2, q3, q4⟩ := at_good h2
  have := top_ge (place_lt k.half q1) (by rw [q4]; exact says_sec q2)
  have := q2.gen0
  have := q2.gen1
  omega
/-- Half a disk changed: the other half's records stay. -/
theorem po_mixed {d y : Dk} {h : Nat} {g : Int} {came : List (List UInt8)} {m m' : Int} (k : PO d h g came m) (hm : m ≤ m') (hu : Up y) (hlo : y.loose = []) (hlen : y.secs.length = d.secs.length)
    (hmix : ∀ i, i < d.secs.length → y.look i = d.look i ∨ ((1 - h) * d.half ≤ i ∧ i < (1 - h) * d.half + d.half ∧ (says (y.look i) = none ∨ (i ≠ (1 - h) * d.half ∧ ∃ p, Good p ∧ p.gen ≤ m' ∧ y.look i = p.sec)))) : PO y h g came m' := by
  have hyh := half_len hlen
  have hsame : ∀ i, y.at_ h i = d.at_ h i := fun i => at_same hyh (fun hlt => by
    rcases hmix _ (place_lt k.half hlt) with q | ⟨q1, q2, _⟩
    · exact q
    · have := place_ne (n := d.half) (j := i) k.half (i := h * d.half + i - (1 - h) * d.half) (by omega) hlt
      omega)
  refine ⟨hu, hlo, ?_, k.half, k.holds.same hyh hsame, ?_⟩
  · have hg := k.gen_top
    refine top_le (by have := k.top; omega) (fun i p hi hs => ?_)
    rw [hlen] at hi
    rcases hmix i hi with q | ⟨_, _, q | ⟨_, p', q1, q2, q3⟩⟩
    · rw [q] at hs
      have := top_ge hi hs
      have := k.top
      omega
    · rw [q] at hs; cases hs
    · rw [q3, says_sec q1] at hs
      injection hs with hs
      rw [← hs]; exact q2
  · intro p hp hh
    by_cases hpos : 0 < d.half
    · have hi := place_lt (h := 1 - h) (i := 0) (d := d) (by omega) hpos
      rcases hmix _ hi with q | ⟨_, _, q | ⟨q, _⟩⟩
      · rw [at_same hyh (fun _ => q)] at hp
        exact k.low p hp hh
      · rw [at_none_of (by rw [hyh]; exact q)] at hp; cases hp
      · omega
    · rw [at_none_ge (by rw [hyh]; omega)] at hp; cases hp
def midL (d : Dk) (hb : Nat) (g : Int) (rs : List (List UInt8)) (i : Nat) : Sec := if hb + 1 ≤ i then (match (laidP g rs)[i - (hb + 1)]? with | some p => p.sec | none => d.look i) else d.look i
theorem midL_part {d : Dk} {hb : Nat} {g : Int} {rs : List (List UInt8)} {i : Nat} {p : Part} (h : hb + 1 ≤ i) (hp : (laidP g rs)[i - (hb + 1)]? = some p) : midL d hb g rs i = p.sec := by
  rw [midL, if_pos h, hp]
theorem midL_rest {d : Dk} {hb : Nat} {g : Int} {rs : List (List UInt8)} {i : Nat} (h : hb + 1 ≤ i → (laidP g rs)[i - (hb + 1)]? = none) : midL d hb g rs i = d.look i := by
  unfold midL
  by_cases q : hb + 1 ≤ i
  · rw [if_pos q, h q]
  · rw [if_neg q]
theorem mid_look {d : Dk} {hb : Nat} {g : Int} {rs : List (List UInt8)} (hr : d.right = true) {i : Nat} (hi : i < d.secs.length) :
    ((wrs hb (laidP g rs)).foldl Dk.put (flush d).secs).getD i zeroSec = midL d hb g rs i := by
  have hfl := flush_len d
  have hx : (flush d).secs.getD i zeroSec = d.look i := by rw [← flush_look hr hi, look_plain (d := flush d) rfl]
  rw [← look_ofSecs, look_fold (s := (flush d).secs) (laidP_seq g rs) rfl rfl (by rw [hfl]; exact hi), hx]
  rfl
theorem lay_po {d : Dk} {h : Nat} {g : Int} {came rs : List (List UInt8)} {m : Int} (k : PO d h g came m) (hfit : 1 + totN rs ≤ d.half) (hlen : ∀ r ∈ rs, r.length ≤ 4096) (ht : d.top < 1099511627776) :
    (∃ y g', d.lay (1 - h) rs = (y, logOf (1 - h) g' rs, 0) ∧ g < g' ∧ Inv y (1 - h) g' rs (m + 1) ∧ y.secs.length = d.secs.length ∧ (d.fuse < 0 → y.fuse = d.fuse)) ∨
    (∃ x, d.lay (1 - h) rs = (x, .zero, 9) ∧ 0 ≤ d.fuse ∧ Risk x d.secs.length came rs (m + 1)) := by
  obtain ⟨b1, b2, b3, b4⟩ := bounds_of_right k.up.right
  have hhf : d.half = d.secs.length / 2 := rfl
  have hg := k.gen_top
  have hm := k.top
  have hh : 1 - h ≤ 1 := by omega
  have hbl : (1 - h) * d.half + d.half ≤ d.secs.length := by
    rcases Nat.le_one_iff_eq_zero_or_eq_one.1 hh with q | q <;> rw [q] <;> omega
  rcases lay_cases (rs := rs) k.up hh hfit ht (by rw [k.loose]; simp; omega) with ⟨x, n, h1, h2, h3, h4, h5, h6⟩ | ⟨x, n, h1, h2, h3, h4, h5, h6⟩ | ⟨y, h1, h2, h3, h4, h5⟩
  · right
    rw [k.loose, List.nil_append] at h4
    refine ⟨x, h1, h2, h5, h6, fun fates ff hc => ?_⟩
    obtain ⟨y, f1, f2, f3, f4, f5, f6⟩ := look_fall ((laidP_seq (d.top + 1) rs).take n) h3 h4 h6 fates ff hc
    rw [h3] at f4 f6
    refine ⟨y, f1, f5, f4, .inl ⟨h, g, po_mixed k (by omega) f2 f3 f4 (fun i hi => ?_)⟩⟩
    rcases f6 i hi with q | ⟨p, q1, q2, q3⟩
    · left; rw [q, look_plain k.loose]
    · right
      rw [List.getElem?_take] at q2
      split at q2
      · have hlt := (List.getElem?_eq_some_iff.1 q2).1
        rw [laidP_len] at hlt
        refine ⟨by omega, by omega, ?_⟩
        rcases q3 with q3 | q3
        · exact .inr ⟨by omega, p, laid_good (by omega) (by omega) (by omega) (List.mem_of_getElem? q2), by rw [laidP_gen (List.mem_of_getElem? q2)]; omega, q3⟩
        · exact .inl q3
      · cases q2
  · right
    refine ⟨x, h1, h2, h5, h6, fun fates ff hc => ?_⟩
    obtain ⟨y, f1, f2, f3, f4, f5, f6⟩ := look_fall ((head_seq (d.top + 1) (totN rs)).take n) rfl h4 h6 fates ff hc
    have hxl : x.secs.length = d.secs.length := by rw [h3, fold_length, flush_len]
    rw [hxl] at f4 f6
    have hmid : ∀ i, i < d.secs.length → x.secs.getD i zeroSec = midL d ((1 - h) * d.half) (d.top + 1) rs i := fun i hi => by rw [h3]; exact mid_look k.up.right hi
    have hone : ∀ {i : Nat} {p : Part}, ((1 - h) * d.half + 0 ≤ i) → ([Dk.head (d.top + 1) (totN rs)].take n)[i - ((1 - h) * d.half + 0)]? = some p → i = (1 - h) * d.half ∧ p = Dk.head (d.top + 1) (totN rs) := fun {i p} q1 q2 => by
      rw [List.getElem?_take] at q2
      split at q2
      · have hlt := (List.getElem?_eq_some_iff.1 q2).1
        simp at hlt
        have : i - ((1 - h) * d.half + 0) = 0 := by omega
        rw [this] at q2
        simp at q2
        exact ⟨by omega, q2.symm⟩
      · cases q2
    by_cases hd : y.look ((1 - h) * d.half : Nat) = (Dk.head (d.top + 1) (totN rs)).sec
    · refine ⟨y, f1, f5, f4, .inr ⟨1 - h, d.top + 1, ?_⟩⟩
      have hP := laidP_len (d.top + 1) rs
      have hv : View d y ((1 - h) * d.half) (d.top + 1) rs := by
        refine ⟨f4, hd, fun j p hj => ?_, fun i hi hne hout => ?_⟩
        · have hlt := (List.getElem?_eq_some_iff.1 hj).1
          rcases f6 ((1 - h) * d.half + 1 + j) (by omega) with q | ⟨p', q1, q2, q3⟩
          · rw [q, hmid _ (by omega)]
            exact midL_part (by omega) (by rw [show (1 - h) * d.half + 1 + j - ((1 - h) * d.half + 1) = j by omega]; exact hj)
          · have := (hone q1 q2).1
            omega
        · rcases f6 i hi with q | ⟨p', q1, q2, q3⟩
          · rw [q, hmid _ hi]
            exact midL_rest (fun q4 => List.getElem?_eq_none (by omega))
          · exact absurd (hone q1 q2).1 hne
      exact ((hv.inv f2 f3 hh hfit hlen k.up.right rfl (by omega)).1.mono (by omega)).toPO
    · refine ⟨y, f1, f5, f4, .inl ⟨h, g, po_mixed k (by omega) f2 f3 f4 (fun i hi => ?_)⟩⟩
      rcases f6 i hi with q | ⟨p, q1, q2, q3⟩
      · rw [q, hmid _ hi]
        by_cases q4 : (1 - h) * d.half + 1 ≤ i
        · cases hj : (laidP (d.top + 1) rs)[i - ((1 - h) * d.half + 1)]? with
          | none => left; exact midL_rest (fun _ => hj)
          | some p =>
            right
            rw [midL_part q4 hj]
            have hlt := (List.getElem?_eq_some_iff.1 hj).1
            rw [laidP_len] at hlt
            exact ⟨by omega, by omega, .inr ⟨by omega, p, laid_good (by omega) (by omega) (by omega) (List.mem_of_getElem? hj), by rw [laidP_gen (List.mem_of_getElem? hj)]; omega, rfl⟩⟩
        · left; exact midL_rest (fun q => absurd q q4)
      · obtain ⟨e1, e2⟩ := hone q1 q2
        right
        refine ⟨by omega, by omega, .inl ?_⟩
        rcases q3 with q3 | q3
        · exact absurd (by rw [← e1, q3, e2]) hd
        · exact q3
  · left
    have hv := view_of k.up.right (by omega) h2 h3
    obtain ⟨i1, i2⟩ := hv.inv h4 h3 hh hfit hlen k.up.right rfl (by omega)
    exact ⟨y, d.top + 1, h1, by omega, i1.mono (by omega), i2, h5⟩
end Jp
end Go.Proofs.YtbhjigejpdbeiaaDoor
end

section
/-
  Plain laws of append, compact, open, format, on a journal.
-/
namespace Go.Proofs.YtbhjigejpdbeiaaDoor
attribute [local irreducible] Sha.sum

namespace Jp
theorem able_of {d : Dk} (hu : Up d) (h8 : 8 ≤ d.secs.length) : d.able = 0 := by
  unfold Dk.able
  rw [if_neg (by rintro (q | q); omega; rw [hu.right] at q; cases q), hu.up]; rfl
theorem able_is {d : Dk} (h : d.able = 0) : Up d ∧ 8 ≤ d.secs.length := by
  unfold Dk.able at h
  by_cases q : d.secs.length < 8 ∨ d.right = false
  · rw [if_pos q] at h; cases h
  · rw [if_neg q] at h
    refine ⟨⟨?_, ?_⟩, by have : ¬ d.secs.length < 8 := fun a => q (.inl a); omega⟩
    · cases hr : d.right
      · exact absurd (.inr hr) q
      · rfl
    · cases hd : d.down
      · rfl
      · rw [hd] at h; cases h
theorem Inv.logged {d : Dk} {h : Nat} {g : Int} {came : List (List UInt8)} {m : Int} (k : Inv d h g came m) : d.logged (logOf h g came) = true := by
  have h0 := k.half
  have h1 := k.gen0
  have h2 := k.gen1
  have h3 := k.holds.fits
  have e0 : (logOf h g came).half = (h : Int) := rfl
  have e1 : (logOf h g came).gen = g := rfl
  have e2 : (logOf h g came).used = ((1 + totN came : Nat) : Int) := rfl
  simp only [Dk.logged, Bool.and_eq_true, decide_eq_true_eq, e0, e1, e2]
  refine ⟨⟨⟨⟨⟨?_, ?_⟩, ?_⟩, ?_⟩, ?_⟩, ?_⟩ <;> omega
theorem Inv.ready {d : Dk} {h : Nat} {g : Int} {came : List (List UInt8)} {m : Int} (k : Inv d h g came m) (h8 : 8 ≤ d.secs.length) : d.ready (logOf h g came) = 0 := by
  rw [Dk.ready, if_pos (able_of k.up h8), k.logged]; rfl
theorem Inv.long {d : Dk} {h : Nat} {g : Int} {came : List (List UInt8)} {m : Int} (k : Inv d h g came m) (h8 : 8 ≤ d.secs.length) {r : List UInt8} (hl : 4096 < r.length) : d.append (logOf h g came) r = (d, logOf h g came, 3) := by
  rw [Dk.append, if_pos (k.ready h8), if_pos hl]
theorem Inv.full {d : Dk} {h : Nat} {g : Int} {came : List (List UInt8)} {m : Int} (k : Inv d h g came m) (h8 : 8 ≤ d.secs.length) {r : List UInt8} (hl : r.length ≤ 4096) (hf : d.half < 1 + totN came + sizeN r.length) : d.append (logOf h g came) r = (d, logOf h g came, 10) := by
  rw [Dk.append, if_pos (k.ready h8), if_neg (by omega), if_pos (by show (d.half : Int) - ((1 + totN came : Nat) : Int) < _; omega)]
theorem parts_seq (r : List UInt8) (g : Int) (u : Nat) : Seq u (Dk.parts r g (u : Int)) := fun i p hp => by
  rw [(parts_at hp).2]
  show (u : Int) + (i : Int) = _
  omega
theorem totN_snoc (came : List (List UInt8)) (r : List UInt8) : totN (came ++ [r]) = totN came + sizeN r.length := by
  rw [totN_append]; simp [totN]
theorem hold_snoc {d y : Dk} {h : Nat} {g : Int} {came : List (List UInt8)} {m : Int} (k : Inv d h g came m) {r : List UInt8} (hl : r.length ≤ 4096) (hf : 1 + totN came + sizeN r.length ≤ d.half) (hyh : y.half = d.half)
    (hlow : ∀ i, i < 1 + totN came → y.at_ h i = d.at_ h i) (hhigh : ∀ i, 1 + totN came + sizeN r.length ≤ i → y.at_ h i = d.at_ h i) (hp : ∀ j, j < sizeN r.length → y.at_ h (1 + totN came + j) = some (Dk.partN r g (1 + totN came : Nat) j)) :
    Holds y h g (came ++ [r]) ∧ ∀ i p, 1 + totN (came ++ [r]) ≤ i → y.at_ h i = some p → p.gen ≠ g := by
  have hfresh : ∀ i p, 1 + totN (came ++ [r]) ≤ i → y.at_ h i = some p → p.gen ≠ g := fun i p hi hip => by
    rw [totN_snoc] at hi
    rw [hhigh i (by omega)] at hip
    exact k.fresh i p (by omega) hip
  refine ⟨⟨?_, ?_, by rw [totN_snoc, hyh]; omega, ?_⟩, hfresh⟩
  · obtain ⟨a, b, p, h1, h2, h3, h4⟩ := k.holds.head
    exact ⟨a, b ++ [r], p, by rw [h1, List.append_assoc], by rw [hlow 0 (by omega)]; exact h2, h3, h4⟩
  · exact stand_append.2 ⟨stand_same k.holds.stand (fun i _ h2 => hlow i h2), hl, hp, trivial⟩
  · cases ha : y.at_ h (1 + totN (came ++ [r])) with
    | none => exact one_none (.inl ha)
    | some p => exact one_none (.inr ⟨p, ha, hfresh _ p (Nat.le_refl _) ha⟩)
theorem Inv.append {d : Dk} {h : Nat} {g : Int} {came : List (List UInt8)} {m : Int} (k : Inv d h g came m) (h8 : 8 ≤ d.secs.length) {r : List UInt8} (hl : r.length ≤ 4096) (hf : 1 + totN came + sizeN r.length ≤ d.half) :
    (∃ y, d.append (logOf h g came) r = (y, logOf h g (came ++ [r]), 0) ∧ Inv y h g (came ++ [r]) m ∧ y.secs.length = d.secs.length ∧ (d.fuse < 0 → y.fuse = d.fuse)) ∨
    (∃ x, d.append (logOf h g came) r = (x, logOf h g came, 9) ∧ 0 ≤ d.fuse ∧ Risk x d.secs.length came (came ++ [r]) m) := by
  obtain ⟨b1, b2, b3, b4⟩ := bounds_of_right k.up.right
  have hhf : d.half = d.secs.length / 2 := rfl
  have hgt := k.gen_top
  have htop := k.top
  obtain ⟨s1, s2, s3, s4, s5, s6⟩ := sizeN_pos hl
  have hbl : h * d.half + d.half ≤ d.secs.length := by
    rcases Nat.le_one_iff_eq_zero_or_eq_one.1 k.half with q | q <;> rw [q] <;> omega
  have hgood : ∀ j, j < sizeN r.length → Good (Dk.partN r g (1 + totN came : Nat) j) := fun j hj => partN_good k.gen0 k.gen1 (by omega)
  have hput : d.append (logOf h g came) r = match d.puts h (Dk.parts r g ((1 + totN came : Nat) : Int)) with
      | (x, e) => if e = 0 then (x, logOf h g (came ++ [r]), 0) else (x, logOf h g came, e) := by
    rw [Dk.append, if_pos (k.ready h8), if_neg (by omega), if_neg (by show ¬ (d.half : Int) - ((1 + totN came : Nat) : Int) < _; omega)]
    have e1 : (logOf h g came).half.toNat = h := by simp [logOf]
    rw [e1]
    have e2 : ({ logOf h g came with used := (logOf h g came).used + ((sizeN r.length : Nat) : Int) } : Dk.Log) = logOf h g (came ++ [r]) := by
      simp only [logOf, totN_snoc]
      congr 1
      omega
    rw [e2]
    rfl
  rw [hput]
  have hpl : (Dk.parts r g ((1 + totN came : Nat) : Int)).length = sizeN r.length := Dk.parts_length _ _ _
  rcases puts_cases h (Dk.parts r g ((1 + totN came : Nat) : Int)) d k.up (fits_of (parts_seq r g _) k.half (by rw [hpl]; exact hf)) (by rw [k.loose, hpl]; simp; omega) with ⟨x, n, h1, h2, h3, h4, h5, h6, h7⟩ | ⟨x, h1, h2, h3, h4, h5⟩
  · right
    rw [h1]
    rw [k.loose, List.nil_append] at h5
    refine ⟨x, rfl, h2, h6, h7, fun fates ff hc => ?_⟩
    obtain ⟨y, f1, f2, f3, f4, f5, f6⟩ := look_fall ((parts_seq r g (1 + totN came)).take n) h4 h5 h7 fates ff hc
    rw [h4] at f4 f6
    refine ⟨y, f1, f5, f4, ?_⟩
    have hyh := half_len f4
    have hv : ∀ i, i < d.secs.length → y.look i = d.look i ∨ ∃ j, j < sizeN r.length ∧ i = h * d.half + (1 + totN came + j) ∧ (y.look i = (Dk.partN r g (1 + totN came : Nat) j).sec ∨ says (y.look i) = none) := fun i hi => by
      rcases f6 i hi with q | ⟨p, q1, q2, q3⟩
      · left; rw [q, look_plain k.loose]
      · right
        rw [List.getElem?_take] at q2
        split at q2
        · obtain ⟨q4, q5⟩ := parts_at q2
          rw [q5] at q3
          exact ⟨i - (h * d.half + (1 + totN came)), q4, by omega, q3⟩
        · cases q2
    have hat : ∀ i, (i < 1 + totN came ∨ 1 + totN came + sizeN r.length ≤ i) → y.at_ h i = d.at_ h i := fun i hi => at_same hyh (fun hlt => by
      rcases hv _ (place_lt k.half hlt) with q | ⟨j, q1, q2, _⟩
      · exact q
      · omega)
    have hoth : ∀ i, y.at_ (1 - h) i = d.at_ (1 - h) i := fun i => at_same hyh (fun hlt => by
      rcases hv ((1 - h) * d.half + i) (place_lt (by omega) hlt) with q | ⟨j, q1, q2, _⟩
      · exact q
      · have := place_ne (n := d.half) k.half hlt (j := 1 + totN came + j) (by omega)
        omega)
    have htop2 : y.top ≤ m := top_le (by omega) (fun i p hi hs => by
      rw [f4] at hi
      rcases hv i hi with q | ⟨j, q1, q2, q3 | q3⟩
      · rw [q] at hs
        have := top_ge hi hs
        omega
      · rw [q3, says_sec (hgood j q1)] at hs
        injection hs with hs
        rw [← hs]
        show g ≤ m
        omega
      · rw [q3] at hs; cases hs)
    have hlow : Low y (1 - h) g := k.low.same (hoth 0)
    by_cases hall : ∀ j, j < sizeN r.length → y.at_ h (1 + totN came + j) = some (Dk.partN r g (1 + totN came : Nat) j)
    · right
      exact ⟨h, g, f2, f3, htop2, k.half, (hold_snoc k hl hf hyh (fun i hi => hat i (.inl hi)) (fun i hi => hat i (.inr hi)) hall).1, hlow⟩
    · left
      refine ⟨h, g, f2, f3, htop2, k.half, ⟨?_, ?_, by rw [hyh]; exact k.holds.fits, ?_⟩, hlow⟩
      · obtain ⟨a, b, p, e1, e2, e3, e4⟩ := k.holds.head
        exact ⟨a, b, p, e1, by rw [hat 0 (.inl (by omega))]; exact e2, e3, e4⟩
      · exact stand_same k.holds.stand (fun i _ q => hat i (.inl q))
      · -- the first part that lacks
        have hmin : ∀ n, (∃ j, j < n ∧ j < sizeN r.length ∧ y.at_ h (1 + totN came + j) ≠ some (Dk.partN r g (1 + totN came : Nat) j)) → ∃ j, j < sizeN r.length ∧ y.at_ h (1 + totN came + j) ≠ some (Dk.partN r g (1 + totN came : Nat) j) ∧ ∀ i, i < j → y.at_ h (1 + totN came + i) = some (Dk.partN r g (1 + totN came : Nat) i) := by
          intro n
          induction n with
          | zero => rintro ⟨j, hj, _⟩; omega
          | succ n ih =>
            rintro ⟨j, hj, hj2, hj3⟩
            by_cases q : ∃ j, j < n ∧ j < sizeN r.length ∧ y.at_ h (1 + totN came + j) ≠ some (Dk.partN r g (1 + totN came : Nat) j)
            · exact ih q
            · refine ⟨j, hj2, hj3, fun i hi => ?_⟩
              refine Classical.byContradiction fun hc => q ⟨i, by omega, by omega, hc⟩
        have hex : ∃ j, j < sizeN r.length ∧ y.at_ h (1 + totN came + j) ≠ some (Dk.partN r g (1 + totN came : Nat) j) := by
          refine Classical.byContradiction fun hc => hall (fun j hj => Classical.byContradiction fun hc2 => hc ⟨j, hj, hc2⟩)
        obtain ⟨j0, hj0, hj1⟩ := hex
        obtain ⟨j, hj, hj2, hj3⟩ := hmin (sizeN r.length) ⟨j0, hj0, hj0, hj1⟩
        refine one_broken hl hj hj3 ?_
        have hlt : 1 + totN came + j < d.half := by omega
        rcases hv _ (place_lt k.half hlt) with q | ⟨j', q1, q2, q3 | q3⟩
        · have he : y.at_ h (1 + totN came + j) = d.at_ h (1 + totN came + j) := at_same hyh (fun _ => q)
          cases ha : d.at_ h (1 + totN came + j) with
          | none => exact .inl (he.trans ha)
          | some p => exact .inr ⟨p, he.trans ha, k.fresh _ p (by omega) ha⟩
        · have : j' = j := by omega
          subst this
          refine absurd (at_of (by rw [hyh]; exact hlt) (hgood j' hj) ?_ (by rw [hyh]; exact q3)) hj2
          show ((1 + totN came : Nat) : Int) + (j' : Int) = _
          omega
        · exact .inl (at_none_of (by rw [hyh]; exact q3))
  · left
    rw [h1]
    rw [k.loose, List.nil_append] at h2
    have hlen : x.secs.length = d.secs.length := by rw [h2, fold_length]
    have hyh := half_len hlen
    have hv : ∀ i, i < d.secs.length → x.look i = if h * d.half + (1 + totN came) ≤ i then (match (Dk.parts r g ((1 + totN came : Nat) : Int))[i - (h * d.half + (1 + totN came))]? with | some p => p.sec | none => d.secs.getD i zeroSec) else d.secs.getD i zeroSec :=
      fun i hi => look_fold (parts_seq r g _) h2 h3 hi
    have hrest : ∀ i, i < d.secs.length → (i < h * d.half + (1 + totN came) ∨ h * d.half + (1 + totN came) + sizeN r.length ≤ i) → x.look i = d.look i := fun i hi ho => by
      rw [hv i hi, look_plain k.loose]
      by_cases q : h * d.half + (1 + totN came) ≤ i
      · rw [if_pos q, List.getElem?_eq_none (by rw [hpl]; omega)]
      · rw [if_neg q]
    have hpart : ∀ j, j < sizeN r.length → x.look ((h * d.half + (1 + totN came) + j : Nat) : Int) = (Dk.partN r g (1 + totN came : Nat) j).sec := fun j hj => by
      rw [hv _ (by omega), if_pos (by omega), show h * d.half + (1 + totN came) + j - (h * d.half + (1 + totN came)) = j by omega, parts_get hj]
    have hat : ∀ i, (i < 1 + totN came ∨ 1 + totN came + sizeN r.length ≤ i) → x.at_ h i = d.at_ h i := fun i hi => at_same hyh (fun hlt => hrest _ (place_lt k.half hlt) (by omega))
    have hall : ∀ j, j < sizeN r.length → x.at_ h (1 + totN came + j) = some (Dk.partN r g (1 + totN came : Nat) j) := fun j hj => by
      refine at_of (by rw [hyh]; omega) (hgood j hj) ?_ (by rw [hyh, ← Nat.add_assoc]; exact hpart j hj)
      show ((1 + totN came : Nat) : Int) + (j : Int) = _
      omega
    have hoth : ∀ i, x.at_ (1 - h) i = d.at_ (1 - h) i := fun i => at_same hyh (fun hlt => by
      refine hrest ((1 - h) * d.half + i) (place_lt (by omega) hlt) ?_
      by_cases q : (1 - h) * d.half + i < h * d.half + (1 + totN came)
      · exact .inl q
      · right
        rcases Nat.le_one_iff_eq_zero_or_eq_one.1 k.half with q2 | q2
        · rw [q2] at q ⊢; omega
        · rw [q2] at q; omega)
    obtain ⟨k1, k2⟩ := hold_snoc k hl hf hyh (fun i hi => hat i (.inl hi)) (fun i hi => hat i (.inr hi)) hall
    have hux := up_of_len k.up hlen h3 h4
    refine ⟨x, rfl, ⟨⟨hux, h3, ?_, k.half, k1, k.low.same (hoth 0)⟩, k.gen0, k.gen1, k2⟩, hlen, h5⟩
    refine top_le (by omega) (fun i p hi hs => ?_)
    rw [hlen] at hi
    by_cases q : i < h * d.half + (1 + totN came) ∨ h * d.half + (1 + totN came) + sizeN r.length ≤ i
    · rw [hrest i hi q] at hs
      have := top_ge hi hs
      omega
    · obtain ⟨j, hj, hj2⟩ : ∃ j, i = h * d.half + (1 + totN came) + j ∧ j < sizeN r.length := ⟨i - (h * d.half + (1 + totN came)), by omega, by omega⟩
      rw [hj, hpart j hj2, says_sec (hgood j hj2)] at hs
      injection hs with hs
      rw [← hs]
      show g ≤ m
      omega
theorem want_tot : ∀ (rs : List (List UInt8)) (n : Nat), (∀ r ∈ rs, r.length ≤ 4096) → Dk.wantF rs n = some (n + totN rs)
  | [], n, _ => by simp [Dk.wantF, totN]
  | r :: rs, n, h => by
    rw [Dk.wantF, if_neg (by have := h r (List.mem_cons_self ..); omega), want_tot rs _ (fun x hx => h x (List.mem_cons_of_mem _ hx)), totN, Nat.add_assoc]
theorem Inv.compact {d : Dk} {h : Nat} {g : Int} {came rs : List (List UInt8)} {m : Int} (k : Inv d h g came m) (h8 : 8 ≤ d.secs.length) (hfit : 1 + totN rs ≤ d.half) (hlen : ∀ r ∈ rs, r.length ≤ 4096) (ht : m < 1099511627776) :
    (∃ y g', d.compact (logOf h g came) rs = (y, logOf (1 - h) g' rs, 0) ∧ Inv y (1 - h) g' rs (m + 1) ∧ y.secs.length = d.secs.length ∧ (d.fuse < 0 → y.fuse = d.fuse)) ∨
    (∃ x, d.compact (logOf h g came) rs = (x, logOf h g came, 9) ∧ 0 ≤ d.fuse ∧ Risk x d.secs.length came rs (m + 1)) := by
  have hh := k.half
  have e1 : (1 - (logOf h g came).half).toNat = 1 - h := by simp only [logOf]; omega
  have htop := k.top
  rw [Dk.compact, if_pos (k.ready h8), want_tot rs 1 hlen]
  dsimp only
  rw [if_neg (by omega), e1]
  rcases lay_po k.toPO hfit hlen (by omega) with ⟨y, g', h1, h2, h3, h4, h5⟩ | ⟨x, h1, h2, h3⟩
  · left
    rw [h1]
    exact ⟨y, g', rfl, h3, h4, h5⟩
  · right
    rw [h1]
    exact ⟨x, rfl, h2, h3⟩
/-- A journal is opened. -/
theorem PO.open_ {d : Dk} {h : Nat} {g : Int} {came : List (List UInt8)} {m : Int} (k : PO d h g came m) (h8 : 8 ≤ d.secs.length) (ht : d.top < 1099511627776) :
    (∃ y g', d.open_ = (y, logOf (1 - h) g' came, came, 0) ∧ g < g' ∧ Inv y (1 - h) g' came (m + 1) ∧ y.secs.length = d.secs.length ∧ (d.fuse < 0 → y.fuse = d.fuse)) ∨
    (∃ x, d.open_ = (x, .zero, [], 9) ∧ 0 ≤ d.fuse ∧ Risk x d.secs.length came came (m + 1)) := by
  rw [Dk.open_, if_pos (able_of k.up h8), k.best]
  dsimp only
  rcases lay_po k (rs := came) k.holds.fits (stand_len k.holds.stand) ht with ⟨y, g', h1, h2, h3, h4, h5⟩ | ⟨x, h1, h2, h3⟩
  · left
    rw [h1]
    exact ⟨y, g', rfl, h2, h3, h4, h5⟩
  · right
    rw [h1]
    exact ⟨x, rfl, h2, h3⟩
/-- A new disk is formatted. -/
theorem format_new {n : Nat} (h8 : 8 ≤ n) (hn : n ≤ 2048) : ∃ d y, Dk.new (n : Int) = (d, 0) ∧ d.format = (y, logOf 0 1 [], 0) ∧ Inv y 0 1 [] 1 ∧ y.secs.length = n ∧ y.fuse = -1 := by
  obtain ⟨d, hd⟩ : ∃ d, d = Dk.mk (List.replicate n zeroSec) [] (-1) false := ⟨_, rfl⟩
  have hl : d.secs.length = n := by rw [hd]; simp
  have hlo : d.loose = [] := by rw [hd]
  have hfu : d.fuse = -1 := by rw [hd]
  have hu : Up d := ⟨right_of (by omega) (by omega) (by rw [hlo]; simp) (fun x hx => by rw [hlo] at hx; cases hx), by rw [hd]⟩
  have hhf : d.half = d.secs.length / 2 := rfl
  have hz : says zeroSec = none := by
    have : goodS zeroSec = false := by
      have h1 : (rawP zeroSec).gen = 0 := by decide
      unfold goodS
      rw [h1]
      simp
    rw [says, this]; rfl
  have htop : d.top = 0 := by
    have h1 : d.top ≤ 0 := top_le (Int.le_refl _) (fun i p hi hs => by
      rw [look_plain hlo, hd] at hs
      have : (List.replicate n zeroSec).getD i zeroSec = zeroSec := by
        rw [List.getD_eq_getElem?_getD, List.getElem?_replicate]
        split <;> rfl
      rw [this, hz] at hs; cases hs)
    have := top_pos d
    omega
  refine ⟨d, ?_⟩
  have hnew : Dk.new (n : Int) = (d, 0) := by
    rw [Dk.new, if_pos (by omega), hd]; rfl
  rcases lay_cases (d := d) (h := 0) (rs := []) hu (by omega) (by simp [totN]; omega) (by omega) (by rw [hlo]; simp [totN]) with ⟨x, k, h1, h2, _⟩ | ⟨x, k, h1, h2, _⟩ | ⟨y, h1, h2, h3, h4, h5⟩
  · omega
  · omega
  · have hv := view_of hu.right (by simp [totN]; omega) h2 h3
    obtain ⟨i1, i2⟩ := hv.inv h4 h3 (by omega) (by simp [totN]; omega) (fun r hr => by cases hr) hu.right rfl (by omega)
    rw [htop] at h1 i1
    refine ⟨y, hnew, ?_, i1, i2.trans hl, by rw [h5 (by omega), hfu]⟩
    rw [Dk.format, if_pos (able_of hu (by omega)), h1]
    rfl
end Jp
end Go.Proofs.YtbhjigejpdbeiaaDoor
end

section
/-
  Plain laws of opening again, and of the records of a journal.
-/
namespace Go.Proofs.YtbhjigejpdbeiaaDoor
attribute [local irreducible] Sha.sum

namespace Jp
theorem best_used {d : Dk} {rs : List (List UInt8)} {h : Nat} (hb : d.best = some (rs, h)) : h ≤ 1 ∧ ∃ g u, d.used h = some (rs, g, u) := by
  unfold Dk.best at hb
  cases h0 : d.used 0 with
  | none =>
    cases h1 : d.used 1 with
    | none => rw [h0, h1] at hb; cases hb
    | some b => rw [h0, h1] at hb; cases hb; exact ⟨by omega, b.2.1, b.2.2, h1⟩
  | some a =>
    cases h1 : d.used 1 with
    | none => rw [h0, h1] at hb; cases hb; exact ⟨by omega, a.2.1, a.2.2, h0⟩
    | some b =>
      rw [h0, h1] at hb
      dsimp only at hb
      by_cases q : a.2.1 < b.2.1
      · rw [if_pos q] at hb; cases hb; exact ⟨by omega, b.2.1, b.2.2, h1⟩
      · rw [if_neg q] at hb; cases hb; exact ⟨by omega, a.2.1, a.2.2, h0⟩
theorem open_bad {d : Dk} (h : d.able ≠ 0) : d.open_ = (d, .zero, [], d.able) := by rw [Dk.open_, if_neg h]
theorem open_none {d : Dk} (h : d.able = 0) (hb : d.best = none) : d.open_ = (d, .zero, [], 20) := by rw [Dk.open_, if_pos h, hb]
theorem open_some {d : Dk} (h : d.able = 0) {rs : List (List UInt8)} {hf : Nat} (hb : d.best = some (rs, hf)) {x : Dk} {l : Dk.Log} {e : Int} (hl : d.lay (1 - hf) rs = (x, l, e)) : d.open_ = (x, l, if e = 0 then rs else [], e) := by
  rw [Dk.open_, if_pos h, hb]
  dsimp only
  rw [hl]
  dsimp only
  by_cases q : e = 0
  · rw [if_pos q, if_pos q, q]
  · rw [if_neg q, if_neg q]
/-- What is opened of any disk may be opened again. -/
theorem again {d x : Dk} {l : Dk.Log} {r : List (List UInt8)} {e : Int} (hsz : d.secs.length ≤ 2000) (hlo : d.loose.length ≤ 1000) (hf : d.fuse < 0) (ho : d.open_ = (x, l, r, e)) :
    (e ≠ 0 → r = []) ∧ (e = 0 → ∃ h g, PO x h g r x.top ∧ 8 ≤ x.secs.length ∧ x.secs.length = d.secs.length ∧ x.fuse < 0) := by
  by_cases ha : d.able = 0
  case neg =>
    rw [open_bad ha] at ho
    injection ho with _ ho; injection ho with _ ho; injection ho with h1 h2
    exact ⟨fun _ => h1.symm, fun q => absurd (h2.trans q) ha⟩
  cases hb : d.best with
  | none =>
    rw [open_none ha hb] at ho
    injection ho with _ ho; injection ho with _ ho; injection ho with h1 h2
    exact ⟨fun _ => h1.symm, fun q => by rw [← h2] at q; cases q⟩
  | some b =>
    obtain ⟨rs, h⟩ := b
    obtain ⟨hh, g, u, hu⟩ := best_used hb
    obtain ⟨s1, s2, s3, s4⟩ := used_shape hu
    obtain ⟨hup, h8⟩ := able_is ha
    have hhf : d.half = d.secs.length / 2 := rfl
    by_cases ht : d.top < 1099511627776
    case neg =>
      have hl : d.lay (1 - h) rs = (d, .zero, 5) := by rw [Dk.lay, if_pos (by omega)]
      rw [open_some ha hb hl, if_neg (by decide)] at ho
      injection ho with _ ho; injection ho with _ ho; injection ho with h1 h2
      exact ⟨fun _ => h1.symm, fun q => by rw [← h2] at q; cases q⟩
    rcases lay_cases (rs := rs) (h := 1 - h) hup (by omega) s3 ht (by omega) with ⟨y, k, h1, h2, _⟩ | ⟨y, k, h1, h2, _⟩ | ⟨y, h1, h2, h3, h4, h5⟩
    · omega
    · omega
    · rw [open_some ha hb h1, if_pos rfl] at ho
      injection ho with e1 ho; injection ho with _ ho; injection ho with e2 e3
      subst e1; subst e2; subst e3
      refine ⟨fun q => absurd rfl q, fun _ => ?_⟩
      have hbl : (1 - h) * d.half + d.half ≤ d.secs.length := by
        rcases Nat.le_one_iff_eq_zero_or_eq_one.1 (show 1 - h ≤ 1 by omega) with q | q <;> rw [q] <;> omega
      have hv := view_of hup.right (by omega) h2 h3
      obtain ⟨i1, i2⟩ := hv.inv h4 h3 (by omega) s3 (stand_len s1) hup.right rfl (by omega)
      exact ⟨1 - h, d.top + 1, ⟨i1.up, i1.loose, Int.le_refl _, i1.half, i1.holds, i1.low⟩, by omega, i2, by rw [h5 hf]; exact hf⟩
theorem Inv.records {d : Dk} {h : Nat} {g : Int} {came : List (List UInt8)} {m : Int} (k : Inv d h g came m) (h8 : 8 ≤ d.secs.length) : d.records (h : Int) = some (came, g) := by
  have := k.half
  rw [Dk.records, if_pos ⟨by omega, by omega, able_of k.up h8⟩, show ((h : Int)).toNat = h by omega, k.holds.used]
  rfl
theorem PO.arm {d : Dk} {h : Nat} {g : Int} {came : List (List UInt8)} {m : Int} (k : PO d h g came m) (f : Int) : PO (d.arm f) h g came m := by
  have hat : ∀ h' i, (d.arm f).at_ h' i = d.at_ h' i := fun _ _ => rfl
  refine ⟨⟨k.up.right, k.up.up⟩, k.loose, ?_, k.half, k.holds.same rfl (hat h), k.low.same (hat _ 0)⟩
  have := k.top
  have := top_pos d
  refine top_le (by omega) (fun i p hi hs => ?_)
  have := top_ge (d := d) hi hs
  omega
theorem Inv.arm {d : Dk} {h : Nat} {g : Int} {came : List (List UInt8)} {m : Int} (k : Inv d h g came m) (f : Int) : Inv (d.arm f) h g came m :=
  ⟨k.toPO.arm f, k.gen0, k.gen1, fun i p hi hp => k.fresh i p hi hp⟩
/-- A fall where nothing is loose. -/
theorem PO.fall {d : Dk} {h : Nat} {g : Int} {came : List (List UInt8)} {m : Int} (k : PO d h g came m) (fates : List (UInt8 × UInt8)) (ff : Int) :
    ∃ y, d.fall fates ff = (y, 0) ∧ PO y h g came m ∧ y.fuse = max ff (-1) ∧ y.secs.length = d.secs.length := by
  have hd : d.fall fates ff = (Dk.arm d ff, 0) := by
    obtain ⟨s, lo, f, dn⟩ := d
    have h1 : lo = [] := k.loose
    have h2 : dn = false := k.up.up
    subst h1; subst h2
    rw [Dk.fall, if_pos k.up.right]; rfl
  exact ⟨_, hd, k.arm ff, rfl, rfl⟩
/-- The fixed fact of each statement, in plain. -/
theorem alive_plain : ∃ d d1 d2 d3 r, Dk.new 8 = (d, 0) ∧ d.format = (d1, ⟨0, 1, 1⟩, 0) ∧ d1.append ⟨0, 1, 1⟩ (List.replicate 150 0) = (d2, ⟨0, 1, 3⟩, 0) ∧ d2.open_ = (d3, ⟨1, 2, 3⟩, [r], 0) ∧ r.length = 150 ∧ d1.secs.length = 8 := by
  obtain ⟨d, y, h1, h2, h3, h4, h5⟩ := format_new (n := 8) (by omega) (by omega)
  have hl : (List.replicate 150 (0 : UInt8)).length = 150 := by simp
  have hs : sizeN 150 = 2 := by decide
  have hhf : y.half = y.secs.length / 2 := rfl
  rcases h3.append (r := List.replicate 150 0) (by omega) (by rw [hl]; omega) (by rw [hl, hs, hhf, h4]; simp [totN]) with ⟨z, a1, a2, a3, a4⟩ | ⟨x, a1, a2, _⟩
  · have ht : z.top < 1099511627776 := by have := a2.top; omega
    rcases a2.toPO.open_ (by omega) ht with ⟨w, g', b1, b2, b3, b4, b5⟩ | ⟨x, b1, b2, _⟩
    · have hg : g' = 2 := by
        have := b3.toPO.gen_top
        have := b3.top
        omega
      subst hg
      exact ⟨d, y, z, w, _, h1, h2, by
        rw [show (⟨0, 1, 1⟩ : Dk.Log) = logOf 0 1 [] from rfl, a1]
        simp only [logOf, totN, List.nil_append, hl, hs]; rfl, by
        rw [b1]
        simp only [logOf, totN, List.nil_append, hl, hs]; rfl, hl, h4⟩
    · have := a4 (by omega); omega
  · omega
end Jp
end Go.Proofs.YtbhjigejpdbeiaaDoor
end

section
/-
  Plain laws for a play of acts and falls on a journal.
-/
namespace Go.Proofs.YtbhjigejpdbeiaaDoor
attribute [local irreducible] Sha.sum

namespace Jp
theorem Risk.mono {x : Dk} {n : Nat} {a b : List (List UInt8)} {m m' : Int} (k : Risk x n a b m) (h : m ≤ m') : Risk x n a b m' :=
  ⟨k.down, k.right, fun fates ff hc => by
    obtain ⟨y, h1, h2, h3, h4⟩ := k.fall fates ff hc
    exact ⟨y, h1, h2, h3, h4.imp (fun q => q.mono h) (fun q => q.mono h)⟩⟩
/-- A journal of 200 sectors between acts. -/
structure Jrn (d : Dk) (l : Dk.Log) (came : List (List UInt8)) (m : Int) : Prop where
  inv : ∃ h g, Inv d h g came m ∧ l = logOf h g came
  len : d.secs.length = 200
theorem Jrn.mono {d : Dk} {l : Dk.Log} {came : List (List UInt8)} {m m' : Int} (k : Jrn d l came m) (h : m ≤ m') : Jrn d l came m' := by
  obtain ⟨⟨a, g, k1, k2⟩, k3⟩ := k
  exact ⟨⟨a, g, k1.mono h, k2⟩, k3⟩
theorem Jrn.small {d : Dk} {l : Dk.Log} {came : List (List UInt8)} {m : Int} (k : Jrn d l came m) : came.length ≤ 100 ∧ ∀ r ∈ came, r.length ≤ 4096 := by
  obtain ⟨⟨a, g, k1, k2⟩, k3⟩ := k
  have h1 := stand_len k1.holds.stand
  have h2 := totN_ge h1
  have h3 := k1.holds.fits
  have h4 : d.half = d.secs.length / 2 := rfl
  exact ⟨by omega, h1⟩
/-- What an act leaves: the error, and where the journal is. -/
inductive Done (d : Dk) (came perh : List (List UInt8)) (X : Dk) (l : Dk.Log) (m : Int) : Int → Prop where
  | ok : Jrn X l perh m → (d.fuse < 0 → X.fuse < 0) → Done d came perh X l m 0
  | down : 0 ≤ d.fuse → X.secs.length ≤ 100000 → Risk X 200 came perh m → Done d came perh X l m 9
  | same (er : Int) : (er = 3 ∨ er = 10) → Jrn X l came m → (d.fuse < 0 → X.fuse < 0) → Done d came perh X l m er
theorem Jrn.append {d : Dk} {l : Dk.Log} {came : List (List UInt8)} {m : Int} (k : Jrn d l came m) (r : List UInt8) {X : Dk} {l2 : Dk.Log} {er : Int} (hX : d.append l r = (X, l2, er)) : Done d came (came ++ [r]) X l2 m er := by
  obtain ⟨⟨h, g, k1, rfl⟩, k3⟩ := k
  have hhf : d.half = d.secs.length / 2 := rfl
  by_cases hl : 4096 < r.length
  · have := k1.long (by omega) hl
    rw [hX] at this
    injection this with e1 e2
    injection e2 with e2 e3
    subst e1 e2 e3
    exact .same 3 (.inl rfl) ⟨⟨h, g, k1, rfl⟩, k3⟩ (fun q => q)
  by_cases hf : d.half < 1 + totN came + sizeN r.length
  · have := k1.full (by omega) (by omega) hf
    rw [hX] at this
    injection this with e1 e2
    injection e2 with e2 e3
    subst e1 e2 e3
    exact .same 10 (.inr rfl) ⟨⟨h, g, k1, rfl⟩, k3⟩ (fun q => q)
  rcases k1.append (by omega) (r := r) (by omega) (by omega) with ⟨y, h1, h2, h3, h4⟩ | ⟨x, h1, h2, h3⟩
  · rw [hX] at h1
    injection h1 with e1 e2
    injection e2 with e2 e3
    subst e1 e2 e3
    exact .ok ⟨⟨h, g, h2, rfl⟩, by omega⟩ (fun q => by rw [h4 q]; exact q)
  · rw [hX] at h1
    injection h1 with e1 e2
    injection e2 with e2 e3
    subst e1 e2 e3
    rw [k3] at h3
    exact .down h2 (by have := (bounds_of_right h3.right).2.1; omega) h3
theorem Jrn.compact {d : Dk} {l : Dk.Log} {came : List (List UInt8)} {m : Int} (k : Jrn d l came m) (ht : m < 1099511627776) (i : Nat) {X : Dk} {l2 : Dk.Log} {er : Int} (hX : d.compact l (came.drop i) = (X, l2, er)) : (er = 0 ∨ er = 9) ∧ Done d came (came.drop i) X l2 (m + 1) er := by
  have hs := k.small
  obtain ⟨⟨h, g, k1, rfl⟩, k3⟩ := k
  have h1 := totN_drop came i
  have h2 := k1.holds.fits
  rcases k1.compact (by omega) (rs := came.drop i) (by omega) (fun r hr => hs.2 r (List.mem_of_mem_drop hr)) ht with ⟨y, g', h1, h2, h3, h4⟩ | ⟨x, h1, h2, h3⟩
  · rw [hX] at h1
    injection h1 with e1 e2
    injection e2 with e2 e3
    subst e1 e2 e3
    exact ⟨.inl rfl, .ok ⟨⟨1 - h, g', h2, rfl⟩, by omega⟩ (fun q => by rw [h4 q]; exact q)⟩
  · rw [hX] at h1
    injection h1 with e1 e2
    injection e2 with e2 e3
    subst e1 e2 e3
    rw [k3] at h3
    exact ⟨.inr rfl, .down h2 (by have := (bounds_of_right h3.right).2.1; omega) h3⟩
/-- Before the power goes: the acts have ended, or the power went in one. -/
structure Ends (x : Dk) (dn : Bool) (came perh : List (List UInt8)) (m : Int) : Prop where
  right : x.right = true
  fall : ∀ fates ff, chance x fates = false → ∃ y R, x.fall fates ff = (y, 0) ∧ y.fuse = max ff (-1) ∧ y.secs.length = 200 ∧ Opn y R m ∧ (R = came ∨ dn = true ∧ R = perh)
theorem Jrn.ends {d : Dk} {l : Dk.Log} {came : List (List UInt8)} {m : Int} (k : Jrn d l came m) (perh : List (List UInt8)) : Ends d false came perh m := by
  obtain ⟨⟨h, g, k1, rfl⟩, k3⟩ := k
  refine ⟨k1.up.right, fun fates ff _ => ?_⟩
  obtain ⟨y, h1, h2, h3, h4⟩ := k1.toPO.fall fates ff
  exact ⟨y, came, h1, h3, by omega, ⟨h, g, h2⟩, .inl rfl⟩
theorem Risk.ends {d : Dk} {came perh : List (List UInt8)} {m : Int} (k : Risk d 200 came perh m) : Ends d true came perh m :=
  ⟨k.right, fun fates ff hc => by
    obtain ⟨y, h1, h2, h3, h4⟩ := k.fall fates ff hc
    rcases h4 with h4 | h4
    · exact ⟨y, came, h1, h2, h3, h4, .inl rfl⟩
    · exact ⟨y, perh, h1, h2, h3, h4, .inr ⟨rfl, rfl⟩⟩⟩
/-- What is opened: a journal, or the power has gone. -/
theorem Opn.opens {y : Dk} {R : List (List UInt8)} {m : Int} (k : Opn y R m) (hs : y.secs.length = 200) (ht : m < 1099511627776) {X : Dk} {l : Dk.Log} {r : List (List UInt8)} {er : Int} (hX : y.open_ = (X, l, r, er)) :
    (er = 0 ∧ r = R ∧ Jrn X l R (m + 1) ∧ (y.fuse < 0 → X.fuse < 0)) ∨ (er = 9 ∧ r = [] ∧ 0 ≤ y.fuse ∧ Risk X 200 R R (m + 1)) := by
  obtain ⟨h, g, k⟩ := k
  rcases k.open_ (by omega) (by have := k.top; omega) with ⟨z, g', h1, h2, h3, h4, h5⟩ | ⟨x, h1, h2, h3⟩
  · rw [hX] at h1
    injection h1 with e1 e2
    injection e2 with e2 e3
    injection e3 with e3 e4
    subst e1 e2 e3 e4
    exact .inl ⟨rfl, rfl, ⟨⟨1 - h, g', h3, rfl⟩, by omega⟩, fun q => by rw [h5 q]; exact q⟩
  · rw [hX] at h1
    injection h1 with e1 e2
    injection e2 with e2 e3
    injection e3 with e3 e4
    subst e1 e2 e3 e4
    rw [hs] at h3
    exact .inr ⟨rfl, rfl, h2, h3⟩
theorem Jrn.opn {d : Dk} {l : Dk.Log} {came : List (List UInt8)} {m : Int} (k : Jrn d l came m) : Opn d came m := by
  obtain ⟨⟨h, g, k1, rfl⟩, k3⟩ := k
  exact k1.opn
theorem Jrn.arm {d : Dk} {l : Dk.Log} {came : List (List UInt8)} {m : Int} (k : Jrn d l came m) (f : Int) : Jrn (d.arm f) l came m := by
  obtain ⟨⟨h, g, k1, rfl⟩, k3⟩ := k
  exact ⟨⟨h, g, k1.arm f, rfl⟩, k3⟩
theorem Jrn.up {d : Dk} {l : Dk.Log} {came : List (List UInt8)} {m : Int} (k : Jrn d l came m) : d.down = false := by
  obtain ⟨⟨h, g, k1, rfl⟩, k3⟩ := k
  exact k1.up.up
/-- The play begins. -/
theorem jrn_new : ∃ d y, Dk.new 200 = (d, 0) ∧ d.format = (y, logOf 0 1 [], 0) ∧ Jrn y (logOf 0 1 []) [] 1 := by
  obtain ⟨d, y, h1, h2, h3, h4, h5⟩ := format_new (n := 200) (by omega) (by omega)
  exact ⟨d, y, h1, h2, ⟨⟨0, 1, h3, rfl⟩, h4⟩⟩
end Jp
end Go.Proofs.YtbhjigejpdbeiaaDoor
end
