/-
  A disk in plain Lean: sectors of 128 bytes, writes that aren't sure, a fuse; what each operation answers. No program in sight.
-/
import Derived.Lib.UnsafeStr
namespace Go.Proofs.Ytfffmmnpohgniaa

/-- A sector: 128 bytes. -/
abbrev Sec := { l : List UInt8 // l.length = 128 }
def zeroSec : Sec := ⟨List.replicate 128 0, by simp⟩

structure Wr where
  at_ : Int
  data : Sec

structure Dk where
  secs : List Sec
  loose : List Wr
  fuse : Int
  down : Bool

namespace Dk
def inside (n : Nat) (i : Int) : Bool := decide (0 ≤ i ∧ i < n)
def within (d : Dk) (i : Int) : Bool := inside d.secs.length i
def right (d : Dk) : Bool := decide (1 ≤ d.secs.length ∧ d.secs.length ≤ 2048 ∧ d.loose.length ≤ 4096) && d.loose.all fun x => inside d.secs.length x.at_
def arm (d : Dk) (f : Int) : Dk := { d with fuse := max f (-1) }
/-- The last loose write's data at a place, or none. -/
def lookL (i : Int) : List Wr → Option Sec
  | [] => none
  | x :: r => match lookL i r with
    | some s => some s
    | none => if x.at_ = i then some x.data else none
def look (d : Dk) (i : Int) : Sec := match lookL i d.loose with
  | some s => s
  | none => d.secs.getD i.toNat zeroSec
def read (d : Dk) (i : Int) : Sec × Int :=
  if right d && within d i then (if d.down then (zeroSec, 9) else (look d i, 0)) else (zeroSec, 1)
def step (d : Dk) : Dk × Bool :=
  if d.down || decide (d.fuse = 0) then ({ d with down := true }, false)
  else ({ d with fuse := if 0 < d.fuse then d.fuse - 1 else d.fuse }, true)
def write (d : Dk) (i : Int) (s : Sec) : Dk × Int :=
  if right d && within d i then
    (if !d.down && decide (d.loose.length = 4096) then (d, 10)
     else match step d with
      | (x, false) => (x, 9)
      | (x, true) => ({ x with loose := x.loose ++ [⟨i, s⟩] }, 0))
  else (d, 1)
def put (l : List Sec) (x : Wr) : List Sec := l.set x.at_.toNat x.data
def sync (d : Dk) : Dk × Int :=
  if right d then
    (match step d with
      | (x, false) => (x, 9)
      | (x, true) => ({ x with secs := x.loose.foldl put x.secs, loose := [] }, 0))
  else (d, 1)
/-- The first bytes of a sector, and the end of another one. -/
def torn (a b : Sec) (n : Nat) : Sec := ⟨a.1.take n ++ b.1.drop n, by
  rw [List.length_append, List.length_take, List.length_drop, a.2, b.2]; omega⟩
/-- How many bytes a fate keeps. -/
def kept (f : UInt8 × UInt8) : Nat := if f.1.toNat % 3 = 1 then 128 else if f.1.toNat % 3 = 2 then f.2.toNat % 128 else 0
def land (fates : List (UInt8 × UInt8)) (l : List Sec) (x : Wr) (i : Nat) : List Sec :=
  if fates.length = 0 then l else l.set x.at_.toNat (torn x.data (l.getD x.at_.toNat zeroSec) (kept (fates.getD (i % fates.length) (0, 0))))
def lands (fates : List (UInt8 × UInt8)) : List Sec → List Wr → Nat → List Sec
  | l, [], _ => l
  | l, x :: r, i => lands fates (land fates l x i) r (i + 1)
def fall (d : Dk) (fates : List (UInt8 × UInt8)) (f : Int) : Dk × Int :=
  if right d then (arm { d with secs := lands fates d.secs d.loose 0, loose := [], down := false } f, 0) else (d, 1)
def new (n : Int) : Dk × Int := if 1 ≤ n ∧ n ≤ 2048 then (⟨List.replicate n.toNat zeroSec, [], -1, false⟩, 0) else (⟨[], [], 0, false⟩, 1)
end Dk
end Go.Proofs.Ytfffmmnpohgniaa
