/-
  Words on memory for the base layer: a slice value that reads as a list of bytes.
-/
import Derived.Test.YtjkbiddebiioeaaRows
import Derived.WalkKit
import Derived.Laws.OwnMore
import Derived.Deep.Draws
import Derived.Lib.Hide
namespace Go.Proofs.Ytjkbiddebiioeaa
open Go.RowKit

/-- The slice value reads as the bytes l in w, and lies below block B. -/
def Bytes (w : World) (B : Nat) (v : Value) (l : List UInt8) : Prop :=
  ∃ A c, v = .slice A l.length c ∧ l.length ≤ c ∧ c ≤ 9223372036854775807 ∧ (A = none → c = 0) ∧
    ∀ x, A = some x → 0 < l.length → x.spot = none ∧ x.block < B ∧ ∀ j u, l[j]? = some u → w.cell? ⟨x.block, x.off + j, none⟩ = some (.int .u8 u.toNat)

theorem Bytes.below {w w' : World} {B : Nat} {v : Value} {l : List UInt8} (h : Bytes w B v l) (hb : Below B w w') : Bytes w' B v l := by
  obtain ⟨A, c, rfl, h1, h2, h3, h4⟩ := h
  exact ⟨A, c, rfl, h1, h2, h3, fun x hx hl => ⟨(h4 x hx hl).1, (h4 x hx hl).2.1, fun j u hu => (hb.cell (p := ⟨x.block, x.off + j, none⟩) (h4 x hx hl).2.1).trans ((h4 x hx hl).2.2 j u hu)⟩⟩
theorem Bytes.more {w : World} {B B' : Nat} {v : Value} {l : List UInt8} (h : Bytes w B v l) (hb : B ≤ B') : Bytes w B' v l := by
  obtain ⟨A, c, rfl, h1, h2, h3, h4⟩ := h
  exact ⟨A, c, rfl, h1, h2, h3, fun x hx hl => ⟨(h4 x hx hl).1, Nat.lt_of_lt_of_le (h4 x hx hl).2.1 hb, (h4 x hx hl).2.2⟩⟩

/-- The bytes' string. -/
def str (l : List UInt8) : Value := .string ⟨l.toArray⟩
theorem str_def (l : List UInt8) : str l = .string ⟨l.toArray⟩ := rfl
end Go.Proofs.Ytjkbiddebiioeaa
