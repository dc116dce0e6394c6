/-
  The program's encode answers the letters of the bytes.
-/
import Derived.Test.YtjkbiddebiioeaaRefEnc
import Derived.Test.YtjkbiddebiioeaaBuilder
import Derived.Test.YtjkbiddebiioeaaShelf
import Derived.Laws.CopyRow
import Derived.Deep.WholeRow
namespace Go.Proofs.Ytjkbiddebiioeaa
open Go.RowKit

def cutA (b o m c : Nat) : Option Addr := if c = m then some ⟨b, o, none⟩ else some ⟨b, o + m, none⟩

theorem run_cut (b o m n c : Nat) (h0 : 0 < m) (h1 : m ≤ n) (h2 : n ≤ c) (h3 : c ≤ 9223372036854775807) (W : World) :
    (Instr.slice 22 (.slice (some ⟨b, o, none⟩) n c) (some (.int .i64 (m : Int))) none none).run Try.prog W = .ok (.slice (cutA b o m c) (n - m) (c - m)) W := by
  unfold cutA
  go_simp

theorem builder_alloc {T e : TypeId} {B b : Nat} {bs : List Value} {w : World} (h : Lib.IsBuilder T e B b bs w) (o : Obj) : Lib.IsBuilder T e B b bs (w.alloc o).drew := by
  have key : ∀ p, Lib.BuilderAt T e B b p bs w → Lib.BuilderAt T e B b p bs (w.alloc o).drew := by
    intro p hp
    have hlt := hp.lt
    obtain ⟨hB, v, hb, hown, hne⟩ := hp
    exact Lib.BuilderAt.drew ⟨hB, v, (Lib.alloc_old w o b hlt).trans hb, hown.alloc o, hne⟩
  rcases h with h | h
  · exact .inl (key _ h)
  · exact .inr (key _ h)

theorem run_copy3 (w : World) (b o m c : Nat) (x y z : Int) (vs : List Value) (hv : vs.length = m) (hm : m ≤ 3)
   (hc : ∀ j v, vs[j]? = some v → w.cell? ⟨b, o + j, none⟩ = some v) (h1 : ∀ v ∈ vs, v.oneCell' = true)
   (he : vs ++ [Value.int .u8 0, .int .u8 0, .int .u8 0].drop m = [.int .u8 x, .int .u8 y, .int .u8 z]) :
   (Builtin.copy_ #[22, 22] 3 #[.slice (some ⟨w.heap.size, 0, none⟩) 3 3, .slice (some ⟨b, o, none⟩) m c]).run Try.prog (w.alloc (Obj.cells #[Value.int IntKind.u8 0, Value.int IntKind.u8 0, Value.int IntKind.u8 0] 40)).drew =
   .ok (.int .i64 m) (w.alloc (Obj.cells #[Value.int IntKind.u8 x, Value.int IntKind.u8 y, Value.int IntKind.u8 z] 40)).drew := by
  have hg : (w.drew.alloc (Obj.cells #[Value.int IntKind.u8 0, Value.int IntKind.u8 0, Value.int IntKind.u8 0] 40)).heap[w.heap.size]? = some (.cells #[Value.int IntKind.u8 0, Value.int IntKind.u8 0, Value.int IntKind.u8 0] 40 (0, 0)) := heap_alloc_new w.drew _
  have h := run_copy_row Try.prog (w.drew.alloc (Obj.cells #[Value.int IntKind.u8 0, Value.int IntKind.u8 0, Value.int IntKind.u8 0] 40)) 22 22 3 5 w.heap.size 0 3 3 ⟨b, o, none⟩ m c _ 40 vs Try.underlying22 (by kernel_rfl) hg
    (by rw [hv]; exact (Nat.min_eq_left hm).symm) ?_ (by simp; omega) h1
  · rw [hv] at h
    have e : (w.drew.alloc (Obj.cells #[Value.int IntKind.u8 0, Value.int IntKind.u8 0, Value.int IntKind.u8 0] 40)).setRow w.heap.size ((#[Value.int IntKind.u8 0, Value.int IntKind.u8 0, Value.int IntKind.u8 0] : Array Value).toList.take 0 ++ vs ++ (#[Value.int IntKind.u8 0, Value.int IntKind.u8 0, Value.int IntKind.u8 0] : Array Value).toList.drop (0 + m)).toArray = (w.drew.alloc (Obj.cells #[Value.int IntKind.u8 x, Value.int IntKind.u8 y, Value.int IntKind.u8 z] 40)) := by
      have h2 := World.setRow_alloc_new w.drew #[Value.int IntKind.u8 0, Value.int IntKind.u8 0, Value.int IntKind.u8 0] (#[Value.int IntKind.u8 x, Value.int IntKind.u8 y, Value.int IntKind.u8 z]) 40
      rw [← h2, List.take_zero, List.nil_append, Nat.zero_add]
      congr 1
      rw [← he]
    rw [e] at h
    exact h
  · intro j v hj
    have hlt : b < w.heap.size := World.block_lt_of_cell? w ⟨b, o + j, none⟩ (hc j v hj)
    have e : (⟨b, o, none⟩ : Addr).add j = ⟨b, o + j, none⟩ := by unfold Addr.add; split <;> simp_all
    rw [e]
    exact (World.cell?_alloc_lt w.drew _ _ hlt).trans (hc j v hj)

theorem wraps_i64 : ∀ n : Int, 0 ≤ n → n < 2 ^ 63 → IntKind.i64.wrap n = n := by
  intro n h1 h2; rw [IntKind.wrap_i64]; omega
theorem or24 (x y z : Nat) (hx : x < 256) (hy : y < 256) (hz : z < 256) :
    bits .or .i64 (bits .or .i64 ((x : Int) * 65536) ((y : Int) * 256)) (z : Int) = ((x * 65536 + y * 256 + z : Nat) : Int) := by
  rw [bits_join .i64 63 (by decide) wraps_i64 16 ((x : Int) * 65536) ((y : Int) * 256) (by omega) (by omega) (by omega) (by omega) (by omega) (by omega)]
  rw [bits_join .i64 63 (by decide) wraps_i64 8 ((x : Int) * 65536 + (y : Int) * 256) z (by omega) (by omega) (by omega) (by omega) (by omega) (by omega)]
  omega
theorem and63 (x : Int) (h0 : 0 ≤ x) (h1 : x < 9223372036854775808) : bits .and .i64 x 63 = x % 64 := bits_mask .i64 63 (by decide) wraps_i64 6 (by decide) x h0 (by omega)

/-- What the loop's head says. -/
def EncAt (a : ByteArray) (l : List UInt8) (w : World) (v : Value) (wr : World) : Prop :=
  ∃ p r : List UInt8, l = p ++ r ∧ (r ≠ [] → p.length % 3 = 0) ∧ Bytes w w.heap.size v r ∧ Lib.IsBuilder 39 5 w.heap.size w.heap.size (Lib.byteCells (M.enc a.data.toList p)) wr ∧ Below w.heap.size w wr

/-- The first letters of a group. -/
def grp (a : List UInt8) (G : Nat) (i : Nat) : List UInt8 := (List.range i).map fun j => M.lt a (G / 2 ^ (18 - 6 * j) % 64)
def grpN (g : List UInt8) : Nat := (g.getD 0 0).toNat * 65536 + (g.getD 1 0).toNat * 256 + (g.getD 2 0).toNat
theorem grp_succ (a : List UInt8) (G i : Nat) : grp a G (i + 1) = grp a G i ++ [M.lt a (G / 2 ^ (18 - 6 * i) % 64)] := by
  simp [grp, List.range_succ]
theorem grp_enc (a g : List UInt8) (h0 : 0 < g.length) (h3 : g.length ≤ 3) : M.enc a g = grp a (grpN g) (g.length + 1) := by
  match g, h0, h3 with
  | [x], _, _ => rw [M.enc_one]; simp [grp, grpN, List.range_succ]
  | [x, y], _, _ => rw [M.enc_two]; simp [grp, grpN, List.range_succ]
  | [x, y, z], _, _ => rw [M.enc_three]; simp [grp, grpN, List.range_succ]
  | _ :: _ :: _ :: _ :: _, _, h3 => simp at h3

def EncIn (a : ByteArray) (p : List UInt8) (G m : Nat) (w : World) (i : Value) (wr : World) : Prop :=
  ∃ k : Nat, k ≤ m + 1 ∧ i = .int .i64 k ∧ Lib.IsBuilder 39 5 w.heap.size w.heap.size (Lib.byteCells (M.enc a.data.toList p ++ grp a.data.toList G k)) wr ∧ Below w.heap.size w wr

set_option maxHeartbeats 400000 in
theorem enc_any (l : List UInt8) (v : Value) (a : ByteArray) (w : World) (hl : l.length ≤ 100000) (hv : Bytes w w.heap.size v l) (ha : a.size = 64) :
    Calls Try.prog 20 #[.string a, v] w fun e w' => e = .returned (.string ⟨(M.enc a.data.toList l).toArray⟩) ∧ Below w.heap.size w w' := by
  have hA := Lib.hid ha
  have ha1 : 64 ≤ a.size := by omega
  have ha2 : a.size ≤ 64 := by omega
  have hV := Lib.hid hv
  clear ha hv
  go_enter Try.func20, Try.ntmps20
  go_wp2
  go_loopw [1] (fun b wr => EncAt a l w b wr) (fun b _ => match b with | .slice _ n _ => n | _ => 0)
  case atStart => exact ⟨[], l, rfl, fun _ => rfl, hV.out, Lib.fresh_isBuilder 39 5 w, (Below.refl _ _).alloc (Nat.le_refl _) _⟩
  case round =>
    obtain ⟨p, r, hp, hp3, hb, hI, hbel⟩ := hrel
    obtain ⟨A, c, rfl, h1, h2, h3, h4⟩ := hb
    have hrl : r.length ≤ 100000 := by have h' := congrArg List.length hp; rw [List.length_append] at h'; omega
    have HP := Lib.hid hp
    have HP3 := Lib.hid hp3
    have H3 := Lib.hid h3
    have H4 := Lib.hid h4
    have HI := Lib.hid hI
    have HB := Lib.hid hbel
    have hBs := hbel.size
    clear hp hp3 h3 h4 hI hbel
    by_cases h0 : 0 < r.length
    · cases A with
      | none => exact absurd (H3.out rfl) (by omega)
      | some ad =>
        obtain ⟨b, o, sp⟩ := ad
        obtain ⟨hs, hbb, hc⟩ := H4.out _ rfl h0
        obtain rfl : sp = none := hs
        dsimp only at hbb hc
        have HC := Lib.hid hc
        clear hc
        obtain ⟨m, g, hg, hgl, hm0, hm3, hmn, hmx⟩ : ∃ m g, r.take m = g ∧ g.length = m ∧ 0 < m ∧ m ≤ 3 ∧ m ≤ r.length ∧ (m < 3 → m = r.length) := by
          refine ⟨min 3 r.length, _, rfl, ?_, ?_, ?_, ?_, ?_⟩
          · rw [List.length_take]; omega
          all_goals omega
        have hcopy : (Builtin.copy_ #[22, 22] 3 #[.slice (some ⟨wr.heap.size, 0, none⟩) 3 3, .slice (some ⟨b, o, none⟩) m c]).run Try.prog (wr.alloc (Obj.cells #[Value.int IntKind.u8 0, Value.int IntKind.u8 0, Value.int IntKind.u8 0] 40)).drew =
            .ok (.int .i64 m) (wr.alloc (Obj.cells #[Value.int IntKind.u8 (g.getD 0 0).toNat, Value.int IntKind.u8 (g.getD 1 0).toNat, Value.int IntKind.u8 (g.getD 2 0).toNat] 40)).drew := by
          refine run_copy3 wr b o m c _ _ _ (Lib.byteCells g) (by rw [Lib.byteCells_length, hgl]) hm3 ?_ ?_ ?_
          · intro j u hu
            have hj : j < g.length := by
              rcases Nat.lt_or_ge j g.length with h | h
              · exact h
              · rw [List.getElem?_eq_none (by rw [Lib.byteCells_length]; omega)] at hu; cases hu
            have hj2 : r[j]? = some (g[j]) := by
              rw [← List.getElem?_eq_getElem hj, ← hg, List.getElem?_take, if_pos (by omega)]
            have hcell := HC.out j _ hj2
            rw [← (HB.out.cell (p := ⟨b, o + j, none⟩) hbb)] at hcell
            rw [hcell, ← hu]
            simp [Lib.byteCells, hj]
          · intro u hu
            simp only [Lib.byteCells, List.mem_map] at hu
            obtain ⟨x, _, rfl⟩ := hu
            rfl
          · match g, hgl with
            | [x], hgl => simp at hgl; subst hgl; rfl
            | [x, y], hgl => simp at hgl; subst hgl; rfl
            | [x, y, z], hgl => simp at hgl; subst hgl; rfl
            | [], hgl => simp at hgl; omega
            | _ :: _ :: _ :: _ :: _, hgl => simp at hgl; omega
        have hmin : min (3 : Int) (r.length : Int) = (m : Int) := by omega
        have hcut := run_cut b o m r.length c hm0 hmn h1 h2
        obtain ⟨G, hGg⟩ : ∃ G, G = grpN g := ⟨_, rfl⟩
        have hG := Lib.hid (show G = (g.getD 0 0).toNat * 65536 + (g.getD 1 0).toNat * 256 + (g.getD 2 0).toNat by rw [hGg]; rfl)
        have HGG := Lib.hid hGg
        clear hGg
        have hx := (g.getD 0 0).toNat_lt
        have hy := (g.getD 1 0).toNat_lt
        have hz := (g.getD 2 0).toNat_lt
        generalize (g.getD 0 0).toNat = x at *
        generalize (g.getD 1 0).toNat = y at *
        generalize (g.getD 2 0).toNat = z at *
        generalize hn : r.length = n at *
        have HN := Lib.hid hn
        have HG := Lib.hid hg
        have HGL := Lib.hid hgl
        have HMX := Lib.hid hmx
        clear hn hg hgl hmx
        have hor : bits .or .i64 (bits .or .i64 ((x : Int) * 65536) ((y : Int) * 256)) (z : Int) = (G : Int) := by rw [or24 x y z hx hy hz, hG.out]
        have hG2 : G < 16777216 := by have := hG.out; omega
        go_wp2
        go_region
        go_wp2
        go_loopw [39] (fun i wr => EncIn a p G m w i wr) (fun i _ => m + 1 - (intOf i).toNat)
        case atStart => exact ⟨0, by omega, rfl, builder_alloc (by simpa [grp] using HI.out) _, (HB.out.alloc hBs _).drew⟩
        case round =>
          obtain ⟨k, hk, rfl, hI, hbel⟩ := hrel
          rename World => w2
          have hbs2 := hbel.size
          by_cases hkm : k < m + 1
          · have hsh : (18 : Int) - 6 * (k : Int) = ((18 - 6 * k : Nat) : Int) := by omega
            have hq0 : (0 : Int) ≤ (G : Int) / 2 ^ (18 - 6 * k) := Int.ediv_nonneg (by omega) (Int.pow_nonneg (by decide))
            have hq1 : (G : Int) / 2 ^ (18 - 6 * k) ≤ G := Int.ediv_le_self _ (by omega)
            have hidx : bits .and .i64 ((G : Int) / 2 ^ (18 - 6 * k)) 63 = ((G / 2 ^ (18 - 6 * k) % 64 : Nat) : Int) := by
              rw [and63 _ hq0 (by omega)]; simp [Int.natCast_ediv]
            obtain ⟨q, hq⟩ : ∃ q, q = G / 2 ^ (18 - 6 * k) % 64 := ⟨_, rfl⟩
            rw [← hq] at hidx
            have hq64 : q < 64 := by omega
            have HQ := Lib.hid hq
            clear hq hq0 hq1
            have H2 := Lib.hid hI
            clear hI
            have hlen : (Lib.byteCells (M.enc a.data.toList p ++ grp a.data.toList G k)).length + 1 ≤ 140737488355328 := by
              rw [Lib.byteCells_length, List.length_append, M.enc_length]
              simp [grp, M.size]
              have h' := congrArg List.length HP.out
              rw [List.length_append] at h'
              omega
            go_wp2_with fail
            refine (writeByte w.heap.size w.heap.size (Lib.byteCells (M.enc a.data.toList p ++ grp a.data.toList G k)) _ _ H2.out hlen hbs2).mono ?_
            rintro e w3 ⟨rfl, hb3, hbel3⟩
            have HB3 := Lib.hid hb3
            have HW3 := Lib.hid hbel3
            have HW2 := Lib.hid hbel
            clear hb3 hbel3 hbel hlen
            go_wp2
            go_roundw
            case rel =>
              refine ⟨k + 1, by omega, by go_num, ?_, HW2.out.trans HW3.out⟩
              have hs : q < a.data.size := by have : a.data.size = 64 := hA.out; omega
              have e : a[q] = M.lt a.data.toList (G / 2 ^ (18 - 6 * k) % 64) := by
                rw [← HQ.out]
                simp only [M.lt, List.getD_eq_getElem?_getD, Array.getElem?_toList]
                rw [Array.getElem?_eq_getElem hs]; rfl
              have h := HB3.out
              rw [e] at h
              rw [grp_succ, ← List.append_assoc, Lib.byteCells_append _ [_]]
              exact .inr h
            case measure => simp [intOf]; omega
          · have hk2 : k = m + 1 := by omega
            have HK := Lib.hid hk2
            have H2 := Lib.hid hI
            have HW2 := Lib.hid hbel
            clear hI hbel hk2
            go_wp2
            go_roundw
            case rel =>
              have e1 := HP.out
              have e2 := HG.out
              have e3 := HGL.out
              have hd : r = g ++ r.drop m := by rw [← e2, List.take_append_drop]
              refine ⟨p ++ g, r.drop m, by rw [e1, List.append_assoc, ← hd], ?_, ?_, ?_, HW2.out⟩
              · intro hne
                have h3 := HP3.out (by intro h; rw [h] at HN; have := HN.out; simp at this; omega)
                have : m = 3 := by
                  rcases Nat.lt_or_ge m 3 with h | h
                  · exfalso
                    have := HMX.out h
                    apply hne
                    apply List.drop_eq_nil_of_le
                    have := HN.out; omega
                  · omega
                rw [List.length_append]; omega
              · have hl' : (r.drop m).length = n - m := by rw [List.length_drop, HN.out]
                refine ⟨cutA b o m c, c - m, by rw [hl'], by omega, by omega, ?_, ?_⟩
                · intro h; unfold cutA at h; split at h <;> cases h
                · intro x hx _
                  unfold cutA at hx
                  split at hx
                  · rename_i hcm
                    injection hx with hx; subst hx
                    refine ⟨rfl, hbb, fun j u hu => ?_⟩
                    have : r.drop m = [] := List.drop_eq_nil_of_le (by have := HN.out; omega)
                    rw [this] at hu; simp at hu
                  · injection hx with hx; subst hx
                    refine ⟨rfl, hbb, fun j u hu => ?_⟩
                    rw [List.getElem?_drop] at hu
                    have := HC.out (m + j) u hu
                    rw [← Nat.add_assoc] at this
                    exact this
              · have h := H2.out
                rw [HK.out] at h
                have h3 := HP3.out (by intro h; rw [h] at HN; have := HN.out; simp at this; omega)
                rw [M.enc_append _ _ _ h3, grp_enc _ g (by omega) (by omega), e3, ← HGG.out]
                exact h
            case measure => simp; omega
    · have HRN : Hid (r = []) := List.eq_nil_of_length_eq_zero (by omega)
      have hle : r.length ≤ 0 := by omega
      go_wp2_with fail
      refine (Try.Builder_String_any w.heap.size w.heap.size (M.enc a.data.toList p) wr HI.out hBs).mono ?_
      rintro e w3 ⟨rfl, hbel3⟩
      have HW3 := Lib.hid hbel3
      clear hbel3
      go_wp2
      go_ret
      refine ⟨?_, HB.out.trans HW3.out⟩
      have e : p = l := by rw [HP.out, HRN.out, List.append_nil]
      rw [e]; rfl
end Go.Proofs.Ytjkbiddebiioeaa
