/-
  look and Read of the reference.
-/
import Derived.Test.YtfffmmnpohgniaaRa
namespace Go.Proofs.Ytfffmmnpohgniaa
open Go.RowKit
set_option linter.unusedVariables false

def SecOut (s : Sec) (w : World) (e : Ending) (w' : World) : Prop := e = .returned (secV s) ∧ Below w.heap.size w w'
def SecOut2 (s : Sec × Int) (w : World) (e : Ending) (w' : World) : Prop := e = .returned (.tuple #[secV s.1, .int .i64 s.2]) ∧ Below w.heap.size w w'
theorem secVar_run {w : World} {a : Addr} {v : Value} (h : (secVar a).run Try.prog w = .ok v w) : (loadVar 27 a).run Try.prog w = .ok v w := by
  unfold secVar at h; exact h

set_option maxHeartbeats 400000 in
theorem look_f (w : World) (v : Value) (d : Dk) (i : Int) (hi : 0 ≤ i) (hi2 : i < d.secs.length) (hl : d.secs.length ≤ 1000000) (hl2 : d.loose.length ≤ 1000000) (h : DiskAt w v d) :
    Calls Try.prog 32 #[v, .int .i64 i] w fun e w' => SecOut (d.look i) w e w' := by
  obtain ⟨A, n, c, A', n', c', rfl, hn, hn', h1, h2, _⟩ := h
  rw [← hn] at hi2 hl
  rw [← hn'] at hl2
  have H1 := Lib.hid h1
  have H2 := Lib.hid h2
  have HN := Lib.hid hn
  have HN' := Lib.hid hn'
  clear h1 h2 hn hn'
  generalize hf : d.fuse = f
  generalize hdn : d.down = dn
  clear hf hdn
  obtain ⟨w1, hw1⟩ : ∃ w1, w1 = (w.alloc (Obj.cells #[.slice A n c, .slice A' n' c', .int .i64 f, .bool dn] 25)).alloc (secO zeroSec) := ⟨_, rfl⟩
  have HV := Lib.hid (show Var w1 w.heap.size A A' n c n' c' f dn by rw [hw1]; exact (var_new w A A' n c n' c' f dn).below ((Below.refl _ _).alloc (Nat.le_refl _) _) (by simp))
  have HB := Lib.hid (show Below w.heap.size w w1 by rw [hw1]; exact below_two _ _ _)
  have HT := Lib.hid (show w1.there (w.heap.size + 1) 0 128 by
    have := there_new (w.alloc (Obj.cells #[.slice A n c, .slice A' n' c', .int .i64 f, .bool dn] 25)) (secC zeroSec) 27
    rw [size_alloc, secC_length] at this
    rw [hw1]; exact this)
  have HS := Lib.hid (show w1.heap.size = w.heap.size + 2 by rw [hw1]; simp)
  have HW := Lib.hid hw1
  clear hw1
  go_enter Try.func32, Try.ntmps32
  go_wp2
  rw [← HW.out]
  clear HW
  go_loopw [5] (fun i' wr => ∃ k : Nat, k ≤ n' ∧ i' = .int .i64 ((k : Int) - 1) ∧ (∀ j x, k ≤ j → d.loose[j]? = some x → x.at_ ≠ i) ∧ Below w1.heap.size w1 wr) (fun i _ => (intOf i + 1).toNat)
  case atStart => exact ⟨n', by omega, rfl, fun j x hj hx => absurd (List.getElem?_eq_some_iff.1 hx).1 (by have := HN'.out; omega), Below.refl _ _⟩
  case round =>
    obtain ⟨k, hk, rfl, hall, hbel⟩ := hrel
    rename World => wr
    have HA := Lib.hid hall
    have HB1 := Lib.hid hbel
    clear hall hbel
    obtain ⟨z0, z1, z2, z3, z4⟩ := HV.out.below HB1.out HV.out.lt
    have ht := there_below HT.out HB1.out (by have := HS.out; omega)
    have hst := store_sec ht
    have HL := Lib.hid (load_put ht)
    clear ht
    cases k with
    | zero =>
      obtain ⟨m, rfl⟩ : ∃ m : Nat, i = m := ⟨i.toNat, by omega⟩
      have hmn : m < n := by omega
      obtain ⟨b, o, rfl, hb, hx⟩ := row_at H1.out (by omega)
      obtain ⟨s, hs⟩ : ∃ s, d.secs[m]? = some s := ⟨_, List.getElem?_eq_getElem (by rw [← HN.out]; exact hmn)⟩
      have hld := load_secVar (range_below (range_below (range_secs hx hs) HB.out hb) HB1.out (by have := HS.out; omega))
      have HSS := Lib.hid hs
      clear hx hs
      go_wp2
      refine bodyPost_ret (ret_cell rfl rfl (secVar_run (HL.out s))) rfl ?_
      refine ⟨?_, below_putSec (below_chain HB.out HB1.out) (by omega) _ _⟩
      have : d.look (m : Int) = s := by
        rw [Dk.look, Dk.lookL_none]
        · simp [List.getD, HSS.out]
        · intro x hx
          obtain ⟨j, hj⟩ := List.getElem?_of_mem hx
          exact HA.out j x (by omega) hj
      rw [this]
    | succ k =>
      obtain ⟨b', o', rfl, hb', hx⟩ := row_at H2.out (by omega)
      obtain ⟨x, hxk⟩ : ∃ x, d.loose[k]? = some x := ⟨_, List.getElem?_eq_getElem (by rw [← HN'.out]; omega)⟩
      have hr := range_below (range_below (range_wrs hx hxk) HB.out hb') HB1.out (by have := HS.out; omega)
      have hat : wr.cell? ⟨b', o' + k * 129, none⟩ = some (.int .i64 x.at_) := range_wr_at hr
      have hld := load_secVar (range_wr_data hr)
      have HXK := Lib.hid hxk
      clear hx hxk hr
      have hkk : ((k + 1 : Nat) : Int) - 1 = (k : Int) := by omega
      rw [hkk]
      by_cases q : x.at_ = i
      · have HQ := Lib.hid q
        have hq : (x.at_ == i) = true := by simp [q]
        clear q
        go_wp2
        refine bodyPost_ret (ret_cell rfl rfl (secVar_run (HL.out x.data))) rfl ?_
        refine ⟨?_, below_putSec (below_chain HB.out HB1.out) (by omega) _ _⟩
        have : d.look i = x.data := by
          rw [Dk.look, Dk.lookL_some HXK.out HQ.out (fun j y hj hy => HA.out j y (by omega) hy)]
        rw [this]
      · have HQ := Lib.hid q
        have hq : (x.at_ == i) = false := by simp [q]
        clear q
        go_wp2
        go_roundw
        case rel =>
          refine ⟨k, by omega, by go_num, ?_, HB1.out⟩
          intro j y hj hy
          rcases Nat.lt_or_ge k j with h | h
          · exact HA.out j y (by omega) hy
          · obtain rfl : j = k := by omega
            rw [HXK.out] at hy
            cases hy
            exact HQ.out
        case measure => simp [intOf]

def ReadPost (d : Dk) (i : Int) (w : World) (e : Ending) (w' : World) : Prop := SecOut2 (d.read i) w e w'
theorem right_bounds {d : Dk} (h : d.right = true) : 1 ≤ d.secs.length ∧ d.secs.length ≤ 2048 ∧ d.loose.length ≤ 4096 := by
  rw [Dk.right, Bool.and_eq_true, decide_eq_true_eq] at h; exact h.1
set_option maxHeartbeats 400000 in
theorem rread_f (w : World) (v : Value) (d : Dk) (i : Int) (h : DiskAt w v d) :
    Calls Try.prog 14 #[v, .int .i64 i] w fun e w' => ReadPost d i w e w' := by
  obtain ⟨A, n, c, A', n', c', rfl, hn, hn', h1, h2, h3⟩ := h
  have H1 := Lib.hid h1
  have H2 := Lib.hid h2
  have HN := Lib.hid hn
  have HN' := Lib.hid hn'
  have HF := Lib.hid h3
  clear h1 h2 hn hn' h3
  generalize hf : d.fuse = f
  generalize hdn : d.down = dn
  have HFU := Lib.hid hf
  have HDN := Lib.hid hdn
  clear hf hdn
  obtain ⟨w1, hw1⟩ : ∃ w1, w1 = (w.alloc (Obj.cells #[.slice A n c, .slice A' n' c', .int .i64 f, .bool dn] 25)).alloc (secO zeroSec) := ⟨_, rfl⟩
  have HV := Lib.hid (show Var w1 w.heap.size A A' n c n' c' f dn by rw [hw1]; exact (var_new w A A' n c n' c' f dn).below ((Below.refl _ _).alloc (Nat.le_refl _) _) (by simp))
  have HB := Lib.hid (show Below w.heap.size w w1 by rw [hw1]; exact below_two _ _ _)
  have HT := Lib.hid (show w1.there (w.heap.size + 1) 0 128 by
    have := there_new (w.alloc (Obj.cells #[.slice A n c, .slice A' n' c', .int .i64 f, .bool dn] 25)) (secC zeroSec) 27
    rw [size_alloc, secC_length] at this
    rw [hw1]; exact this)
  have HS := Lib.hid (show w1.heap.size = w.heap.size + 2 by rw [hw1]; simp)
  have HW := Lib.hid hw1
  clear hw1
  have HD := Lib.hid (show ∀ w2, Below w1.heap.size w1 w2 → DiskAt w2 (.agg #[.slice A n c, .slice A' n' c', .int .i64 f, .bool dn]) d from fun w2 hb2 =>
    disk_of HN.out HN'.out ((H1.out.kept HB.out (Nat.le_refl _)).kept hb2 (Nat.le_refl _)) ((H2.out.kept HB.out (Nat.le_refl _)).kept hb2 (Nat.le_refl _)) HFU.out.symm HDN.out.symm HF.out.1 HF.out.2)
  go_enter Try.func14, Try.ntmps14
  go_wp2_with fail
  rw [← HW.out]
  clear HW
  refine (rright_f w1 _ d (HD.out w1 (Below.refl _ _))).mono ?_
  rintro e w2 ⟨rfl, hb2⟩
  have HB2 := Lib.hid hb2
  clear hb2
  obtain ⟨z0, z1, z2, z3, z4⟩ := HV.out.below HB2.out HV.out.lt
  have ht := there_below HT.out HB2.out (by have := HS.out; omega)
  have hst := store_sec ht
  have HL := Lib.hid (load_put ht)
  clear ht
  have HX := Lib.hid (show d.within i = true ↔ 0 ≤ i ∧ i < n by rw [Dk.within, Dk.inside, HN.out]; simp)
  cases hr : d.right with
  | false =>
    have HR := Lib.hid hr
    clear hr
    go_wp2
    refine bodyPost_ret (ret_cell_tmp rfl rfl (secVar_run (HL.out zeroSec))) rfl ?_
    refine ⟨?_, below_putSec (below_chain HB.out HB2.out) (by omega) _ _⟩
    rw [Dk.read, HR.out]; rfl
  | true =>
    have HR := Lib.hid hr
    clear hr
    by_cases q0 : i < 0
    · go_wp2
      refine bodyPost_ret (ret_cell_tmp rfl rfl (secVar_run (HL.out zeroSec))) rfl ?_
      refine ⟨?_, below_putSec (below_chain HB.out HB2.out) (by omega) _ _⟩
      rw [Dk.read, HR.out, show d.within i = false by rw [Bool.eq_false_iff]; intro h; have := HX.out.1 h; omega]; rfl
    by_cases q1 : (n : Int) ≤ i
    · go_wp2
      refine bodyPost_ret (ret_cell_tmp rfl rfl (secVar_run (HL.out zeroSec))) rfl ?_
      refine ⟨?_, below_putSec (below_chain HB.out HB2.out) (by omega) _ _⟩
      rw [Dk.read, HR.out, show d.within i = false by rw [Bool.eq_false_iff]; intro h; have := HX.out.1 h; omega]; rfl
    have HW := Lib.hid (show d.within i = true from HX.out.2 (by omega))
    cases dn with
    | true =>
      go_wp2
      refine bodyPost_ret (ret_cell_tmp rfl rfl (secVar_run (HL.out zeroSec))) rfl ?_
      refine ⟨?_, below_putSec (below_chain HB.out HB2.out) (by omega) _ _⟩
      rw [Dk.read, HR.out, HW.out, HDN.out]; rfl
    | false =>
      clear hst HL
      go_wp2_with fail
      refine (look_f w2 _ d i (by omega) (by have := HN.out; omega) (by have := right_bounds HR.out; omega) (by have := right_bounds HR.out; omega) (HD.out w2 HB2.out)).mono ?_
      rintro e w3 ⟨rfl, hb3⟩
      have HB3 := Lib.hid (below_chain HB2.out hb3)
      clear hb3
      have ht := there_below HT.out HB3.out (by have := HS.out; omega)
      have hst := store_sec ht
      have HL := Lib.hid (load_put ht)
      clear ht
      go_wp2
      refine bodyPost_ret (ret_cell_tmp rfl rfl (secVar_run (HL.out (d.look i)))) rfl ?_
      refine ⟨?_, below_putSec (below_chain HB.out HB3.out) (by omega) _ _⟩
      rw [Dk.read, HR.out, HW.out, HDN.out]; rfl
end Go.Proofs.Ytfffmmnpohgniaa
