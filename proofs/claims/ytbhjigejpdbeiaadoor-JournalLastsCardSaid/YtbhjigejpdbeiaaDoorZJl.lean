/-
  JournalLasts: an act, walked (block 5).
-/
import Derived.Test.YtbhjigejpdbeiaaDoorZKWa
import Derived.Test.YtbhjigejpdbeiaaDoorZKLp
import Derived.Outline
import Derived.OwnWalk
import Derived.Deep.CutBlock
set_option linter.unusedSimpArgs false
set_option linter.unusedVariables false
namespace Go.Proofs.YtbhjigejpdbeiaaDoor
open Go.RowKit Go.Shelf
set_option linter.unusedVariables false

noncomputable def jlIn (id : Nat) : Code := (Tryd.f8.body.bind (blockOf id)).getD .skip
/-- No way leads out but the end. -/
@[reducible] def noExit : Exit → Act → World → Prop := fun _ _ _ => False
theorem then_noExit {K : Act → World → Prop} {Q0 : Exit → Act → World → Prop} : ∀ (e : Exit) (a : Act) (w : World), Exit.then K noExit e a w → Exit.then K Q0 e a w := by
  intro e a w h
  cases e with
  | normal => exact h
  | _ => exact h.elim
/-- The disk, its log and the records behind a call: in new variables. -/
structure NewVars (W0 W : World) (a b : Nat) (C0 C : Array Value) (X : Dk) (l : Dk.Log) : Prop where
  V : DVar W a C
  G : LogAt W b l
  D : DiskAt W (.agg C) X
  B : Below W0.heap.size W0 W
  le1 : W0.heap.size ≤ a
  le2 : W0.heap.size ≤ b
  tr : ∀ q, q < W0.heap.size → Clear q (.agg C0) → Clear q (.agg C)
  d4 : D4 C
/-- They go into the old ones. -/
theorem NewVars.turn {w0 W0 W : World} {a b b6 b8 : Nat} {C0 C : Array Value} {d X : Dk} {l0 l : Dk.Log} (n : NewVars W0 W a b C0 C X l) (h : Hold w0 W0 b6 b8 C0 d l0) : Hold w0 (putLog (putDisk W.drew b6 C) b8 l) b6 b8 C X l :=
  h.put (W := W.drew) n.B.drew n.d4 (n.D.kept (Below.refl _ _).drew (Nat.le_refl _)) n.tr
theorem RecsApart.turn {W0 W : World} {b6 b8 : Nat} {v : Value} {rs : List (List UInt8)} (h : RecsApart W0 b6 (b8 + 1) v rs) (h68 : b6 < b8) (hb : Below W0.heap.size W0 W) (C : Array Value) (l : Dk.Log) : RecsApart (putLog (putDisk W.drew b6 C) b8 l) b6 (b8 + 1) v rs :=
  (h.on hb.drew).put h68 C l
theorem NewVars.regions {w0 W0 W : World} {a b b6 b8 : Nat} {C0 C : Array Value} {d X : Dk} {l0 l : Dk.Log} (n : NewVars W0 W a b C0 C X l) (h : Hold w0 W0 b6 b8 C0 d l0) :
    ((diskVar ⟨a, 0, none⟩).run Tryd.prog W.drew = .ok (.agg C) W.drew ∧ (logVar ⟨b, 0, none⟩).run Tryd.prog W.drew = .ok (logV l) W.drew) ∧
    ((diskVar ⟨a, 0, none⟩).run Tryd.prog (putDisk W.drew b6 C) = .ok (.agg C) (putDisk W.drew b6 C) ∧ (logVar ⟨b, 0, none⟩).run Tryd.prog (putDisk W.drew b6 C) = .ok (logV l) (putDisk W.drew b6 C)) ∧
    ((diskVar ⟨a, 0, none⟩).run Tryd.prog (putLog (putDisk W.drew b6 C) b8 l) = .ok (.agg C) (putLog (putDisk W.drew b6 C) b8 l) ∧ (logVar ⟨b, 0, none⟩).run Tryd.prog (putLog (putDisk W.drew b6 C) b8 l) = .ok (logV l) (putLog (putDisk W.drew b6 C) b8 l)) ∧
    (diskSet ⟨b6, 0, none⟩ (.agg C)).run Tryd.prog W.drew = .ok () (putDisk W.drew b6 C) ∧ (logSet ⟨b8, 0, none⟩ (logV l)).run Tryd.prog (putDisk W.drew b6 C) = .ok () (putLog (putDisk W.drew b6 C) b8 l) ∧
    Hid (DVar (putLog (putDisk W.drew b6 C) b8 l) b6 C ∧ (putLog (putDisk W.drew b6 C) b8 l).there b6 0 4 ∧ LogAt (putLog (putDisk W.drew b6 C) b8 l) b8 l) :=
  turn_region (W := W) (b7 := b6) (b9 := b8) (a := a) (b := b) (C := C) (l0 := l0) (l := l) (there_below h.T n.B h.V.lt) (h.G.on n.B h.G.lt) n.d4 n.V n.G (Nat.ne_of_lt h.lt)
    ⟨fun e => by have := n.le1; have := h.V.lt; omega, fun e => by have := n.le1; have := h.G.lt; omega⟩ ⟨fun e => by have := n.le2; have := h.V.lt; omega, fun e => by have := n.le2; have := h.G.lt; omega⟩
theorem Hold.len {w0 W : World} {b6 b8 : Nat} {C : Array Value} {d : Dk} {l : Dk.Log} {came : List (List UInt8)} {m : Int} (h : Hold w0 W b6 b8 C d l) (k : Jp.Jrn d l came m) : d.secs.length = 200 := k.len
set_option maxRecDepth 1000000 in
set_option maxHeartbeats 8000000 in
theorem jl5 (w0 W : World) (b6 b8 ba oa n ca k : Nat) (fold : Bool) (B : Option Addr) (m kk : Nat) (r : List UInt8) (Ac : Option Addr) (nc cc : Nat) (C : Array Value) (d : Dk) (l : Dk.Log) (came : List (List UInt8)) (M : Int) (fz : Bool) (hL : Laid w0)
    (hact : ∀ V, Below w0.heap.size w0 V → V.cell? ⟨ba, oa + k * 2, none⟩ = some (.bool fold) ∧ V.cell? ⟨ba, oa + k * 2 + 1, none⟩ = some (.slice B m kk)) (hrow : RowOf w0 1 B m kk (Lib.byteCells r)) (hm : m = r.length) (hm2 : m ≤ 5000) (hkn : k < n) (hn60 : n ≤ 60)
    (hold : Hold w0 W b6 b8 C d l) (hrec : RecsApart W b6 (b8 + 1) (.slice Ac nc cc) came) (hj : Jp.Jrn d l came M) (hM : M < 1099511627776) (hfz : fz = true → d.fuse < 0)
    (K : Act → World → Prop) (Q0 : Exit → Act → World → Prop) (c1 c2 c3 c4 c5 c7 c9 c12 c13 c14 c16 c17 c18 c19 c20 c21 c22 c23 c24 c25 c26 c27 c28 c29 c30 c31 c32 c33 c34 c35 c36 c37 c38 c39 c40 c41 c42 c43 c44 c45 c46 c47 c48 c49 c50 c51 c52 c53 c54 c55 c56 c57 c58 c59 c60 c61 c62 c63 c64 c65 c66 c67 c68 c69 c70 c71 c72 c73 c74 c75 c76 c77 c78 c79 c80 c81 c82 c83 c84 c85 c86 c87 c88 c89 c90 c91 c92 c93 c94 c95 c96 c97 c98 c99 c100 c101 c102 c103 c104 c105 c106 c107 c108 c109 c110 c111 c112 c113 c114 c115 c116 c117 c118 c119 c120 c121 c122 c123 c124 c125 c126 c127 c128 c129 c130 c131 c132 c133 c134 c135 c136 c137 c138 c139 c140 c141 c142 c143 c144 c145 c146 c147 c148 c149 c150 c151 c152 c153 c154 c155 c156 c157 c158 c159 c160 c161 c162 c163 c164 c165 c166 c167 c168 c169 c170 c171 c172 c173 c174 c175 c176 c177 c178 c179 c180 c181 c182 c183 c184 c185 c186 c187 c188 c189 c190 c191 c192 c193 c194 c195 c196 c197 c198 c199 c200 c201 c202 c203 c204 c205 c206 c207 c208 c209 c210 c211 c212 c213 c214 c215 c216 c217 c218 c219 c220 c221 c222 c223 c224 c225 c226 c227 c228 c229 c230 c231 c232 c233 c234 c235 c236 c237 c238 c239 c240 c241 c242 c243 c244 c245 c246 c247 c248 c249 c250 c251 c252 c253 c254 c255 c256 c257 c258 c259 c260 c261 c262 c263 c264 c265 c266 c267 c268 c269 c270 c271 c272 c273 c274 c275 c276 c277 c278 c279 : Value)
    (hK : ∀ (u16 u17 u18 u19 u20 u21 u109 u110 u111 u112 u113 u114 u115 u116 u117 u118 u119 u120 u121 u122 u123 u124 u125 u126 u127 u128 u129 u130 u131 u132 u133 u134 u135 u136 u137 u138 u139 u140 u141 u142 u143 u144 u145 u146 u147 u148 u149 u150 u151 u152 u153 u154 u155 u156 u157 u158 u159 u160 u161 u162 u163 u164 u165 u166 u167 u168 u169 u170 u171 u172 u173 u174 u175 vc vp : Value) (dn : Bool) (wx : World), Played w0 wx b6 b8 vc vp dn fz (M + 1) → K ⟨#[.slice (some ⟨ba, oa, none⟩) n ca, c1, c2, c3, c4, c5, .pointer (some ⟨b6, 0, none⟩), c7, .pointer (some ⟨b8, 0, none⟩), c9, vc, .int .i64 (k : Int), c12, c13, vp, .bool dn, u16, u17, u18, u19, u20, u21, c22, c23, c24, c25, c26, c27, c28, c29, c30, c31, c32, c33, c34, c35, c36, c37, c38, c39, c40, c41, c42, c43, c44, c45, c46, c47, c48, c49, c50, c51, c52, c53, c54, c55, c56, c57, c58, c59, c60, c61, c62, c63, c64, c65, c66, c67, c68, c69, c70, c71, c72, c73, c74, c75, c76, c77, c78, c79, c80, c81, c82, c83, c84, c85, c86, c87, c88, c89, c90, c91, c92, c93, c94, c95, c96, c97, c98, c99, c100, c101, c102, c103, c104, c105, c106, c107, c108, u109, u110, u111, u112, u113, u114, u115, u116, u117, u118, u119, u120, u121, u122, u123, u124, u125, u126, u127, u128, u129, u130, u131, u132, u133, u134, u135, u136, u137, u138, u139, u140, u141, u142, u143, u144, u145, u146, u147, u148, u149, u150, u151, u152, u153, u154, u155, u156, u157, u158, u159, u160, u161, u162, u163, u164, u165, u166, u167, u168, u169, u170, u171, u172, u173, u174, u175, c176, c177, c178, c179, c180, c181, c182, c183, c184, c185, c186, c187, c188, c189, c190, c191, c192, c193, c194, c195, c196, c197, c198, c199, c200, c201, c202, c203, c204, c205, c206, c207, c208, c209, c210, c211, c212, c213, c214, c215, c216, c217, c218, c219, c220, c221, c222, c223, c224, c225, c226, c227, c228, c229, c230, c231, c232, c233, c234, c235, c236, c237, c238, c239, c240, c241, c242, c243, c244, c245, c246, c247, c248, c249, c250, c251, c252, c253, c254, c255, c256, c257, c258, c259, c260, c261, c262, c263, c264, c265, c266, c267, c268, c269, c270, c271, c272, c273, c274, c275, c276, c277, c278, c279], []⟩ wx) :
    Code.wp Tryd.prog (Code.block 5 (jlIn 5)) (Exit.then K Q0) ⟨#[.slice (some ⟨ba, oa, none⟩) n ca, c1, c2, c3, c4, c5, .pointer (some ⟨b6, 0, none⟩), c7, .pointer (some ⟨b8, 0, none⟩), c9, .slice Ac nc cc, .int .i64 (k : Int), c12, c13, c14, .bool false, c16, c17, c18, c19, c20, c21, c22, c23, c24, c25, c26, c27, c28, c29, c30, c31, c32, c33, c34, c35, c36, c37, c38, c39, c40, c41, c42, c43, c44, c45, c46, c47, c48, c49, c50, c51, c52, c53, c54, c55, c56, c57, c58, c59, c60, c61, c62, c63, c64, c65, c66, c67, c68, c69, c70, c71, c72, c73, c74, c75, c76, c77, c78, c79, c80, c81, c82, c83, c84, c85, c86, c87, c88, c89, c90, c91, c92, c93, c94, c95, c96, c97, c98, c99, c100, c101, c102, c103, c104, c105, c106, c107, c108, c109, c110, c111, c112, c113, c114, c115, c116, c117, c118, c119, c120, c121, c122, c123, c124, c125, c126, c127, c128, c129, c130, c131, c132, c133, c134, c135, c136, c137, c138, c139, c140, c141, c142, c143, c144, c145, c146, c147, c148, c149, c150, c151, c152, c153, c154, c155, c156, c157, c158, c159, c160, c161, c162, c163, c164, c165, c166, c167, c168, c169, c170, c171, c172, c173, c174, c175, c176, c177, c178, c179, c180, c181, c182, c183, c184, c185, c186, c187, c188, c189, c190, c191, c192, c193, c194, c195, c196, c197, c198, c199, c200, c201, c202, c203, c204, c205, c206, c207, c208, c209, c210, c211, c212, c213, c214, c215, c216, c217, c218, c219, c220, c221, c222, c223, c224, c225, c226, c227, c228, c229, c230, c231, c232, c233, c234, c235, c236, c237, c238, c239, c240, c241, c242, c243, c244, c245, c246, c247, c248, c249, c250, c251, c252, c253, c254, c255, c256, c257, c258, c259, c260, c261, c262, c263, c264, c265, c266, c267, c268, c269, c270, c271, c272, c273, c274, c275, c276, c277, c278, c279], []⟩ W := by
  have HK := Lib.hid hK
  have HL := Lib.hid hL
  have HACT := Lib.hid hact
  have HROW := Lib.hid hrow
  have HM := Lib.hid hm
  have HH := Lib.hid hold
  have HREC := Lib.hid hrec
  have HJ := Lib.hid hj
  have HMM := Lib.hid hM
  have HFZ := Lib.hid hfz
  have HSM := Lib.hid hj.small
  obtain ⟨Ac', nc', cc', vs, ev, hnc, hrowc, hoffc, hlenc, hsetc⟩ := hrec
  injection ev with ev1 ev2 ev3
  subst ev1 ev2 ev3
  have HNC := Lib.hid hnc
  have HROWC := Lib.hid hrowc
  have HLENC := Lib.hid hlenc
  have HSETC := Lib.hid hsetc
  have hn100 : nc ≤ 100 := by have := hj.small.1; omega
  have hkn2 : (k : Int) < (n : Int) := by omega
  clear hK hL hact hrow hm hold hj hM hfz hnc hrowc hoffc hlenc hsetc
  refine wp_mono (Q := Exit.then K noExit) ?_ then_noExit
  conv => arg 2; arg 2; whnf
  have hc0 := (HACT.out W HH.out.B).1
  cases fold
  case true =>
-- <skip>
    go_wp2_with fail
    refine (last_f W Ac nc cc came HREC.out.at).mono ?_
    rintro e w' ⟨rfl, hw⟩
    rw [hw]
    clear hw w' hc0
    obtain ⟨vp, hvp⟩ : ∃ vp, vp = Value.slice (if cc = nc / 2 then Ac else Ac.map fun a => ⟨a.block, a.off + nc / 2, a.spot⟩) (nc - nc / 2) (cc - nc / 2) := ⟨_, rfl⟩
    rw [← hvp]
    have HRP := Lib.hid (show RecsApart W b6 (b8 + 1) vp (came.drop (nc / 2)) from HREC.out.drop (nc / 2) ⟨Ac, nc, cc, rfl, hvp, by omega⟩ rfl)
    clear hvp
    have hl1 := HH.out.V.load
    have hg1 := HH.out.G.load
    obtain ⟨X, m2, er, hX⟩ : ∃ X m2 er, d.compact l (came.drop (nc / 2)) = (X, m2, er) := ⟨_, _, _, rfl⟩
    have HDONE := Lib.hid (HJ.out.compact HMM.out (nc / 2) hX)
    have HCF := Lib.hid (compact_f W (.agg C) d l vp (came.drop (nc / 2)) HH.out.D (HL.out.below HH.out.B HL.out.size) (by have := HJ.out.len; omega) (by have := HSM.out.1; rw [List.length_drop]; omega) (fun q hq => by have := HSM.out.2 q (List.mem_of_mem_drop hq); omega) HRP.out.at)
    rw [hX] at HCF
    clear hX
    go_wp2_with fail
    refine HCF.out.mono ?_
    rintro e w4 ⟨⟨u4, rfl, hgt4⟩, hb4⟩
    obtain ⟨C4, rfl, hc4⟩ := hgt4.1.agg
    clear hl1 hg1
    obtain ⟨w5, o1, o2, hv5, hl5, hd5', hb5⟩ := two_new hc4 hgt4.1 m2
    have HB5 := Lib.hid (below_chain hb4 hb5)
    have HNV := Lib.hid (show NewVars W w5 w4.heap.size (w4.heap.size + 1) C C4 X m2 from ⟨hv5, hl5, hd5', below_chain hb4 hb5, hb4.size, Nat.le_succ_of_le hb4.size, hgt4.2, hc4⟩)
    clear hgt4 hb4 hb5 hv5 hl5 hd5' hc4
    go_upto_region 30 with fail
    clear o1 o2
    obtain ⟨b7, hb7⟩ : ∃ b7, b7 = w4.heap.size := ⟨_, rfl⟩
    rw [← hb7] at HNV ⊢
    clear hb7
    obtain ⟨her, hdone⟩ := HDONE.out
    obtain ⟨p1, p2, p3, p4, p5, _⟩ := HNV.out.regions HH.out
    have HH2 := Lib.hid (HNV.out.turn HH.out)
    have HR2 := Lib.hid (HREC.out.turn HH.out.lt HNV.out.B C4 m2)
    have HP2 := Lib.hid (HRP.out.turn HH.out.lt HNV.out.B C4 m2)
    rcases her with rfl | rfl
    · have HX := Lib.hid (show Jp.Jrn X m2 (came.drop (nc / 2)) (M + 1) ∧ (d.fuse < 0 → X.fuse < 0) by
        cases hdone with
        | ok h1 h2 => exact ⟨h1, h2⟩
        | same _ h _ _ => omega)
      clear hdone
      have HFIN := Lib.hid (show Played w0 (putLog (putDisk w5.drew b6 C4) b8 m2) b6 b8 vp vp false fz (M + 1) from
        ⟨C4, X, m2, _, _, HH2.out, HP2.out, HP2.out, by have := HX.out.1.len; omega, fun _ => HX.out.1, (fun h => by cases h), fun h => ⟨rfl, HX.out.2 (HFZ.out h)⟩⟩)
      go_wp2_with fail
      go_region_held3 (fun V => (diskVar ⟨b7, 0, none⟩).run Tryd.prog V = .ok (.agg C4) V ∧ (logVar ⟨b7 + 1, 0, none⟩).run Tryd.prog V = .ok (logV m2) V) (first | exact p1 | exact p2 | exact p3) (fail)
      all_goals go_wp2_with fail
      all_goals exact HK.out _ _ _ _ _ _ _ _ _ _ _ _ _ _ _ _ _ _ _ _ _ _ _ _ _ _ _ _ _ _ _ _ _ _ _ _ _ _ _ _ _ _ _ _ _ _ _ _ _ _ _ _ _ _ _ _ _ _ _ _ _ _ _ _ _ _ _ _ _ _ _ _ _ _ _ false _ HFIN.out
    · have HX := Lib.hid (show 0 ≤ d.fuse ∧ X.secs.length ≤ 100000 ∧ Jp.Risk X 200 came (came.drop (nc / 2)) (M + 1) by
        cases hdone with
        | down h1 h2 h3 => exact ⟨h1, h2, h3⟩
        | same _ h _ _ => omega)
      clear hdone
      have HFIN := Lib.hid (show Played w0 (putLog (putDisk w5.drew b6 C4) b8 m2) b6 b8 (.slice Ac nc cc) vp true fz (M + 1) from
        ⟨C4, X, m2, _, _, HH2.out, HR2.out, HP2.out, HX.out.2.1, (fun h => by cases h), fun _ => HX.out.2.2, fun h => by have := HFZ.out h; have := HX.out.1; omega⟩)
      go_wp2_with fail
      go_region_held3 (fun V => (diskVar ⟨b7, 0, none⟩).run Tryd.prog V = .ok (.agg C4) V ∧ (logVar ⟨b7 + 1, 0, none⟩).run Tryd.prog V = .ok (logV m2) V) (first | exact p1 | exact p2 | exact p3) (fail)
      all_goals go_wp2_with fail
      all_goals exact HK.out _ _ _ _ _ _ _ _ _ _ _ _ _ _ _ _ _ _ _ _ _ _ _ _ _ _ _ _ _ _ _ _ _ _ _ _ _ _ _ _ _ _ _ _ _ _ _ _ _ _ _ _ _ _ _ _ _ _ _ _ _ _ _ _ _ _ _ _ _ _ _ _ _ _ _ true _ HFIN.out
-- </skip>
  case false =>
    have HB0 := Lib.hid (Below.refl W.heap.size W)
    have HS33 := Lib.hid (show ∀ V, Below W.heap.size W V → V.cell? ⟨ba, oa + k * 2 + 1, none⟩ = some (.slice B m kk) from fun V hV => (HACT.out V (below_chain HH.out.B hV)).2)
    have ONES := Lib.hid (show ∀ u ∈ vs, u.oneCell' = true from fun u hu => by
      obtain ⟨i, hi⟩ := List.getElem?_of_mem hu
      have hlt := (List.getElem?_eq_some_iff.1 hi).1
      obtain ⟨B', m', k', e1, _⟩ := HSETC.out i _ (List.getElem?_eq_getElem (by rw [← HLENC.out]; exact hlt))
      rw [hi] at e1
      cases e1
      rfl)
    have ONE1 := Lib.hid (show ∀ u ∈ [Value.slice B m kk], u.oneCell' = true from fun u hu => by simp at hu; subst hu; rfl)
    have HSN := Lib.hid (show ∀ v6 w6, Below W.heap.size W w6 → w6.ownsRow W.heap.size 28 1 v6 (nc + 1) (vs ++ [.slice B m kk]) → RecsApart w6 b6 (b8 + 1) v6 (came ++ [r]) from fun v6 w6 hb ho =>
      apart_snoc HSETC.out HLENC.out hb.size (fun b hb' => hb.block b hb') (by rw [← HNC.out]; exact ho) (by have := HH.out.G.lt; omega) (HROW.out.kept HH.out.B (Nat.le_refl _)) HM.out (fun x hx h0 => .inl (by have := (HROW.out.2.2.2.2 x hx h0).2.1; have := HH.out.le; omega)))
    go_upto_region 33 with fail
    clear hc0
    go_cut [14] from 134 to 143 (fun s14 wx => Below W.heap.size W wx ∧ RecsApart wx b6 (b8 + 1) s14 (came ++ [r]))
    case first =>
      go_wp2_with fail
      refine wp_region_held_drew (S := fun w' => w'.cell? ⟨ba, oa + k * 2 + 1, none⟩ = some (.slice B m kk)) (by kernel_rfl) (HS33.out _ HB0.out.drew) (fun hHeld => ?_)
      refine' wpAnyH_take (i := 1) (v := _) rfl (by kernel_rfl) (by kernel_rfl) (by kernel_rfl) (fun _ _ _ h => h) (Or.inl ⟨by rfl, ?hy1⟩) (by assumption) ?rest1
      case hy1 => (intro w hSw; (try dsimp only at hSw); go_simp; try with_reducible rfl)
      try simp only [Act.put, List.getElem_toArray, List.getElem_cons_zero, List.getElem_cons_succ, List.setIfInBounds_toArray, List.set_cons_zero, List.set_cons_succ]
      refine' wpAnyH_take (i := 3) (v := _) rfl (by kernel_rfl) (by kernel_rfl) (by kernel_rfl) (fun _ _ _ h => h) (Or.inl ⟨by rfl, ?hy3⟩) (by assumption) ?rest3
      case hy3 => (intro w hSw; (try dsimp only at hSw); go_simp; try with_reducible rfl)
      try simp only [Act.put, List.getElem_toArray, List.getElem_cons_zero, List.getElem_cons_succ, List.setIfInBounds_toArray, List.set_cons_zero, List.set_cons_succ]
      refine' wpAnyH_take (i := 4) (v := _) rfl (by kernel_rfl) (by kernel_rfl) (by kernel_rfl) (fun _ _ _ h => h) (Or.inl ⟨by rfl, ?hy4⟩) (by assumption) ?rest4
      case hy4 => (intro w hSw; (try dsimp only at hSw); go_simp; try with_reducible rfl)
      try simp only [Act.put, List.getElem_toArray, List.getElem_cons_zero, List.getElem_cons_succ, List.setIfInBounds_toArray, List.set_cons_zero, List.set_cons_succ]
      refine' wpAnyH_take (i := 5) (v := _) rfl (by kernel_rfl) (by kernel_rfl) (by kernel_rfl) (fun _ _ _ h => h) (Or.inl ⟨by rfl, ?hy5⟩) (by assumption) ?rest5
      case hy5 => (intro w hSw; (try dsimp only at hSw); go_simp; try with_reducible rfl)
      try simp only [Act.put, List.getElem_toArray, List.getElem_cons_zero, List.getElem_cons_succ, List.setIfInBounds_toArray, List.set_cons_zero, List.set_cons_succ]
      refine' wpAnyH_take (i := 6) (v := _) rfl (by kernel_rfl) (by kernel_rfl) (by kernel_rfl) (fun _ _ _ h => h) (Or.inl ⟨by rfl, ?hy6⟩) (by assumption) ?rest6
      case hy6 => (intro w hSw; (try dsimp only at hSw); go_simp; try with_reducible rfl)
      try simp only [Act.put, List.getElem_toArray, List.getElem_cons_zero, List.getElem_cons_succ, List.setIfInBounds_toArray, List.set_cons_zero, List.set_cons_succ]
      refine' wpAnyH_take (i := 7) (v := _) rfl (by kernel_rfl) (by kernel_rfl) (by kernel_rfl) (fun _ _ _ h => h) (Or.inl ⟨by rfl, ?hy7⟩) (by assumption) ?rest7
      case hy7 => (intro w hSw; (try dsimp only at hSw); go_simp; try with_reducible rfl)
      try simp only [Act.put, List.getElem_toArray, List.getElem_cons_zero, List.getElem_cons_succ, List.setIfInBounds_toArray, List.set_cons_zero, List.set_cons_succ]
      refine wpAnyH_ready (rs := [0, 8]) (by kernel_rfl) (by simp) (AllReadyH.cons rfl (fun K hK => ?_) (AllReadyH.cons rfl (fun K hK => ?_) AllReadyH.nil))
      · go_simp
        have HBE := Lib.hid (HB0.out.drew.alloc (Nat.le_refl _) (Obj.cells #[] 28))
        have HOE := Lib.hid (own_empty W.drew W.heap.size (Nat.le_refl _) 28 1)
        refine hK.out _ _ (HS33.out _ HBE.out) (fun hHeld => ?_)
        clear hK K
        try simp only [Act.put, List.getElem_toArray, List.getElem_cons_zero, List.getElem_cons_succ, List.setIfInBounds_toArray, List.set_cons_zero, List.set_cons_succ]
        refine wpAnyH_ready (rs := [2, 8]) (by kernel_rfl) (by simp) (AllReadyH.cons rfl (fun K hK => ?_) (AllReadyH.cons rfl (fun K hK => ?_) AllReadyH.nil))
        · refine step_append_row rfl (.tmp 134) (.tmp 135) 38 28 rfl Tryd.underlying38 W.heap.size (.slice none 0 0) 1 24 infoBytes rfl (by decide) (.slice (some ⟨W.heap.size, 0, none⟩) 0 0) 0 [] rfl HOE.out Ac nc cc vs rfl (HROWC.out.kept HBE.out (Nat.le_refl _)) ONES.out (by omega) (by decide) (by simp; try omega) ?_
          intro v4 w4 k1 k2
          rw [Nat.zero_add, List.nil_append] at k1
          have HB4 := Lib.hid (below_owned (HBE.out) HOE.out k2 (Nat.le_refl _) (by simp; try omega))
          have HO4 := Lib.hid k1
          clear k1 k2
          refine hK.out _ _ (HS33.out _ HB4.out) (fun hHeld => ?_)
          clear hK K
          try simp only [Act.put, List.getElem_toArray, List.getElem_cons_zero, List.getElem_cons_succ, List.setIfInBounds_toArray, List.set_cons_zero, List.set_cons_succ]
          refine wpAnyH_ready (rs := [8]) (by kernel_rfl) (by simp) (AllReadyH.cons rfl (fun K hK => ?_) AllReadyH.nil)
          go_simp
          have HB5 := Lib.hid (HB4.out.alloc HB4.out.size (Obj.cells #[.slice B m kk] 28))
          have HO5 := Lib.hid (HO4.out.alloc (Obj.cells #[.slice B m kk] 28))
          refine hK.out _ _ (HS33.out _ HB5.out) (fun hHeld => ?_)
          clear hK K
          try simp only [Act.put, List.getElem_toArray, List.getElem_cons_zero, List.getElem_cons_succ, List.setIfInBounds_toArray, List.set_cons_zero, List.set_cons_succ]
          refine wpAnyH_ready (rs := [9]) (by kernel_rfl) (by simp) (AllReadyH.cons rfl (fun K hK => ?_) AllReadyH.nil)
          refine step_append_row rfl (.tmp 136) (.tmp 142) 38 28 rfl Tryd.underlying38 W.heap.size (.slice none 0 0) 1 24 infoBytes rfl (by decide) v4 nc vs (by simp [Act.eval]) HO5.out (some ⟨w4.heap.size, 0, none⟩) 1 1 [.slice B m kk] rfl (row_val w4 (.slice B m kk) 28) ONE1.out (by omega) (by decide) HB5.out.size ?_
          intro v6 w6 k3 k4
          have HB6 := Lib.hid (below_owned HB5.out HO5.out k4 (Nat.le_refl _) HB5.out.size)
          have HO6 := Lib.hid k3
          clear k3 k4
          refine hK.out _ _ (HS33.out _ HB6.out) (fun hHeld => ?_)
          clear hK K
          try simp only [Act.put, List.getElem_toArray, List.getElem_cons_zero, List.getElem_cons_succ, List.setIfInBounds_toArray, List.set_cons_zero, List.set_cons_succ]
          refine' wpAnyH_take (i := 10) (v := _) rfl (by kernel_rfl) (by kernel_rfl) (by kernel_rfl) (fun _ _ _ h => h) (Or.inl ⟨by rfl, ?hyA10⟩) (by assumption) ?restA10
          case hyA10 => (intro w hSw; (try dsimp only at hSw); go_simp; try with_reducible rfl)
          try simp only [Act.put, List.getElem_toArray, List.getElem_cons_zero, List.getElem_cons_succ, List.setIfInBounds_toArray, List.set_cons_zero, List.set_cons_succ]
          refine wpAnyH_done (by kernel_rfl) ?_ _
          clear hHeld
          go_wp2_with fail
          go_meet
          exact ⟨HB6.out, HSN.out v6 w6 HB6.out HO6.out⟩
        · go_simp
          have HBF := Lib.hid (HBE.out.alloc (by simp) (Obj.cells #[.slice B m kk] 28))
          have HOF := Lib.hid (HOE.out.alloc (Obj.cells #[.slice B m kk] 28))
          have HRV := Lib.hid (show RowOf ((W.drew.alloc (Obj.cells #[] 28)).alloc (Obj.cells #[.slice B m kk] 28)) 1 (some ⟨W.heap.size + 1, 0, none⟩) 1 1 [.slice B m kk] by have := row_val (W.drew.alloc (Obj.cells #[] 28)) (.slice B m kk) 28; rw [size_alloc] at this; exact this)
          refine hK.out _ _ (HS33.out _ HBF.out) (fun hHeld => ?_)
          clear hK K
          try simp only [Act.put, List.getElem_toArray, List.getElem_cons_zero, List.getElem_cons_succ, List.setIfInBounds_toArray, List.set_cons_zero, List.set_cons_succ]
          refine wpAnyH_ready (rs := [2]) (by kernel_rfl) (by simp) (AllReadyH.cons rfl (fun K hK => ?_) AllReadyH.nil)
          refine step_append_row rfl (.tmp 134) (.tmp 135) 38 28 rfl Tryd.underlying38 W.heap.size (.slice none 0 0) 1 24 infoBytes rfl (by decide) (.slice (some ⟨W.heap.size, 0, none⟩) 0 0) 0 [] rfl HOF.out Ac nc cc vs rfl (HROWC.out.kept HBF.out (Nat.le_refl _)) ONES.out (by omega) (by decide) (by simp; try omega) ?_
          intro v4 w4 k1 k2
          rw [Nat.zero_add, List.nil_append] at k1
          have HB4 := Lib.hid (below_owned (HBF.out) HOF.out k2 (Nat.le_refl _) (by simp; try omega))
          have HO4 := Lib.hid k1
          have HR5 := Lib.hid (HRV.out.grown k2 (fun x hx _ => by injection hx with hx; subst hx; simp [Value.ownBlock]))
          clear k1 k2
          have HB5 := HB4
          have HO5 := HO4
          refine hK.out _ _ (HS33.out _ HB4.out) (fun hHeld => ?_)
          clear hK K
          try simp only [Act.put, List.getElem_toArray, List.getElem_cons_zero, List.getElem_cons_succ, List.setIfInBounds_toArray, List.set_cons_zero, List.set_cons_succ]
          refine wpAnyH_ready (rs := [9]) (by kernel_rfl) (by simp) (AllReadyH.cons rfl (fun K hK => ?_) AllReadyH.nil)
          refine step_append_row rfl (.tmp 136) (.tmp 142) 38 28 rfl Tryd.underlying38 W.heap.size (.slice none 0 0) 1 24 infoBytes rfl (by decide) v4 nc vs (by simp [Act.eval]) HO5.out (some ⟨W.heap.size + 1, 0, none⟩) 1 1 [.slice B m kk] rfl HR5.out ONE1.out (by omega) (by decide) HB5.out.size ?_
          intro v6 w6 k3 k4
          have HB6 := Lib.hid (below_owned HB5.out HO5.out k4 (Nat.le_refl _) HB5.out.size)
          have HO6 := Lib.hid k3
          clear k3 k4
          refine hK.out _ _ (HS33.out _ HB6.out) (fun hHeld => ?_)
          clear hK K
          try simp only [Act.put, List.getElem_toArray, List.getElem_cons_zero, List.getElem_cons_succ, List.setIfInBounds_toArray, List.set_cons_zero, List.set_cons_succ]
          refine' wpAnyH_take (i := 10) (v := _) rfl (by kernel_rfl) (by kernel_rfl) (by kernel_rfl) (fun _ _ _ h => h) (Or.inl ⟨by rfl, ?hyB10⟩) (by assumption) ?restB10
          case hyB10 => (intro w hSw; (try dsimp only at hSw); go_simp; try with_reducible rfl)
          try simp only [Act.put, List.getElem_toArray, List.getElem_cons_zero, List.getElem_cons_succ, List.setIfInBounds_toArray, List.set_cons_zero, List.set_cons_succ]
          refine wpAnyH_done (by kernel_rfl) ?_ _
          clear hHeld
          go_wp2_with fail
          go_meet
          exact ⟨HB6.out, HSN.out v6 w6 HB6.out HO6.out⟩
      · go_simp
        have HBE := Lib.hid (HB0.out.drew.alloc (Nat.le_refl _) (Obj.cells #[.slice B m kk] 28))
        have HRV0 := Lib.hid (row_val W.drew (.slice B m kk) 28)
        refine hK.out _ _ (HS33.out _ HBE.out) (fun hHeld => ?_)
        clear hK K
        try simp only [Act.put, List.getElem_toArray, List.getElem_cons_zero, List.getElem_cons_succ, List.setIfInBounds_toArray, List.set_cons_zero, List.set_cons_succ]
        refine wpAnyH_ready (rs := [0]) (by kernel_rfl) (by simp) (AllReadyH.cons rfl (fun K hK => ?_) AllReadyH.nil)
        go_simp
        have HBF := Lib.hid (HBE.out.alloc (by simp) (Obj.cells #[] 28))
        have HOF := Lib.hid (show ((W.drew.alloc (Obj.cells #[.slice B m kk] 28)).alloc (Obj.cells #[] 28)).ownsRow W.heap.size 28 1 (.slice (some ⟨W.heap.size + 1, 0, none⟩) 0 0) 0 [] from own_empty1 W.drew (Obj.cells #[.slice B m kk] 28) 28 1)
        have HRV := Lib.hid (HRV0.out.alloc (Obj.cells #[] 28))
        refine hK.out _ _ (HS33.out _ HBF.out) (fun hHeld => ?_)
        clear hK K
        try simp only [Act.put, List.getElem_toArray, List.getElem_cons_zero, List.getElem_cons_succ, List.setIfInBounds_toArray, List.set_cons_zero, List.set_cons_succ]
        refine wpAnyH_ready (rs := [2]) (by kernel_rfl) (by simp) (AllReadyH.cons rfl (fun K hK => ?_) AllReadyH.nil)
        refine step_append_row rfl (.tmp 134) (.tmp 135) 38 28 rfl Tryd.underlying38 W.heap.size (.slice none 0 0) 1 24 infoBytes rfl (by decide) (.slice (some ⟨W.heap.size + 1, 0, none⟩) 0 0) 0 [] rfl HOF.out Ac nc cc vs rfl (HROWC.out.kept HBF.out (Nat.le_refl _)) ONES.out (by omega) (by decide) (by simp; try omega) ?_
        intro v4 w4 k1 k2
        rw [Nat.zero_add, List.nil_append] at k1
        have HB4 := Lib.hid (below_owned (HBF.out) HOF.out k2 (Nat.le_refl _) (by simp; try omega))
        have HO4 := Lib.hid k1
        have HR5 := Lib.hid (HRV.out.grown k2 (fun x hx _ => by injection hx with hx; subst hx; simp [Value.ownBlock]))
        clear k1 k2
        have HB5 := HB4
        have HO5 := HO4
        refine hK.out _ _ (HS33.out _ HB4.out) (fun hHeld => ?_)
        clear hK K
        try simp only [Act.put, List.getElem_toArray, List.getElem_cons_zero, List.getElem_cons_succ, List.setIfInBounds_toArray, List.set_cons_zero, List.set_cons_succ]
        refine wpAnyH_ready (rs := [9]) (by kernel_rfl) (by simp) (AllReadyH.cons rfl (fun K hK => ?_) AllReadyH.nil)
        refine step_append_row rfl (.tmp 136) (.tmp 142) 38 28 rfl Tryd.underlying38 W.heap.size (.slice none 0 0) 1 24 infoBytes rfl (by decide) v4 nc vs (by simp [Act.eval]) HO5.out (some ⟨W.heap.size, 0, none⟩) 1 1 [.slice B m kk] rfl HR5.out ONE1.out (by omega) (by decide) HB5.out.size ?_
        intro v6 w6 k3 k4
        have HB6 := Lib.hid (below_owned HB5.out HO5.out k4 (Nat.le_refl _) HB5.out.size)
        have HO6 := Lib.hid k3
        clear k3 k4
        refine hK.out _ _ (HS33.out _ HB6.out) (fun hHeld => ?_)
        clear hK K
        try simp only [Act.put, List.getElem_toArray, List.getElem_cons_zero, List.getElem_cons_succ, List.setIfInBounds_toArray, List.set_cons_zero, List.set_cons_succ]
        refine' wpAnyH_take (i := 10) (v := _) rfl (by kernel_rfl) (by kernel_rfl) (by kernel_rfl) (fun _ _ _ h => h) (Or.inl ⟨by rfl, ?hyC10⟩) (by assumption) ?restC10
        case hyC10 => (intro w hSw; (try dsimp only at hSw); go_simp; try with_reducible rfl)
        try simp only [Act.put, List.getElem_toArray, List.getElem_cons_zero, List.getElem_cons_succ, List.setIfInBounds_toArray, List.set_cons_zero, List.set_cons_succ]
        refine wpAnyH_done (by kernel_rfl) ?_ _
        clear hHeld
        go_wp2_with fail
        go_meet
        exact ⟨HB6.out, HSN.out v6 w6 HB6.out HO6.out⟩
    case rest =>
    rename World => w7
    obtain ⟨hb7, hrp7⟩ := hcut
    obtain ⟨vp, hvp⟩ : ∃ vp, vp = u14 := ⟨_, rfl⟩
    rw [← hvp] at hrp7 ⊢
    clear hvp
    have HB7 := Lib.hid hb7
    have HRP := Lib.hid hrp7
    have HH7 := Lib.hid (HH.out.on hb7)
    have HREC7 := Lib.hid (HREC.out.on hb7)
    clear hb7 hrp7
    obtain ⟨X, mm, er, hXX⟩ : ∃ X mm er, d.append l r = (X, mm, er) := ⟨_, _, _, rfl⟩
    have HDONE := Lib.hid (HJ.out.append r hXX)
    have HAP := Lib.hid (show ∀ V, Below w7.heap.size w7 V → Calls Tryd.prog 11 #[.agg C, logV l, .slice B m kk] V fun e w' => ∃ C2, e = .returned (.tuple #[.agg C2, logV mm, .int .i64 er]) ∧ D4 C2 ∧ DiskAt w' (.agg C2) X ∧ (∀ b, b < V.heap.size → Clear b (.agg C) → Clear b (.agg C2)) ∧ Below w7.heap.size w7 w' ∧ Below V.heap.size V w' from fun V hV =>
      (append_f V (.agg C) d l B m kk r (HH7.out.D.kept hV (Nat.le_refl _)) (HL.out.below (below_chain HH7.out.B hV) HL.out.size) (by have := HJ.out.len; omega) HM.out (by omega) (HROW.out.kept (below_chain HH7.out.B hV) (Nat.le_refl _))).mono fun e w' ⟨⟨u, h1, hg⟩, hb⟩ => by
        rw [hXX] at h1 hg
        obtain ⟨C2, rfl, hc2⟩ := hg.1.agg
        exact ⟨C2, h1, hc2, hg.1, hg.2, below_chain hV hb, hb⟩)
    have HK7 := Lib.hid (show ∀ V, Below w7.heap.size w7 V → (diskVar ⟨b6, 0, none⟩).run Tryd.prog V = .ok (.agg C) V ∧ (logVar ⟨b8, 0, none⟩).run Tryd.prog V = .ok (logV l) V ∧ V.cell? ⟨ba, oa + k * 2 + 1, none⟩ = some (.slice B m kk) from fun V hV =>
      ⟨(HH7.out.on hV).V.load, (HH7.out.on hV).G.load, HS33.out V (below_chain HB7.out hV)⟩)
    have hb0 : Below w7.heap.size w7 w7.drew := (Below.refl _ _).drew
    clear hXX
    go_upto_region 34 with fail
    go_cut [19, 20, 21] from 144 to 155 (fun s11 s12 s13 wc => ∃ b11 b12 C2, s11 = .pointer (some ⟨b11, 0, none⟩) ∧ s12 = .pointer (some ⟨b12, 0, none⟩) ∧ s13 = .int .i64 er ∧ LaidTwo w7 wc b11 b12 C C2 X mm)
    case first =>
-- <skip>
        go_region_held3 (fun W => (diskVar ⟨b6, 0, none⟩).run Tryd.prog W = .ok (.agg C) W ∧ (logVar ⟨b8, 0, none⟩).run Tryd.prog W = .ok (logV l) W ∧ W.cell? ⟨ba, oa + k * 2 + 1, none⟩ = some (.slice B m kk))
          (exact HK7.out _ (by (repeat' (first | with_reducible exact hbc | with_reducible exact hb0 | with_reducible refine below_putLog ?_ ?_ _ | with_reducible refine below_putDisk ?_ ?_ _ | with_reducible refine below_new ?_ _ | with_reducible refine Below.drew ?_ | with_reducible exact Below.refl _ _ | with_reducible exact Nat.le_refl _ | (simp [size_putDisk, size_putLog]; done) | (have h9 := hbc.size; simp [size_putDisk, size_putLog]; omega)))))
          (first
            | (go_at_call 11
               (with_reducible refine (HAP.out _ ?_).mono ?_)
               · (repeat' (first | with_reducible exact hbc | with_reducible exact hb0 | with_reducible refine below_putLog ?_ ?_ _ | with_reducible refine below_putDisk ?_ ?_ _ | with_reducible refine below_new ?_ _ | with_reducible refine Below.drew ?_ | with_reducible exact Below.refl _ _ | with_reducible exact Nat.le_refl _ | (simp [size_putDisk, size_putLog]; done) | (have h9 := hbc.size; simp [size_putDisk, size_putLog]; omega)))
               rintro e wc ⟨C2, rfl, hc2, hg1, hg2, hbc, hxc⟩)
            | (rw [store_disk (by (repeat' (first | with_reducible exact there_disk _ zeroD4 | with_reducible exact there_disk_at _ (by simp) | with_reducible exact size_log3 _ | with_reducible exact there_log_at _ (by simp) | with_reducible refine there_disk_pass ?_ hxc | with_reducible refine there_log_pass ?_ hxc | with_reducible refine there_drew ?_ | with_reducible refine there_disk_alloc ?_ _ | with_reducible refine there_log_alloc ?_ _ | with_reducible refine there_putDisk ?_ _ _ | with_reducible refine there_putLog ?_ _ _))) hc2]
               go_simp)
            | (rw [store_log (by (repeat' (first | with_reducible exact there_disk _ zeroD4 | with_reducible exact there_disk_at _ (by simp) | with_reducible exact size_log3 _ | with_reducible exact there_log_at _ (by simp) | with_reducible refine there_disk_pass ?_ hxc | with_reducible refine there_log_pass ?_ hxc | with_reducible refine there_drew ?_ | with_reducible refine there_disk_alloc ?_ _ | with_reducible refine there_log_alloc ?_ _ | with_reducible refine there_putDisk ?_ _ _ | with_reducible refine there_putLog ?_ _ _))) mm]
               go_simp))
        all_goals go_wp2_with fail
        all_goals go_meet
        all_goals
          have s2 := hxc.size
          have s4 := hbc.size
          try simp at s2
          refine ⟨_, _, C2, rfl, rfl, rfl, ?_⟩
          first
            | (with_reducible refine laidTwo_put ?_ ?_ ?_ ?_ ?_ ?_ ?_ ?_ ?_ ?_ hc2
               · (repeat' (first | with_reducible exact there_disk _ zeroD4 | with_reducible exact there_disk_at _ (by simp) | with_reducible exact size_log3 _ | with_reducible exact there_log_at _ (by simp) | with_reducible refine there_disk_pass ?_ hxc | with_reducible refine there_log_pass ?_ hxc | with_reducible refine there_drew ?_ | with_reducible refine there_disk_alloc ?_ _ | with_reducible refine there_log_alloc ?_ _ | with_reducible refine there_putDisk ?_ _ _ | with_reducible refine there_putLog ?_ _ _))
               · (repeat' (first | with_reducible exact there_disk _ zeroD4 | with_reducible exact there_disk_at _ (by simp) | with_reducible exact size_log3 _ | with_reducible exact there_log_at _ (by simp) | with_reducible refine there_disk_pass ?_ hxc | with_reducible refine there_log_pass ?_ hxc | with_reducible refine there_drew ?_ | with_reducible refine there_disk_alloc ?_ _ | with_reducible refine there_log_alloc ?_ _ | with_reducible refine there_putDisk ?_ _ _ | with_reducible refine there_putLog ?_ _ _))
               · first | omega | (simp; done) | (simp; omega)
               · repeat' (first | with_reducible exact hg1 | with_reducible refine diskAt_alloc ?_ _)
               · first | with_reducible exact hg1.clear (by first | omega | (simp; done) | (simp; omega)) | with_reducible exact hg2 _ (by first | omega | (simp; done) | (simp; omega)) (HH7.out.D.clear (by first | omega | (simp; done) | (simp; omega)))
               · first | with_reducible exact hg1.clear (by first | omega | (simp; done) | (simp; omega)) | with_reducible exact hg2 _ (by first | omega | (simp; done) | (simp; omega)) (HH7.out.D.clear (by first | omega | (simp; done) | (simp; omega)))
               · (repeat' (first | with_reducible exact hbc | with_reducible exact hb0 | with_reducible refine below_putLog ?_ ?_ _ | with_reducible refine below_putDisk ?_ ?_ _ | with_reducible refine below_new ?_ _ | with_reducible refine Below.drew ?_ | with_reducible exact Below.refl _ _ | with_reducible exact Nat.le_refl _ | (simp [size_putDisk, size_putLog]; done) | (have h9 := hbc.size; simp [size_putDisk, size_putLog]; omega)))
               · first | omega | (simp; done) | (simp; omega)
               · first | omega | (simp; done) | (simp; omega)
               · exact fun b hb hc => hg2 b (by first | omega | (simp; done) | (simp; omega)) hc)
            | (with_reducible refine laidTwo_new ?_ ?_ ?_ ?_ ?_ ?_ ?_ hc2
               · first | with_reducible rfl | (simp; done)
               · (repeat' (first | with_reducible exact there_disk _ zeroD4 | with_reducible exact there_disk_at _ (by simp) | with_reducible exact size_log3 _ | with_reducible exact there_log_at _ (by simp) | with_reducible refine there_disk_pass ?_ hxc | with_reducible refine there_log_pass ?_ hxc | with_reducible refine there_drew ?_ | with_reducible refine there_disk_alloc ?_ _ | with_reducible refine there_log_alloc ?_ _ | with_reducible refine there_putDisk ?_ _ _ | with_reducible refine there_putLog ?_ _ _))
               · repeat' (first | with_reducible exact hg1 | with_reducible refine diskAt_alloc ?_ _)
               · first | with_reducible exact hg1.clear (by first | omega | (simp; done) | (simp; omega)) | with_reducible exact hg2 _ (by first | omega | (simp; done) | (simp; omega)) (HH7.out.D.clear (by first | omega | (simp; done) | (simp; omega)))
               · (repeat' (first | with_reducible exact hbc | with_reducible exact hb0 | with_reducible refine below_putLog ?_ ?_ _ | with_reducible refine below_putDisk ?_ ?_ _ | with_reducible refine below_new ?_ _ | with_reducible refine Below.drew ?_ | with_reducible exact Below.refl _ _ | with_reducible exact Nat.le_refl _ | (simp [size_putDisk, size_putLog]; done) | (have h9 := hbc.size; simp [size_putDisk, size_putLog]; omega)))
               · first | omega | (simp; done) | (simp; omega)
               · exact fun b hb hc => hg2 b (by first | omega | (simp; done) | (simp; omega)) hc)
-- </skip>
    case rest =>
    rename World => wc
    obtain ⟨b11, b12, C2, rfl, rfl, rfl, hlt2⟩ := hcut
    have HNV := Lib.hid (show NewVars w7 wc b11 b12 C C2 X mm from ⟨hlt2.V, hlt2.G, hlt2.D, hlt2.B, hlt2.le1, hlt2.le2, hlt2.tr, hlt2.d4⟩)
    clear hlt2 hb0
    obtain ⟨p1, p2, p3, p4, p5, _⟩ := HNV.out.regions HH7.out
    have HH2 := Lib.hid (HNV.out.turn HH7.out)
    have HR2 := Lib.hid (HREC7.out.turn HH.out.lt HNV.out.B C2 mm)
    have HP2 := Lib.hid (HRP.out.turn HH.out.lt HNV.out.B C2 mm)
    have hdone := HDONE.out
    have her : er = 0 ∨ er = 9 ∨ er = 3 ∨ er = 10 := by
      cases hdone with
      | ok _ _ => exact .inl rfl
      | down _ _ _ => exact .inr (.inl rfl)
      | same _ h _ _ => exact .inr (.inr h)
    clear hdone
    rcases her with rfl | rfl | rfl | rfl
    · have HX := Lib.hid (show Jp.Jrn X mm (came ++ [r]) M ∧ (d.fuse < 0 → X.fuse < 0) by
        cases HDONE.out with
        | ok h1 h2 => exact ⟨h1, h2⟩
        | same _ h _ _ => omega)
      have HFIN := Lib.hid (show Played w0 (putLog (putDisk wc.drew b6 C2) b8 mm) b6 b8 vp vp false fz (M + 1) from
        ⟨C2, X, mm, _, _, HH2.out, HP2.out, HP2.out, by have := HX.out.1.len; omega, fun _ => HX.out.1.mono (by omega), (fun h => by cases h), fun h => ⟨rfl, HX.out.2 (HFZ.out h)⟩⟩)
      go_wp2_with fail
      go_region_held3 (fun V => (diskVar ⟨b11, 0, none⟩).run Tryd.prog V = .ok (.agg C2) V ∧ (logVar ⟨b12, 0, none⟩).run Tryd.prog V = .ok (logV mm) V) (first | exact p1 | exact p2 | exact p3) (fail)
      all_goals go_wp2_with fail
      all_goals exact HK.out _ _ _ _ _ _ _ _ _ _ _ _ _ _ _ _ _ _ _ _ _ _ _ _ _ _ _ _ _ _ _ _ _ _ _ _ _ _ _ _ _ _ _ _ _ _ _ _ _ _ _ _ _ _ _ _ _ _ _ _ _ _ _ _ _ _ _ _ _ _ _ _ _ _ _ false _ HFIN.out
    · have HX := Lib.hid (show 0 ≤ d.fuse ∧ X.secs.length ≤ 100000 ∧ Jp.Risk X 200 came (came ++ [r]) M by
        cases HDONE.out with
        | down h1 h2 h3 => exact ⟨h1, h2, h3⟩
        | same _ h _ _ => omega)
      have HFIN := Lib.hid (show Played w0 (putLog (putDisk wc.drew b6 C2) b8 mm) b6 b8 (.slice Ac nc cc) vp true fz (M + 1) from
        ⟨C2, X, mm, _, _, HH2.out, HR2.out, HP2.out, HX.out.2.1, (fun h => by cases h), fun _ => HX.out.2.2.mono (by omega), fun h => by have := HFZ.out h; have := HX.out.1; omega⟩)
      go_wp2_with fail
      go_region_held3 (fun V => (diskVar ⟨b11, 0, none⟩).run Tryd.prog V = .ok (.agg C2) V ∧ (logVar ⟨b12, 0, none⟩).run Tryd.prog V = .ok (logV mm) V) (first | exact p1 | exact p2 | exact p3) (fail)
      all_goals go_wp2_with fail
      all_goals exact HK.out _ _ _ _ _ _ _ _ _ _ _ _ _ _ _ _ _ _ _ _ _ _ _ _ _ _ _ _ _ _ _ _ _ _ _ _ _ _ _ _ _ _ _ _ _ _ _ _ _ _ _ _ _ _ _ _ _ _ _ _ _ _ _ _ _ _ _ _ _ _ _ _ _ _ _ true _ HFIN.out
    all_goals
      have HX := Lib.hid (show Jp.Jrn X mm came M ∧ (d.fuse < 0 → X.fuse < 0) by
        cases HDONE.out with
        | same _ h h1 h2 => exact ⟨h1, h2⟩)
      have HFIN := Lib.hid (show Played w0 (putLog (putDisk wc.drew b6 C2) b8 mm) b6 b8 (.slice Ac nc cc) (.slice Ac nc cc) false fz (M + 1) from
        ⟨C2, X, mm, _, _, HH2.out, HR2.out, HR2.out, by have := HX.out.1.len; omega, fun _ => HX.out.1.mono (by omega), (fun h => by cases h), fun h => ⟨rfl, HX.out.2 (HFZ.out h)⟩⟩)
      go_wp2_with fail
      go_region_held3 (fun V => (diskVar ⟨b11, 0, none⟩).run Tryd.prog V = .ok (.agg C2) V ∧ (logVar ⟨b12, 0, none⟩).run Tryd.prog V = .ok (logV mm) V) (first | exact p1 | exact p2 | exact p3) (fail)
      all_goals go_wp2_with fail
      all_goals exact HK.out _ _ _ _ _ _ _ _ _ _ _ _ _ _ _ _ _ _ _ _ _ _ _ _ _ _ _ _ _ _ _ _ _ _ _ _ _ _ _ _ _ _ _ _ _ _ _ _ _ _ _ _ _ _ _ _ _ _ _ _ _ _ _ _ _ _ _ _ _ _ _ _ _ _ _ false _ HFIN.out
end Go.Proofs.YtbhjigejpdbeiaaDoor
