/-
  JournalLasts: the acts up to a fall, walked (block 4).
-/
import Derived.Test.YtbhjigejpdbeiaaDoorZJl
set_option linter.unusedSimpArgs false
set_option linter.unusedVariables false
namespace Go.Proofs.YtbhjigejpdbeiaaDoor
open Go.RowKit Go.Shelf
set_option linter.unusedVariables false

theorem Played.slice {w0 W : World} {b6 b8 : Nat} {vc vp : Value} {dn fz : Bool} {m : Int} (h : Played w0 W b6 b8 vc vp dn fz m) : ∃ A n c, vc = .slice A n c := by
  obtain ⟨C, d, l, came, perh, h1, ⟨A, n, c, _, e, _⟩, _⟩ := h
  exact ⟨A, n, c, e⟩
set_option maxRecDepth 1000000 in
set_option maxHeartbeats 8000000 in
theorem jl4 (w0 W : World) (b6 b8 n ca k0 : Nat) (A : Option Addr) (L : List (A15 × Value)) (vc0 vp0 : Value) (M0 : Int) (fz : Bool) (hL : Laid w0)
    (hn : n = L.length) (hrow : RowOf w0 2 A n ca ((L.map actC15).flatten)) (hby : ∀ a ∈ L, BytesAt w0 a.2 a.1.record) (hsm : ∀ a ∈ L, a.1.record.length ≤ 5000) (hn60 : n ≤ 60) (hk0 : k0 ≤ n) (hM0 : 0 ≤ M0 ∧ M0 ≤ 1000)
    (hp : Played w0 W b6 b8 vc0 vp0 false fz (M0 + k0))
    (K : Act → World → Prop) (Q0 : Exit → Act → World → Prop) (c1 c2 c3 c4 c5 c7 c9 c12 c13 c16 c17 c18 c19 c20 c21 c22 c23 c24 c25 c26 c27 c28 c29 c30 c31 c32 c33 c34 c35 c36 c37 c38 c39 c40 c41 c42 c43 c44 c45 c46 c47 c48 c49 c50 c51 c52 c53 c54 c55 c56 c57 c58 c59 c60 c61 c62 c63 c64 c65 c66 c67 c68 c69 c70 c71 c72 c73 c74 c75 c76 c77 c78 c79 c80 c81 c82 c83 c84 c85 c86 c87 c88 c89 c90 c91 c92 c93 c94 c95 c96 c97 c98 c99 c100 c101 c102 c103 c104 c105 c106 c107 c108 c109 c110 c111 c112 c113 c114 c115 c116 c117 c118 c119 c120 c121 c122 c123 c124 c125 c126 c127 c128 c129 c130 c131 c132 c133 c134 c135 c136 c137 c138 c139 c140 c141 c142 c143 c144 c145 c146 c147 c148 c149 c150 c151 c152 c153 c154 c155 c156 c157 c158 c159 c160 c161 c162 c163 c164 c165 c166 c167 c168 c169 c170 c171 c172 c173 c174 c175 c176 c177 c178 c179 c180 c181 c182 c183 c184 c185 c186 c187 c188 c189 c190 c191 c192 c193 c194 c195 c196 c197 c198 c199 c200 c201 c202 c203 c204 c205 c206 c207 c208 c209 c210 c211 c212 c213 c214 c215 c216 c217 c218 c219 c220 c221 c222 c223 c224 c225 c226 c227 c228 c229 c230 c231 c232 c233 c234 c235 c236 c237 c238 c239 c240 c241 c242 c243 c244 c245 c246 c247 c248 c249 c250 c251 c252 c253 c254 c255 c256 c257 c258 c259 c260 c261 c262 c263 c264 c265 c266 c267 c268 c269 c270 c271 c272 c273 c274 c275 c276 c277 c278 c279 : Value)
    (hK : ∀ (u4 u16 u17 u18 u19 u20 u21 u99 u100 u101 u102 u103 u104 u105 u106 u107 u108 u109 u110 u111 u112 u113 u114 u115 u116 u117 u118 u119 u120 u121 u122 u123 u124 u125 u126 u127 u128 u129 u130 u131 u132 u133 u134 u135 u136 u137 u138 u139 u140 u141 u142 u143 u144 u145 u146 u147 u148 u149 u150 u151 u152 u153 u154 u155 u156 u157 u158 u159 u160 u161 u162 u163 u164 u165 u166 u167 u168 u169 u170 u171 u172 u173 u174 u175 vc vp : Value) (dn : Bool) (k : Nat) (wx : World), k ≤ n → (dn = false → k = n) → Played w0 wx b6 b8 vc vp dn fz (M0 + k) → K ⟨#[.slice A n ca, c1, c2, c3, u4, c5, .pointer (some ⟨b6, 0, none⟩), c7, .pointer (some ⟨b8, 0, none⟩), c9, vc, .int .i64 (k : Int), c12, c13, vp, .bool dn, u16, u17, u18, u19, u20, u21, c22, c23, c24, c25, c26, c27, c28, c29, c30, c31, c32, c33, c34, c35, c36, c37, c38, c39, c40, c41, c42, c43, c44, c45, c46, c47, c48, c49, c50, c51, c52, c53, c54, c55, c56, c57, c58, c59, c60, c61, c62, c63, c64, c65, c66, c67, c68, c69, c70, c71, c72, c73, c74, c75, c76, c77, c78, c79, c80, c81, c82, c83, c84, c85, c86, c87, c88, c89, c90, c91, c92, c93, c94, c95, c96, c97, c98, u99, u100, u101, u102, u103, u104, u105, u106, u107, u108, u109, u110, u111, u112, u113, u114, u115, u116, u117, u118, u119, u120, u121, u122, u123, u124, u125, u126, u127, u128, u129, u130, u131, u132, u133, u134, u135, u136, u137, u138, u139, u140, u141, u142, u143, u144, u145, u146, u147, u148, u149, u150, u151, u152, u153, u154, u155, u156, u157, u158, u159, u160, u161, u162, u163, u164, u165, u166, u167, u168, u169, u170, u171, u172, u173, u174, u175, c176, c177, c178, c179, c180, c181, c182, c183, c184, c185, c186, c187, c188, c189, c190, c191, c192, c193, c194, c195, c196, c197, c198, c199, c200, c201, c202, c203, c204, c205, c206, c207, c208, c209, c210, c211, c212, c213, c214, c215, c216, c217, c218, c219, c220, c221, c222, c223, c224, c225, c226, c227, c228, c229, c230, c231, c232, c233, c234, c235, c236, c237, c238, c239, c240, c241, c242, c243, c244, c245, c246, c247, c248, c249, c250, c251, c252, c253, c254, c255, c256, c257, c258, c259, c260, c261, c262, c263, c264, c265, c266, c267, c268, c269, c270, c271, c272, c273, c274, c275, c276, c277, c278, c279], []⟩ wx) :
    Code.wp Tryd.prog (Code.block 4 (jlIn 4)) (Exit.then K Q0) ⟨#[.slice A n ca, c1, c2, c3, c4, c5, .pointer (some ⟨b6, 0, none⟩), c7, .pointer (some ⟨b8, 0, none⟩), c9, vc0, .int .i64 (k0 : Int), c12, c13, vp0, .bool false, c16, c17, c18, c19, c20, c21, c22, c23, c24, c25, c26, c27, c28, c29, c30, c31, c32, c33, c34, c35, c36, c37, c38, c39, c40, c41, c42, c43, c44, c45, c46, c47, c48, c49, c50, c51, c52, c53, c54, c55, c56, c57, c58, c59, c60, c61, c62, c63, c64, c65, c66, c67, c68, c69, c70, c71, c72, c73, c74, c75, c76, c77, c78, c79, c80, c81, c82, c83, c84, c85, c86, c87, c88, c89, c90, c91, c92, c93, c94, c95, c96, c97, c98, c99, c100, c101, c102, c103, c104, c105, c106, c107, c108, c109, c110, c111, c112, c113, c114, c115, c116, c117, c118, c119, c120, c121, c122, c123, c124, c125, c126, c127, c128, c129, c130, c131, c132, c133, c134, c135, c136, c137, c138, c139, c140, c141, c142, c143, c144, c145, c146, c147, c148, c149, c150, c151, c152, c153, c154, c155, c156, c157, c158, c159, c160, c161, c162, c163, c164, c165, c166, c167, c168, c169, c170, c171, c172, c173, c174, c175, c176, c177, c178, c179, c180, c181, c182, c183, c184, c185, c186, c187, c188, c189, c190, c191, c192, c193, c194, c195, c196, c197, c198, c199, c200, c201, c202, c203, c204, c205, c206, c207, c208, c209, c210, c211, c212, c213, c214, c215, c216, c217, c218, c219, c220, c221, c222, c223, c224, c225, c226, c227, c228, c229, c230, c231, c232, c233, c234, c235, c236, c237, c238, c239, c240, c241, c242, c243, c244, c245, c246, c247, c248, c249, c250, c251, c252, c253, c254, c255, c256, c257, c258, c259, c260, c261, c262, c263, c264, c265, c266, c267, c268, c269, c270, c271, c272, c273, c274, c275, c276, c277, c278, c279], []⟩ W := by
  have HK := Lib.hid hK
  have HL := Lib.hid hL
  have HN := Lib.hid hn
  have HROW := Lib.hid hrow
  have HBY := Lib.hid hby
  have HSM := Lib.hid hsm
  have HP := Lib.hid hp
  have HM0 := Lib.hid hM0
  have hn63 : (n : Int) ≤ 9223372036854775807 := by omega
  clear hK hL hn hrow hby hsm hp hM0
  refine wp_mono (Q := Exit.then K noExit) ?_ then_noExit
  conv => arg 2; arg 2; whnf
  go_wp2_with fail
  go_loopw [10, 11, 14, 15] (fun vc ix vp dv wr => ∃ (k : Nat) (dn : Bool), ix = .int .i64 (k : Int) ∧ dv = .bool dn ∧ k ≤ n ∧ Hid (Played w0 wr b6 b8 vc vp dn fz (M0 + k))) (fun vc ix vp dv wr => n - (intOf ix).toNat)
  case atStart => exact ⟨k0, false, rfl, rfl, hk0, Lib.hid HP.out⟩
  case round =>
    rename World => wr
    obtain ⟨k, dn, rfl, rfl, hk, HPL⟩ := hrel
    by_cases hkn : k < n
    case neg =>
      have hdn : decide (k < n) = false := by simp; omega
      have hkk : k = n := by omega
      go_wp2_with fail
      exact HK.out _ _ _ _ _ _ _ _ _ _ _ _ _ _ _ _ _ _ _ _ _ _ _ _ _ _ _ _ _ _ _ _ _ _ _ _ _ _ _ _ _ _ _ _ _ _ _ _ _ _ _ _ _ _ _ _ _ _ _ _ _ _ _ _ _ _ _ _ _ _ _ _ _ _ _ _ _ _ _ _ _ _ _ _ _ _ dn k _ hk (fun _ => hkk) HPL.out
    have hdn : decide (k < n) = true := by simp; omega
    cases dn
    case true =>
      go_wp2_with fail
      exact HK.out _ _ _ _ _ _ _ _ _ _ _ _ _ _ _ _ _ _ _ _ _ _ _ _ _ _ _ _ _ _ _ _ _ _ _ _ _ _ _ _ _ _ _ _ _ _ _ _ _ _ _ _ _ _ _ _ _ _ _ _ _ _ _ _ _ _ _ _ _ _ _ _ _ _ _ _ _ _ _ _ _ _ _ _ _ _ true k _ hk (fun h => by cases h) HPL.out
    obtain ⟨Ac, nc, cc, hvc⟩ := HPL.out.slice
    subst hvc
    obtain ⟨C, d, l, came, perh, h1, h2, h3, h4, h5, h6, h7⟩ := HPL.out
    obtain ⟨a, ha⟩ : ∃ a, L[k]? = some a := ⟨_, List.getElem?_eq_getElem (by have := HN.out; omega)⟩
    obtain ⟨b, o, rfl, hcell⟩ := act_cells HN.out HROW.out ha
    obtain ⟨B, m, kk, hv, hm, hrowB⟩ := (HBY.out a (List.mem_of_getElem? ha)).at_
    rw [hv] at hcell
    have hm5 : m ≤ 5000 := by rw [hm]; exact HSM.out a (List.mem_of_getElem? ha)
    have hM1 : M0 + (k : Int) < 1099511627776 := by have := HM0.out; omega
    have hs3 : IntKind.i64.wrap ((k : Int) + 1) = (k : Int) + 1 := IntWalk.i64_in _ (by omega)
    have HJ5 := Lib.hid (jl5 w0 wr b6 b8 b o n ca k a.1.fold B m kk a.1.record Ac nc cc C d l came (M0 + k) fz HL.out hcell hrowB hm hm5 hkn hn60 h1 h2 (h5 rfl) hM1 (fun h => (h7 h).2))
    clear h1 h2 h3 h4 h5 h6 h7 hcell hv hm hrowB ha hm5 hM1
    go_upto_block 5 with fail
    refine HJ5.out _ _ _ _ _ _ _ _ _ _ _ _ _ _ _ _ _ _ _ _ _ _ _ _ _ _ _ _ _ _ _ _ _ _ _ _ _ _ _ _ _ _ _ _ _ _ _ _ _ _ _ _ _ _ _ _ _ _ _ _ _ _ _ _ _ _ _ _ _ _ _ _ _ _ _ _ _ _ _ _ _ _ _ _ _ _ _ _ _ _ _ _ _ _ _ _ _ _ _ _ _ _ _ _ _ _ _ _ _ _ _ _ _ _ _ _ _ _ _ _ _ _ _ _ _ _ _ _ _ _ _ _ _ _ _ _ _ _ _ _ _ _ _ _ _ _ _ _ _ _ _ _ _ _ _ _ _ _ _ _ _ _ _ _ _ _ _ _ _ _ _ _ _ _ _ _ _ _ _ _ _ _ _ _ _ _ _ _ _ _ _ _ _ _ _ _ _ _ _ _ _ _ _ _ _ _ _ _ _ _ _ _ _ _ _ _ _ _ _ _ _ _ _ _ _ _ _ _ _ _ _ _ _ _ _ _ _ _ _ _ _ _ _ _ _ _ _ _ _ _ _ _ _ _ _ _ _ _ _ _ _ _ _ _ _ _ _ _ _ _ _ _ _ _ _ _ ?_
    intro x16 x17 x18 x19 x20 x21 x109 x110 x111 x112 x113 x114 x115 x116 x117 x118 x119 x120 x121 x122 x123 x124 x125 x126 x127 x128 x129 x130 x131 x132 x133 x134 x135 x136 x137 x138 x139 x140 x141 x142 x143 x144 x145 x146 x147 x148 x149 x150 x151 x152 x153 x154 x155 x156 x157 x158 x159 x160 x161 x162 x163 x164 x165 x166 x167 x168 x169 x170 x171 x172 x173 x174 x175 vc vp dn wx hp
    have HPX := Lib.hid (show Played w0 wx b6 b8 vc vp dn fz (M0 + ((k + 1 : Nat) : Int)) from hp.mono (by omega))
    clear hp HJ5
    go_wp2_with fail
    go_roundw
    case rel => exact ⟨k + 1, dn, by go_num, rfl, by omega, HPX⟩
    case measure => simp [intOf]; omega
end Go.Proofs.YtbhjigejpdbeiaaDoor
