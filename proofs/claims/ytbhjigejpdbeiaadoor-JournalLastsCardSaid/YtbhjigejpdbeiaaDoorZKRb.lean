import Derived.Test.YtbhjigejpdbeiaaDoorZRq
import Derived.Outline
import Derived.OwnWalk
set_option linter.unusedSimpArgs false
set_option linter.unusedVariables false

section
/-
  The code of the reference's sum, block by block.
-/
namespace Go.Proofs.YtbhjigejpdbeiaaDoor
open Go.RowKit Go.Shelf
set_option linter.unusedVariables false

/-- The code of a block. -/
def blockOf (id : Nat) : Code → Option Code
  | .block i c => if i = id then some c else blockOf id c
  | .seq a b => match blockOf id a with
    | some c => some c
    | none => blockOf id b
  | .loop c => blockOf id c
  | .cond _ a b => match blockOf id a with
    | some c => some c
    | none => blockOf id b
  | .scope c => blockOf id c
  | _ => none
noncomputable def rsIn (id : Nat) : Code := (Tryd.f94.body.bind (blockOf id)).getD .skip
end Go.Proofs.YtbhjigejpdbeiaaDoor
end

section
/-
  The reference's sum: the words of a block are laid.
-/
namespace Go.Proofs.YtbhjigejpdbeiaaDoor
open Go.RowKit Go.Shelf
set_option linter.unusedVariables false

set_option maxRecDepth 1000000 in
set_option maxHeartbeats 4000000 in
theorem rs5 (wo W4 : World) (P B : List UInt8) (n ga cap Bm : Nat) (hP : P.length = 192) (hB : B = (P.drop n).take 64) (hn : n ≤ 128) (hc5 : 192 ≤ cap) (hga : ∀ W, Below wo.heap.size wo W → W.rangeAt ga 0 (Lib.byteCells P)) (hBm : Bm = wo.heap.size)
    (h1 : W4.rangeAt Bm 0 (mC B 0)) (h2 : W4.there Bm 0 80) (h3 : Bm < W4.heap.size) (hB4 : Below wo.heap.size wo W4) (K : Act → World → Prop) (Q0 : Exit → Act → World → Prop) (c0 c1 c2 c3 c4 c5 c6 c8 c9 c10 c11 c16 c17 c18 c19 c20 c21 c22 c23 c24 c25 c26 c27 c28 c29 c30 c31 c32 c33 c34 c35 c36 c37 c38 c39 c40 c41 c42 c43 c44 c45 c46 c47 c48 c49 c50 c51 c52 c53 c54 c55 c56 c57 c58 c59 c60 c61 c62 c63 c64 c65 c66 c67 c68 c69 c70 c71 c72 c73 c74 c75 c76 c77 c78 c79 c80 c81 c82 c83 c84 c85 c86 c87 c88 c89 c90 c91 c92 c93 c94 c95 c96 c97 c98 c99 c100 c101 c102 c103 c104 c105 c106 c107 c108 c109 c110 c111 c112 c113 c114 c115 c116 c117 c118 c119 c120 c121 c122 c123 c124 c125 c126 c127 c128 c129 c130 c131 c132 c133 c134 c135 c136 c137 c138 c139 c140 c141 c142 c143 c144 c145 c146 c147 c148 c149 c150 c151 c152 c153 c154 c155 c156 c157 c158 c159 c160 c161 c162 c163 c164 c165 c166 c167 c168 c169 c170 c171 c172 c173 c174 c175 c176 c177 c178 c179 c180 c181 c182 c183 c184 c185 c186 c187 c188 c189 c190 c191 c192 c193 c194 c195 c196 c197 c198 c199 c200 c201 c202 c203 c204 c205 c206 c207 c208 c209 c210 c211 c212 c213 c214 c215 c216 c217 c218 c219 c220 c221 c222 c223 c224 c225 c226 c227 c228 c229 c230 c231 c232 c233 c234 c235 c236 c237 c238 c239 c240 c241 c242 c243 c244 c245 c246 c247 c248 c249 c250 c251 c252 c253 c254 c255 c256 c257 c258 c259 c260 c261 c262 c263 c264 c265 c266 c267 c268 c269 c270 c271 c272 c273 c274 c275 c276 c277 c278 c279 : Value)
    (hK : ∀ (u92 u93 u94 u95 u96 u97 u98 u99 u100 u101 u102 u103 u104 u105 u106 u107 u108 u109 u110 u111 u112 u113 u114 u115 : Value) (wx : World), wx.rangeAt Bm 0 (mC B 64) → wx.there Bm 0 80 → Below wo.heap.size wo wx → Bm < wx.heap.size → K ⟨#[c0, c1, c2, c3, c4, c5, c6, .slice (some ⟨ga, 0, none⟩) 192 cap, c8, c9, c10, c11, .int .i64 4, .int .i64 (n : Int), .pointer (some ⟨Bm, 0, none⟩), .int .i64 64, c16, c17, c18, c19, c20, c21, c22, c23, c24, c25, c26, c27, c28, c29, c30, c31, c32, c33, c34, c35, c36, c37, c38, c39, c40, c41, c42, c43, c44, c45, c46, c47, c48, c49, c50, c51, c52, c53, c54, c55, c56, c57, c58, c59, c60, c61, c62, c63, c64, c65, c66, c67, c68, c69, c70, c71, c72, c73, c74, c75, c76, c77, c78, c79, c80, c81, c82, c83, c84, c85, c86, c87, c88, c89, c90, c91, u92, u93, u94, u95, u96, u97, u98, u99, u100, u101, u102, u103, u104, u105, u106, u107, u108, u109, u110, u111, u112, u113, u114, u115, c116, c117, c118, c119, c120, c121, c122, c123, c124, c125, c126, c127, c128, c129, c130, c131, c132, c133, c134, c135, c136, c137, c138, c139, c140, c141, c142, c143, c144, c145, c146, c147, c148, c149, c150, c151, c152, c153, c154, c155, c156, c157, c158, c159, c160, c161, c162, c163, c164, c165, c166, c167, c168, c169, c170, c171, c172, c173, c174, c175, c176, c177, c178, c179, c180, c181, c182, c183, c184, c185, c186, c187, c188, c189, c190, c191, c192, c193, c194, c195, c196, c197, c198, c199, c200, c201, c202, c203, c204, c205, c206, c207, c208, c209, c210, c211, c212, c213, c214, c215, c216, c217, c218, c219, c220, c221, c222, c223, c224, c225, c226, c227, c228, c229, c230, c231, c232, c233, c234, c235, c236, c237, c238, c239, c240, c241, c242, c243, c244, c245, c246, c247, c248, c249, c250, c251, c252, c253, c254, c255, c256, c257, c258, c259, c260, c261, c262, c263, c264, c265, c266, c267, c268, c269, c270, c271, c272, c273, c274, c275, c276, c277, c278, c279], []⟩ wx) :
    Code.wp Tryd.prog (Code.block 8 (rsIn 8)) (Exit.then K Q0) ⟨#[c0, c1, c2, c3, c4, c5, c6, .slice (some ⟨ga, 0, none⟩) 192 cap, c8, c9, c10, c11, .int .i64 4, .int .i64 (n : Int), .pointer (some ⟨Bm, 0, none⟩), .int .i64 0, c16, c17, c18, c19, c20, c21, c22, c23, c24, c25, c26, c27, c28, c29, c30, c31, c32, c33, c34, c35, c36, c37, c38, c39, c40, c41, c42, c43, c44, c45, c46, c47, c48, c49, c50, c51, c52, c53, c54, c55, c56, c57, c58, c59, c60, c61, c62, c63, c64, c65, c66, c67, c68, c69, c70, c71, c72, c73, c74, c75, c76, c77, c78, c79, c80, c81, c82, c83, c84, c85, c86, c87, c88, c89, c90, c91, c92, c93, c94, c95, c96, c97, c98, c99, c100, c101, c102, c103, c104, c105, c106, c107, c108, c109, c110, c111, c112, c113, c114, c115, c116, c117, c118, c119, c120, c121, c122, c123, c124, c125, c126, c127, c128, c129, c130, c131, c132, c133, c134, c135, c136, c137, c138, c139, c140, c141, c142, c143, c144, c145, c146, c147, c148, c149, c150, c151, c152, c153, c154, c155, c156, c157, c158, c159, c160, c161, c162, c163, c164, c165, c166, c167, c168, c169, c170, c171, c172, c173, c174, c175, c176, c177, c178, c179, c180, c181, c182, c183, c184, c185, c186, c187, c188, c189, c190, c191, c192, c193, c194, c195, c196, c197, c198, c199, c200, c201, c202, c203, c204, c205, c206, c207, c208, c209, c210, c211, c212, c213, c214, c215, c216, c217, c218, c219, c220, c221, c222, c223, c224, c225, c226, c227, c228, c229, c230, c231, c232, c233, c234, c235, c236, c237, c238, c239, c240, c241, c242, c243, c244, c245, c246, c247, c248, c249, c250, c251, c252, c253, c254, c255, c256, c257, c258, c259, c260, c261, c262, c263, c264, c265, c266, c267, c268, c269, c270, c271, c272, c273, c274, c275, c276, c277, c278, c279], []⟩ W4 := by
  have HKK := Lib.hid hK
  have HBD := Lib.hid hB
  have HP := Lib.hid hP
  have HGA := Lib.hid hga
  have HBM := Lib.hid hBm
  have hc5' : (192 : Int) ≤ (cap : Int) := by omega
  have hn128 := hn
  clear hK hB hP hga hBm
  conv => arg 2; arg 2; whnf
  go_wp2_with fail
  go_loopw [15] (fun i wr => ∃ (k : Nat) (i0 : Int), k ≤ 64 ∧ i = .int .i64 i0 ∧ i0 = k ∧ Hid (wr.rangeAt Bm 0 (mC B k)) ∧ Hid (wr.there Bm 0 80) ∧ Hid (Below wo.heap.size wo wr) ∧ Hid (Bm < wr.heap.size)) (fun i _ => 64 - (intOf i).toNat)
  case atStart => exact ⟨0, 0, by omega, rfl, rfl, Lib.hid h1, Lib.hid h2, Lib.hid hB4, Lib.hid h3⟩
  case round =>
    rename World => wq
    obtain ⟨k, i0, hk, rfl, hi0, HRQ, HTQ, HBQ, HSQ⟩ := hrel
    by_cases hk64 : k < 64
    · subst hi0
      obtain ⟨q, hq⟩ : ∃ q, q = k / 4 := ⟨_, rfl⟩
      have hq16 : q < 16 := by omega
      have hsucc : Sha.words B (k + 1) = (Sha.words B k).set q (((Sha.words B k).getD q 0 <<< 8) ||| BitVec.ofNat 32 (B.getD k 0).toNat) := by rw [hq]; rfl
      have hcl := HRQ.out q _ (mC_at B k q hq16)
      rw [Nat.zero_add] at hcl
      have hfl := (HTQ.out q (by omega)).2
      rw [Nat.zero_add] at hfl
      have hbyte : (Lib.byteCells P)[n + k]? = some (.int .u8 (B.getD k 0).toNat) := by
        rw [HBD.out, List.getD_eq_getElem?_getD, List.getElem?_take, if_pos hk64, List.getElem?_drop]
        simp [Lib.byteCells, List.getElem?_map]
        rw [List.getElem?_eq_getElem (by rw [HP.out]; omega)]
        simp
      have hcb := HGA.out wq HBQ.out _ _ hbyte
      rw [Nat.zero_add] at hcb
      have hsh := words_shl B k
      rw [← hq] at hsh
      have hset := mC_set B k hk64 _ (by rw [hsucc, hq])
      rw [← hq] at hset
      have hyr := wi_range ((Sha.words B k).getD q 0)
      have hzz : (((B.getD k 0).toNat : Nat) : Int) = wi (BitVec.ofNat 32 (B.getD k 0).toNat) := by
        have := (B.getD k 0).toNat_lt
        rw [wi_def, BitVec.toNat_ofNat, Nat.mod_eq_of_lt (by omega)]
      rw [hzz] at hcb
      have hzr := wi_range (BitVec.ofNat 32 (B.getD k 0).toNat)
      generalize (Sha.words B k).getD q 0 = y at *
      generalize BitVec.ofNat 32 (B.getD k 0).toNat = z at *
      have HSET := Lib.hid hset
      have hqw : IntKind.i64.wrap (q : Int) = q := IntWalk.i64_in _ (by omega)
      have htd : Int.tdiv (k : Int) 4 = (q : Int) := by rw [Int.tdiv_eq_ediv_of_nonneg (by omega)]; omega
      have hdv : (k : Int) / 4 = (q : Int) := by omega
      have hq0 : (0 : Int) ≤ q := by omega
      have hq1 : (q : Int) < 80 := by omega
      have hnk : IntKind.i64.wrap ((n : Int) + k) = (n : Int) + k := IntWalk.i64_in _ (by omega)
      have hnk0 : (0 : Int) ≤ (n : Int) + k := by omega
      have hnk1 : (n : Int) + k < 192 := by omega
      have hnk2 : ((n : Int) + k).toNat = n + k := by omega
      clear hzz hbyte hset hsucc hq
      go_wp2_with fail
      go_still_tail 18, (by kernel_rfl)
      change wpList _ _ _ _ _ wq.drew
      go_wp2
      go_roundw
      case rel =>
        refine ⟨k + 1, _, by omega, rfl, by omega, Lib.hid ?_, Lib.hid (there_setCell (w := wq.drew) HTQ.out _ _), Lib.hid (HBQ.out.drew.setCell (p := ⟨Bm, q, none⟩) (by rw [HBM.out]; exact Nat.le_refl _) _), Lib.hid (by simpa using HSQ.out)⟩
        have := range_setCell (w := wq.drew) HRQ.out q (.int .u64 (wi (y <<< 8 ||| z))) (by rw [mC_length]; omega)
        rw [HSET.out, Nat.zero_add] at this
        first | exact this | (rw [hsh, bits_or_q]; exact this)
      case measure => simp [intOf]; omega
    · obtain rfl : k = 64 := by omega
      obtain rfl : i0 = 64 := hi0
      go_wp2_with fail
      exact HKK.out _ _ _ _ _ _ _ _ _ _ _ _ _ _ _ _ _ _ _ _ _ _ _ _ _ HRQ.out HTQ.out HBQ.out HSQ.out
end Go.Proofs.YtbhjigejpdbeiaaDoor
end

section
/-
  The reference's sum: the schedule.
-/
namespace Go.Proofs.YtbhjigejpdbeiaaDoor
open Go.RowKit Go.Shelf
set_option linter.unusedVariables false

set_option maxRecDepth 1000000 in
set_option maxHeartbeats 16000000 in
theorem rs6 (wo W4 : World) (l : List W32) (bb Bm : Nat) (hl16 : l.length = 16) (hne : Bm ≠ bb) (hbi : ∀ W, Below wo.heap.size wo W → W.rangeAt bb 0 (iC bitsL)) (hBm : Bm = wo.heap.size) (h1 : W4.rangeAt Bm 0 (sC l 0)) (h2 : W4.there Bm 0 80) (h3 : Bm < W4.heap.size) (hB4 : Below wo.heap.size wo W4) (K : Act → World → Prop) (Q0 : Exit → Act → World → Prop) (c0 c2 c3 c4 c7 c8 c9 c10 c11 c12 c13 c15 c17 c18 c19 c20 c21 c22 c23 c24 c25 c26 c27 c28 c29 c30 c31 c32 c33 c34 c35 c36 c37 c38 c39 c40 c41 c42 c43 c44 c45 c46 c47 c48 c49 c50 c51 c52 c53 c54 c55 c56 c57 c58 c59 c60 c61 c62 c63 c64 c65 c66 c67 c68 c69 c70 c71 c72 c73 c74 c75 c76 c77 c78 c79 c80 c81 c82 c83 c84 c85 c86 c87 c88 c89 c90 c91 c92 c93 c94 c95 c96 c97 c98 c99 c100 c101 c102 c103 c104 c105 c106 c107 c108 c109 c110 c111 c112 c113 c114 c115 c116 c117 c118 c119 c120 c121 c122 c123 c124 c125 c126 c127 c128 c129 c130 c131 c132 c133 c134 c135 c136 c137 c138 c139 c140 c141 c142 c143 c144 c145 c146 c147 c148 c149 c150 c151 c152 c153 c154 c155 c156 c157 c158 c159 c160 c161 c162 c163 c164 c165 c166 c167 c168 c169 c170 c171 c172 c173 c174 c175 c176 c177 c178 c179 c180 c181 c182 c183 c184 c185 c186 c187 c188 c189 c190 c191 c192 c193 c194 c195 c196 c197 c198 c199 c200 c201 c202 c203 c204 c205 c206 c207 c208 c209 c210 c211 c212 c213 c214 c215 c216 c217 c218 c219 c220 c221 c222 c223 c224 c225 c226 c227 c228 c229 c230 c231 c232 c233 c234 c235 c236 c237 c238 c239 c240 c241 c242 c243 c244 c245 c246 c247 c248 c249 c250 c251 c252 c253 c254 c255 c256 c257 c258 c259 c260 c261 c262 c263 c264 c265 c266 c267 c268 c269 c270 c271 c272 c273 c274 c275 c276 c277 c278 c279 : Value)
    (hK : ∀ (u116 u117 u118 u119 u120 u121 u122 u123 u124 u125 u126 u127 u128 u129 u130 u131 u132 u133 u134 u135 u136 u137 u138 u139 u140 u141 u142 u143 u144 u145 u146 u147 u148 u149 u150 u151 : Value) (wx : World), wx.rangeAt Bm 0 (sC l 48) → wx.there Bm 0 80 → Below wo.heap.size wo wx → Bm < wx.heap.size → K ⟨#[c0, .int .i64 32, c2, c3, c4, .pointer (some ⟨bb, 0, none⟩), .int .i64 64, c7, c8, c9, c10, c11, c12, c13, .pointer (some ⟨Bm, 0, none⟩), c15, .int .i64 64, c17, c18, c19, c20, c21, c22, c23, c24, c25, c26, c27, c28, c29, c30, c31, c32, c33, c34, c35, c36, c37, c38, c39, c40, c41, c42, c43, c44, c45, c46, c47, c48, c49, c50, c51, c52, c53, c54, c55, c56, c57, c58, c59, c60, c61, c62, c63, c64, c65, c66, c67, c68, c69, c70, c71, c72, c73, c74, c75, c76, c77, c78, c79, c80, c81, c82, c83, c84, c85, c86, c87, c88, c89, c90, c91, c92, c93, c94, c95, c96, c97, c98, c99, c100, c101, c102, c103, c104, c105, c106, c107, c108, c109, c110, c111, c112, c113, c114, c115, u116, u117, u118, u119, u120, u121, u122, u123, u124, u125, u126, u127, u128, u129, u130, u131, u132, u133, u134, u135, u136, u137, u138, u139, u140, u141, u142, u143, u144, u145, u146, u147, u148, u149, u150, u151, c152, c153, c154, c155, c156, c157, c158, c159, c160, c161, c162, c163, c164, c165, c166, c167, c168, c169, c170, c171, c172, c173, c174, c175, c176, c177, c178, c179, c180, c181, c182, c183, c184, c185, c186, c187, c188, c189, c190, c191, c192, c193, c194, c195, c196, c197, c198, c199, c200, c201, c202, c203, c204, c205, c206, c207, c208, c209, c210, c211, c212, c213, c214, c215, c216, c217, c218, c219, c220, c221, c222, c223, c224, c225, c226, c227, c228, c229, c230, c231, c232, c233, c234, c235, c236, c237, c238, c239, c240, c241, c242, c243, c244, c245, c246, c247, c248, c249, c250, c251, c252, c253, c254, c255, c256, c257, c258, c259, c260, c261, c262, c263, c264, c265, c266, c267, c268, c269, c270, c271, c272, c273, c274, c275, c276, c277, c278, c279], []⟩ wx) :
    Code.wp Tryd.prog (Code.block 10 (rsIn 10)) (Exit.then K Q0) ⟨#[c0, .int .i64 32, c2, c3, c4, .pointer (some ⟨bb, 0, none⟩), .int .i64 64, c7, c8, c9, c10, c11, c12, c13, .pointer (some ⟨Bm, 0, none⟩), c15, .int .i64 16, c17, c18, c19, c20, c21, c22, c23, c24, c25, c26, c27, c28, c29, c30, c31, c32, c33, c34, c35, c36, c37, c38, c39, c40, c41, c42, c43, c44, c45, c46, c47, c48, c49, c50, c51, c52, c53, c54, c55, c56, c57, c58, c59, c60, c61, c62, c63, c64, c65, c66, c67, c68, c69, c70, c71, c72, c73, c74, c75, c76, c77, c78, c79, c80, c81, c82, c83, c84, c85, c86, c87, c88, c89, c90, c91, c92, c93, c94, c95, c96, c97, c98, c99, c100, c101, c102, c103, c104, c105, c106, c107, c108, c109, c110, c111, c112, c113, c114, c115, c116, c117, c118, c119, c120, c121, c122, c123, c124, c125, c126, c127, c128, c129, c130, c131, c132, c133, c134, c135, c136, c137, c138, c139, c140, c141, c142, c143, c144, c145, c146, c147, c148, c149, c150, c151, c152, c153, c154, c155, c156, c157, c158, c159, c160, c161, c162, c163, c164, c165, c166, c167, c168, c169, c170, c171, c172, c173, c174, c175, c176, c177, c178, c179, c180, c181, c182, c183, c184, c185, c186, c187, c188, c189, c190, c191, c192, c193, c194, c195, c196, c197, c198, c199, c200, c201, c202, c203, c204, c205, c206, c207, c208, c209, c210, c211, c212, c213, c214, c215, c216, c217, c218, c219, c220, c221, c222, c223, c224, c225, c226, c227, c228, c229, c230, c231, c232, c233, c234, c235, c236, c237, c238, c239, c240, c241, c242, c243, c244, c245, c246, c247, c248, c249, c250, c251, c252, c253, c254, c255, c256, c257, c258, c259, c260, c261, c262, c263, c264, c265, c266, c267, c268, c269, c270, c271, c272, c273, c274, c275, c276, c277, c278, c279], []⟩ W4 := by
  have HKK := Lib.hid hK
  clear hK
  have HL16 := Lib.hid hl16
  have HNE := Lib.hid hne
  have HBI := Lib.hid hbi
  have HBM := Lib.hid hBm
  clear hl16 hne hbi hBm
  conv => arg 2; arg 2; whnf
  go_wp2_with fail
  go_loopw [16] (fun i wr => ∃ (q : Nat) (i0 : Int), q ≤ 48 ∧ i = .int .i64 i0 ∧ i0 = 16 + (q : Int) ∧ Hid (wr.rangeAt Bm 0 (sC l q)) ∧ Hid (wr.there Bm 0 80) ∧ Hid (Below wo.heap.size wo wr) ∧ Hid (Bm < wr.heap.size)) (fun i _ => 64 - (intOf i).toNat)
  case atStart => exact ⟨0, 16, by omega, rfl, rfl, Lib.hid h1, Lib.hid h2, Lib.hid hB4, Lib.hid h3⟩
  case round =>
    rename World => wq
    obtain ⟨q, i0, hq, rfl, hi0, HRQ, HTQ, HBQ, HSQ⟩ := hrel
    by_cases hq48 : q < 48
    · subst hi0
      have hl16 := HL16.out
      have hnx := sched_next l hl16 q
      have hset := sC_set l hl16 q (by omega)
      have z0 := HRQ.out q _ (sC_at l hl16 q q (by omega))
      have z1 := HRQ.out (q + 1) _ (sC_at l hl16 q (q + 1) (by omega))
      have z2 := HRQ.out (q + 9) _ (sC_at l hl16 q (q + 9) (by omega))
      have z3 := HRQ.out (q + 14) _ (sC_at l hl16 q (q + 14) (by omega))
      obtain ⟨z4, z5⟩ := HTQ.out (16 + q) (by omega)
      obtain ⟨u, hu⟩ := Option.isSome_iff_exists.1 z4
      simp only [Nat.zero_add] at z0 z1 z2 z3 z5 hu
      rw [hnx] at hset
      have HSET := Lib.hid hset
      clear hset hnx
      generalize (Sha.sched l q).getD q 0 = x0 at *
      generalize (Sha.sched l q).getD (q + 1) 0 = x1 at *
      generalize (Sha.sched l q).getD (q + 9) 0 = x2 at *
      generalize (Sha.sched l q).getD (q + 14) 0 = x3 at *
      have hbm := HSQ.out
      have hbi : ∀ j u, (iC bitsL)[j]? = some u → wq.cell? ⟨bb, j, none⟩ = some u := fun j u hu => by
        have := HBI.out wq HBQ.out j u hu
        rwa [Nat.zero_add] at this
      have y0 := hbi 6 _ rfl
      have y1 := hbi 7 _ rfl
      have y2 := hbi 8 _ rfl
      have y3 := hbi 9 _ rfl
      have y4 := hbi 10 _ rfl
      have y5 := hbi 11 _ rfl
      have hbw : bb < wq.heap.size := World.block_lt_of_cell? wq ⟨bb, 6, none⟩ y0
      have hne := HNE.out
      have HK := Lib.hid (show ∀ W, Below wq.heap.size wq W → W.cell? ⟨Bm, q, none⟩ = some (.int .u64 (wi x0)) ∧ W.cell? ⟨Bm, q + 1, none⟩ = some (.int .u64 (wi x1)) ∧ W.cell? ⟨Bm, q + 9, none⟩ = some (.int .u64 (wi x2)) ∧ W.cell? ⟨Bm, q + 14, none⟩ = some (.int .u64 (wi x3)) ∧ W.cell? ⟨bb, 6, none⟩ = some (.int .i64 7) ∧ W.cell? ⟨bb, 7, none⟩ = some (.int .i64 18) ∧ W.cell? ⟨bb, 8, none⟩ = some (.int .i64 3) ∧ W.cell? ⟨bb, 9, none⟩ = some (.int .i64 17) ∧ W.cell? ⟨bb, 10, none⟩ = some (.int .i64 19) ∧ W.cell? ⟨bb, 11, none⟩ = some (.int .i64 10) ∧ W.cell? ⟨Bm, 16 + q, none⟩ = some (cellOf W ⟨Bm, 16 + q, none⟩) ∧ W.frozen? ⟨Bm, 16 + q, none⟩ = false from
        fun W hW => ⟨(hW.cell (p := ⟨Bm, q, none⟩) hbm).trans z0, (hW.cell (p := ⟨Bm, q + 1, none⟩) hbm).trans z1, (hW.cell (p := ⟨Bm, q + 9, none⟩) hbm).trans z2, (hW.cell (p := ⟨Bm, q + 14, none⟩) hbm).trans z3, (hW.cell (p := ⟨bb, 6, none⟩) hbw).trans y0, (hW.cell (p := ⟨bb, 7, none⟩) hbw).trans y1, (hW.cell (p := ⟨bb, 8, none⟩) hbw).trans y2, (hW.cell (p := ⟨bb, 9, none⟩) hbw).trans y3, (hW.cell (p := ⟨bb, 10, none⟩) hbw).trans y4, (hW.cell (p := ⟨bb, 11, none⟩) hbw).trans y5, cellOf_some ((hW.cell (p := ⟨Bm, 16 + q, none⟩) hbm).trans hu), (hW.frozen (p := ⟨Bm, 16 + q, none⟩) hbm).trans z5⟩)
      have HKS := Lib.hid (show ∀ W v, Below wq.heap.size wq W → (W.setCell ⟨Bm, 16 + q, none⟩ v).cell? ⟨Bm, q, none⟩ = some (.int .u64 (wi x0)) ∧ (W.setCell ⟨Bm, 16 + q, none⟩ v).cell? ⟨Bm, q + 1, none⟩ = some (.int .u64 (wi x1)) ∧ (W.setCell ⟨Bm, 16 + q, none⟩ v).cell? ⟨Bm, q + 9, none⟩ = some (.int .u64 (wi x2)) ∧ (W.setCell ⟨Bm, 16 + q, none⟩ v).cell? ⟨Bm, q + 14, none⟩ = some (.int .u64 (wi x3)) ∧ (W.setCell ⟨Bm, 16 + q, none⟩ v).cell? ⟨bb, 6, none⟩ = some (.int .i64 7) ∧ (W.setCell ⟨Bm, 16 + q, none⟩ v).cell? ⟨bb, 7, none⟩ = some (.int .i64 18) ∧ (W.setCell ⟨Bm, 16 + q, none⟩ v).cell? ⟨bb, 8, none⟩ = some (.int .i64 3) ∧ (W.setCell ⟨Bm, 16 + q, none⟩ v).cell? ⟨bb, 9, none⟩ = some (.int .i64 17) ∧ (W.setCell ⟨Bm, 16 + q, none⟩ v).cell? ⟨bb, 10, none⟩ = some (.int .i64 19) ∧ (W.setCell ⟨Bm, 16 + q, none⟩ v).cell? ⟨bb, 11, none⟩ = some (.int .i64 10) ∧ (W.setCell ⟨Bm, 16 + q, none⟩ v).cell? ⟨Bm, 16 + q, none⟩ = some (cellOf (W.setCell ⟨Bm, 16 + q, none⟩ v) ⟨Bm, 16 + q, none⟩) ∧ (W.setCell ⟨Bm, 16 + q, none⟩ v).frozen? ⟨Bm, 16 + q, none⟩ = false from
        fun W v hW => by
          obtain ⟨a0, a1, a2, a3, a4, a5, a6, a7, a8, a9, a10, a11⟩ := HK.out W hW
          refine ⟨?_, ?_, ?_, ?_, ?_, ?_, ?_, ?_, ?_, ?_, ?_, ?_⟩
          · rw [World.cell?_setCell_other _ _ _ _ (by intro e; injection e with e1 e2; omega)]; exact a0
          · rw [World.cell?_setCell_other _ _ _ _ (by intro e; injection e with e1 e2; omega)]; exact a1
          · rw [World.cell?_setCell_other _ _ _ _ (by intro e; injection e with e1 e2; omega)]; exact a2
          · rw [World.cell?_setCell_other _ _ _ _ (by intro e; injection e with e1 e2; omega)]; exact a3
          · rw [World.cell?_setCell_other _ _ _ _ (by intro e; injection e with e1 e2; omega)]; exact a4
          · rw [World.cell?_setCell_other _ _ _ _ (by intro e; injection e with e1 e2; omega)]; exact a5
          · rw [World.cell?_setCell_other _ _ _ _ (by intro e; injection e with e1 e2; omega)]; exact a6
          · rw [World.cell?_setCell_other _ _ _ _ (by intro e; injection e with e1 e2; omega)]; exact a7
          · rw [World.cell?_setCell_other _ _ _ _ (by intro e; injection e with e1 e2; omega)]; exact a8
          · rw [World.cell?_setCell_other _ _ _ _ (by intro e; injection e with e1 e2; omega)]; exact a9
          · exact cellOf_some (World.cell?_setCell_same _ _ _ a10)
          · rw [World.frozen?_setCell]; exact a11)
      clear z0 z1 z2 z3 z4 z5 hu y0 y1 y2 y3 y4 y5 hbi
      have s0 : IntKind.i64.wrap (16 + (q : Int) - 16) = q := (IntWalk.i64_in _ (by omega)).trans (by omega)
      have s0' : IntKind.i64.wrap (q : Int) = q := IntWalk.i64_in _ (by omega)
      have s1 : IntKind.i64.wrap (16 + (q : Int) - 15) = (q : Int) + 1 := (IntWalk.i64_in _ (by omega)).trans (by omega)
      have s2 : IntKind.i64.wrap (16 + (q : Int) - 7) = (q : Int) + 9 := (IntWalk.i64_in _ (by omega)).trans (by omega)
      have s3 : IntKind.i64.wrap (16 + (q : Int) - 2) = (q : Int) + 14 := (IntWalk.i64_in _ (by omega)).trans (by omega)
      have t1 : ((q : Int) + 1).toNat = q + 1 := by omega
      have t2 : ((q : Int) + 9).toNat = q + 9 := by omega
      have t3 : ((q : Int) + 14).toNat = q + 14 := by omega
      have t4 : (16 + (q : Int)).toNat = 16 + q := by omega
      have u0 : (0 : Int) ≤ q := by omega
      have u1 : (0 : Int) ≤ (q : Int) + 1 := by omega
      have u2 : (0 : Int) ≤ (q : Int) + 9 := by omega
      have u3 : (0 : Int) ≤ (q : Int) + 14 := by omega
      have u4 : (0 : Int) ≤ 16 + (q : Int) := by omega
      have v0 : (q : Int) < 80 := by omega
      have v1 : (q : Int) + 1 < 80 := by omega
      have v2' : (q : Int) + 9 < 80 := by omega
      have v3' : (q : Int) + 14 < 80 := by omega
      have v4' : 16 + (q : Int) < 80 := by omega
      have hb0 : Below wq.heap.size wq wq.drew := (Below.refl _ _).drew
      go_wp2_with fail
      go_region_held3 (fun W => W.cell? ⟨Bm, q, none⟩ = some (.int .u64 (wi x0)) ∧ W.cell? ⟨Bm, q + 1, none⟩ = some (.int .u64 (wi x1)) ∧ W.cell? ⟨Bm, q + 9, none⟩ = some (.int .u64 (wi x2)) ∧ W.cell? ⟨Bm, q + 14, none⟩ = some (.int .u64 (wi x3)) ∧ W.cell? ⟨bb, 6, none⟩ = some (.int .i64 7) ∧ W.cell? ⟨bb, 7, none⟩ = some (.int .i64 18) ∧ W.cell? ⟨bb, 8, none⟩ = some (.int .i64 3) ∧ W.cell? ⟨bb, 9, none⟩ = some (.int .i64 17) ∧ W.cell? ⟨bb, 10, none⟩ = some (.int .i64 19) ∧ W.cell? ⟨bb, 11, none⟩ = some (.int .i64 10) ∧ W.cell? ⟨Bm, 16 + q, none⟩ = some (cellOf W ⟨Bm, 16 + q, none⟩) ∧ W.frozen? ⟨Bm, 16 + q, none⟩ = false)
        (first | exact HK.out _ (by assumption) | exact HKS.out _ _ (by assumption))
        (first
          | (go_at_call 105
             (with_reducible refine (rsmall0_b (W0 := wq) (by assumption) x1).mono ?_)
             rintro e w' ⟨rfl, hbb⟩)
          | (go_at_call 105
             (with_reducible refine (rsmall1_b (W0 := wq) (by assumption) x3).mono ?_)
             rintro e w' ⟨rfl, hbb⟩)
          | (go_at_call 104
             (with_reducible refine (cut4_f _ x0 (Sha.small0 x1) x2 (Sha.small1 x3)).mono ?_)
             rintro e w' ⟨rfl, rfl⟩))
      go_wp2
      go_roundw
      case rel =>
        refine ⟨q + 1, _, by omega, rfl, by omega, Lib.hid ?_, Lib.hid (there_setCell (there_below HTQ.out hbb hbm) _ _), Lib.hid ((below_chain HBQ.out hbb).setCell (p := ⟨Bm, 16 + q, none⟩) (by rw [HBM.out]; exact Nat.le_refl _) _), Lib.hid (by have := hbb.size; simp; omega)⟩
        have := range_setCell (range_below HRQ.out hbb hbm) (16 + q) (.int .u64 (wi (x0 + Sha.small0 x1 + x2 + Sha.small1 x3))) (by rw [sC_length l HL16.out q (by omega)]; omega)
        rw [HSET.out, Nat.zero_add] at this
        exact this
      case measure => simp [intOf]; omega
    · obtain rfl : q = 48 := by omega
      obtain rfl : i0 = 64 := by omega
      clear hi0
      go_wp2_with fail
      exact HKK.out _ _ _ _ _ _ _ _ _ _ _ _ _ _ _ _ _ _ _ _ _ _ _ _ _ _ _ _ _ _ _ _ _ _ _ _ _ HRQ.out HTQ.out HBQ.out HSQ.out
end Go.Proofs.YtbhjigejpdbeiaaDoor
end

section
/-
  The reference's sum: the rounds.
-/
namespace Go.Proofs.YtbhjigejpdbeiaaDoor
open Go.RowKit Go.Shelf
set_option linter.unusedVariables false

set_option maxRecDepth 1000000 in
set_option maxHeartbeats 16000000 in
theorem rs7 (wq W7 : World) (M : List W32) (S : Sha.St) (bb Bm Bv : Nat) (hfx : ∀ W, Below wq.heap.size wq W → W.rangeAt bb 0 (iC bitsL) ∧ LaidR W) (hmc : ∀ W, Below wq.heap.size wq W → ∀ k, k < 64 → W.cell? ⟨Bm, k, none⟩ = some (.int .u64 (wi (M.getD k 0)))) (hBv : Bv = wq.heap.size) (h1 : W7.rangeAt Bv 0 (qW S.list)) (h2 : W7.there Bv 0 8) (h3 : Bv < W7.heap.size) (hB7 : Below wq.heap.size wq W7) (K : Act → World → Prop) (Q0 : Exit → Act → World → Prop) (c0 c2 c3 c4 c7 c8 c9 c10 c11 c12 c13 c15 c16 c19 c20 c21 c22 c23 c24 c25 c26 c27 c28 c29 c30 c31 c32 c33 c34 c35 c36 c37 c38 c39 c40 c41 c42 c43 c44 c45 c46 c47 c48 c49 c50 c51 c52 c53 c54 c55 c56 c57 c58 c59 c60 c61 c62 c63 c64 c65 c66 c67 c68 c69 c70 c71 c72 c73 c74 c75 c76 c77 c78 c79 c80 c81 c82 c83 c84 c85 c86 c87 c88 c89 c90 c91 c92 c93 c94 c95 c96 c97 c98 c99 c100 c101 c102 c103 c104 c105 c106 c107 c108 c109 c110 c111 c112 c113 c114 c115 c116 c117 c118 c119 c120 c121 c122 c123 c124 c125 c126 c127 c128 c129 c130 c131 c132 c133 c134 c135 c136 c137 c138 c139 c140 c141 c142 c143 c144 c145 c146 c147 c148 c149 c150 c151 c152 c153 c154 c155 c156 c157 c158 c159 c160 c161 c162 c163 c164 c165 c166 c167 c168 c169 c170 c171 c172 c173 c174 c175 c176 c177 c178 c179 c180 c181 c182 c183 c184 c185 c186 c187 c188 c189 c190 c191 c192 c193 c194 c195 c196 c197 c198 c199 c200 c201 c202 c203 c204 c205 c206 c207 c208 c209 c210 c211 c212 c213 c214 c215 c216 c217 c218 c219 c220 c221 c222 c223 c224 c225 c226 c227 c228 c229 c230 c231 c232 c233 c234 c235 c236 c237 c238 c239 c240 c241 c242 c243 c244 c245 c246 c247 c248 c249 c250 c251 c252 c253 c254 c255 c256 c257 c258 c259 c260 c261 c262 c263 c264 c265 c266 c267 c268 c269 c270 c271 c272 c273 c274 c275 c276 c277 c278 c279 : Value)
    (hK : ∀ (u19 u20 u153 u154 u155 u156 u157 u158 u159 u160 u161 u162 u163 u164 u165 u166 u167 u168 u169 u170 u171 u172 u173 u174 u175 u176 u177 u178 u179 u180 u181 u182 u183 u184 u185 u186 u187 u188 u189 u190 u191 u192 u193 u194 u195 u196 u197 u198 u199 u200 u201 u202 u203 u204 u205 u206 u207 u208 u209 u210 u211 u212 u213 u214 u215 u216 u217 u218 u219 u220 u221 u222 u223 u224 u225 u226 u227 u228 u229 u230 u231 u232 u233 u234 u235 u236 u237 u238 u239 u240 u241 u242 u243 : Value) (wx : World), wx.rangeAt Bv 0 (qW (Sha.runs M S 64).list) → wx.there Bv 0 8 → Below wq.heap.size wq wx → Bv < wx.heap.size → K ⟨#[c0, .int .i64 32, c2, c3, c4, .pointer (some ⟨bb, 0, none⟩), .int .i64 64, c7, c8, c9, c10, c11, c12, c13, .pointer (some ⟨Bm, 0, none⟩), c15, c16, .pointer (some ⟨Bv, 0, none⟩), .int .i64 64, u19, u20, c21, c22, c23, c24, c25, c26, c27, c28, c29, c30, c31, c32, c33, c34, c35, c36, c37, c38, c39, c40, c41, c42, c43, c44, c45, c46, c47, c48, c49, c50, c51, c52, c53, c54, c55, c56, c57, c58, c59, c60, c61, c62, c63, c64, c65, c66, c67, c68, c69, c70, c71, c72, c73, c74, c75, c76, c77, c78, c79, c80, c81, c82, c83, c84, c85, c86, c87, c88, c89, c90, c91, c92, c93, c94, c95, c96, c97, c98, c99, c100, c101, c102, c103, c104, c105, c106, c107, c108, c109, c110, c111, c112, c113, c114, c115, c116, c117, c118, c119, c120, c121, c122, c123, c124, c125, c126, c127, c128, c129, c130, c131, c132, c133, c134, c135, c136, c137, c138, c139, c140, c141, c142, c143, c144, c145, c146, c147, c148, c149, c150, c151, c152, u153, u154, u155, u156, u157, u158, u159, u160, u161, u162, u163, u164, u165, u166, u167, u168, u169, u170, u171, u172, u173, u174, u175, u176, u177, u178, u179, u180, u181, u182, u183, u184, u185, u186, u187, u188, u189, u190, u191, u192, u193, u194, u195, u196, u197, u198, u199, u200, u201, u202, u203, u204, u205, u206, u207, u208, u209, u210, u211, u212, u213, u214, u215, u216, u217, u218, u219, u220, u221, u222, u223, u224, u225, u226, u227, u228, u229, u230, u231, u232, u233, u234, u235, u236, u237, u238, u239, u240, u241, u242, u243, c244, c245, c246, c247, c248, c249, c250, c251, c252, c253, c254, c255, c256, c257, c258, c259, c260, c261, c262, c263, c264, c265, c266, c267, c268, c269, c270, c271, c272, c273, c274, c275, c276, c277, c278, c279], []⟩ wx) :
    Code.wp Tryd.prog (Code.block 12 (rsIn 12)) (Exit.then K Q0) ⟨#[c0, .int .i64 32, c2, c3, c4, .pointer (some ⟨bb, 0, none⟩), .int .i64 64, c7, c8, c9, c10, c11, c12, c13, .pointer (some ⟨Bm, 0, none⟩), c15, c16, .pointer (some ⟨Bv, 0, none⟩), .int .i64 0, c19, c20, c21, c22, c23, c24, c25, c26, c27, c28, c29, c30, c31, c32, c33, c34, c35, c36, c37, c38, c39, c40, c41, c42, c43, c44, c45, c46, c47, c48, c49, c50, c51, c52, c53, c54, c55, c56, c57, c58, c59, c60, c61, c62, c63, c64, c65, c66, c67, c68, c69, c70, c71, c72, c73, c74, c75, c76, c77, c78, c79, c80, c81, c82, c83, c84, c85, c86, c87, c88, c89, c90, c91, c92, c93, c94, c95, c96, c97, c98, c99, c100, c101, c102, c103, c104, c105, c106, c107, c108, c109, c110, c111, c112, c113, c114, c115, c116, c117, c118, c119, c120, c121, c122, c123, c124, c125, c126, c127, c128, c129, c130, c131, c132, c133, c134, c135, c136, c137, c138, c139, c140, c141, c142, c143, c144, c145, c146, c147, c148, c149, c150, c151, c152, c153, c154, c155, c156, c157, c158, c159, c160, c161, c162, c163, c164, c165, c166, c167, c168, c169, c170, c171, c172, c173, c174, c175, c176, c177, c178, c179, c180, c181, c182, c183, c184, c185, c186, c187, c188, c189, c190, c191, c192, c193, c194, c195, c196, c197, c198, c199, c200, c201, c202, c203, c204, c205, c206, c207, c208, c209, c210, c211, c212, c213, c214, c215, c216, c217, c218, c219, c220, c221, c222, c223, c224, c225, c226, c227, c228, c229, c230, c231, c232, c233, c234, c235, c236, c237, c238, c239, c240, c241, c242, c243, c244, c245, c246, c247, c248, c249, c250, c251, c252, c253, c254, c255, c256, c257, c258, c259, c260, c261, c262, c263, c264, c265, c266, c267, c268, c269, c270, c271, c272, c273, c274, c275, c276, c277, c278, c279], []⟩ W7 := by
  have HKK := Lib.hid hK
  clear hK
  have HFX := Lib.hid hfx
  have HMC := Lib.hid hmc
  have HBV := Lib.hid hBv
  clear hfx hmc hBv
  conv => arg 2; arg 2; whnf
  go_wp2_with fail
  go_loopw [18] (fun i wr => ∃ (k : Nat) (i0 : Int), k ≤ 64 ∧ i = .int .i64 i0 ∧ i0 = (k : Int) ∧ Hid (wr.rangeAt Bv 0 (qW (Sha.runs M S k).list)) ∧ Hid (wr.there Bv 0 8) ∧ Hid (Below wq.heap.size wq wr) ∧ Hid (Bv < wr.heap.size)) (fun i _ => 64 - (intOf i).toNat)
  case atStart => exact ⟨0, 0, by omega, rfl, rfl, Lib.hid h1, Lib.hid h2, Lib.hid hB7, Lib.hid h3⟩
  case round =>
    rename World => wz
    obtain ⟨k, i0, hk, rfl, hi0, HRV, HTV, HBZ, HSV⟩ := hrel
    by_cases hk64 : k < 64
    · subst hi0
      have hrun : Sha.runs M S (k + 1) = Sha.round (Sha.runs M S k) (Sha.K k) (M.getD k 0) := rfl
      have HMW := HMC.out wz HBZ.out k hk64
      obtain ⟨rn, hr1, hr2⟩ := roots_q k (by omega)
      have hbi := HFX.out wz HBZ.out
      have hcr := hbi.2.rroots k _ hr1
      rw [Nat.zero_add] at hcr
      have hbits := hbi.1
      have hrv := HRV.out
      generalize Sha.runs M S k = R at *
      generalize M.getD k 0 = xm at *
      have hbv := HSV.out
      have HRUN := Lib.hid hrun
      have HK6 := Lib.hid (show ∀ W, Below wz.heap.size wz W → W.cell? ⟨Bv, 4, none⟩ = some (.int .u64 (wi R.e)) ∧ W.cell? ⟨Bv, 5, none⟩ = some (.int .u64 (wi R.f)) ∧ W.cell? ⟨Bv, 6, none⟩ = some (.int .u64 (wi R.g)) ∧ W.cell? ⟨Bv, 7, none⟩ = some (.int .u64 (wi R.h)) ∧ W.cell? ⟨bb, 3, none⟩ = some (.int .i64 6) ∧ W.cell? ⟨bb, 4, none⟩ = some (.int .i64 11) ∧ W.cell? ⟨bb, 5, none⟩ = some (.int .i64 25) ∧ W.cell? ⟨3, k, none⟩ = some (.int .u64 (rn : Int)) ∧ W.cell? ⟨Bm, k, none⟩ = some (.int .u64 (wi xm)) from fun W hW => by
        have hbw : bb < wz.heap.size := World.block_lt_of_cell? wz ⟨bb, 3, none⟩ (by have := hbits 3 _ rfl; rwa [Nat.zero_add] at this)
        have c : ∀ j u, (qW R.list)[j]? = some u → W.cell? ⟨Bv, j, none⟩ = some u := fun j u hu => (hW.cell (p := ⟨Bv, j, none⟩) hbv).trans (by have := hrv j u hu; rwa [Nat.zero_add] at this)
        have d : ∀ j u, (iC bitsL)[j]? = some u → W.cell? ⟨bb, j, none⟩ = some u := fun j u hu => (hW.cell (p := ⟨bb, j, none⟩) hbw).trans (by have := hbits j u hu; rwa [Nat.zero_add] at this)
        exact ⟨c 4 _ rfl, c 5 _ rfl, c 6 _ rfl, c 7 _ rfl, d 3 _ rfl, d 4 _ rfl, d 5 _ rfl, (hW.cell (p := ⟨3, k, none⟩) (World.block_lt_of_cell? wz ⟨3, k, none⟩ hcr)).trans hcr, (hW.cell (p := ⟨Bm, k, none⟩) (World.block_lt_of_cell? wz ⟨Bm, k, none⟩ HMW)).trans HMW⟩)
      have HK7 := Lib.hid (show ∀ W, Below wz.heap.size wz W → W.cell? ⟨Bv, 0, none⟩ = some (.int .u64 (wi R.a)) ∧ W.cell? ⟨Bv, 1, none⟩ = some (.int .u64 (wi R.b)) ∧ W.cell? ⟨Bv, 2, none⟩ = some (.int .u64 (wi R.c)) ∧ W.cell? ⟨bb, 0, none⟩ = some (.int .i64 2) ∧ W.cell? ⟨bb, 1, none⟩ = some (.int .i64 13) ∧ W.cell? ⟨bb, 2, none⟩ = some (.int .i64 22) from fun W hW => by
        have hbw : bb < wz.heap.size := World.block_lt_of_cell? wz ⟨bb, 3, none⟩ (by have := hbits 3 _ rfl; rwa [Nat.zero_add] at this)
        have c : ∀ j u, (qW R.list)[j]? = some u → W.cell? ⟨Bv, j, none⟩ = some u := fun j u hu => (hW.cell (p := ⟨Bv, j, none⟩) hbv).trans (by have := hrv j u hu; rwa [Nat.zero_add] at this)
        have d : ∀ j u, (iC bitsL)[j]? = some u → W.cell? ⟨bb, j, none⟩ = some u := fun j u hu => (hW.cell (p := ⟨bb, j, none⟩) hbw).trans (by have := hbits j u hu; rwa [Nat.zero_add] at this)
        exact ⟨c 0 _ rfl, c 1 _ rfl, c 2 _ rfl, d 0 _ rfl, d 1 _ rfl, d 2 _ rfl⟩)
      have HK8 := Lib.hid (show ∀ W, Below wz.heap.size wz W → W.cell? ⟨Bv, 0, none⟩ = some (.int .u64 (wi R.a)) ∧ W.cell? ⟨Bv, 1, none⟩ = some (.int .u64 (wi R.b)) ∧ W.cell? ⟨Bv, 2, none⟩ = some (.int .u64 (wi R.c)) ∧ W.cell? ⟨Bv, 3, none⟩ = some (.int .u64 (wi R.d)) ∧ W.cell? ⟨Bv, 4, none⟩ = some (.int .u64 (wi R.e)) ∧ W.cell? ⟨Bv, 5, none⟩ = some (.int .u64 (wi R.f)) ∧ W.cell? ⟨Bv, 6, none⟩ = some (.int .u64 (wi R.g)) from fun W hW => by
        have c : ∀ j u, (qW R.list)[j]? = some u → W.cell? ⟨Bv, j, none⟩ = some u := fun j u hu => (hW.cell (p := ⟨Bv, j, none⟩) hbv).trans (by have := hrv j u hu; rwa [Nat.zero_add] at this)
        exact ⟨c 0 _ rfl, c 1 _ rfl, c 2 _ rfl, c 3 _ rfl, c 4 _ rfl, c 5 _ rfl, c 6 _ rfl⟩)
      have HST8 := Lib.hid (show ∀ W, Below wz.heap.size wz W → W.there Bv 0 8 from fun W hW => there_below HTV.out hW hbv)
      clear hbi hbits hcr hrv hr1 hrun HMW
      have hr3 : (rn : Int) / 2 ^ min (IntKind.u64.wrap (IntKind.i64.wrap 32)).toNat 64 = wi (Sha.K k) := hr2
      have kw : IntKind.i64.wrap (k : Int) = k := IntWalk.i64_in _ (by omega)
      have k0 : (0 : Int) ≤ k := by omega
      have k1 : (k : Int) < 80 := by omega
      have hb0 : Below wz.heap.size wz wz.drew := (Below.refl _ _).drew
      go_wp2_with fail
      go_region_held3 (fun W => W.cell? ⟨Bv, 4, none⟩ = some (.int .u64 (wi R.e)) ∧ W.cell? ⟨Bv, 5, none⟩ = some (.int .u64 (wi R.f)) ∧ W.cell? ⟨Bv, 6, none⟩ = some (.int .u64 (wi R.g)) ∧ W.cell? ⟨Bv, 7, none⟩ = some (.int .u64 (wi R.h)) ∧ W.cell? ⟨bb, 3, none⟩ = some (.int .i64 6) ∧ W.cell? ⟨bb, 4, none⟩ = some (.int .i64 11) ∧ W.cell? ⟨bb, 5, none⟩ = some (.int .i64 25) ∧ W.cell? ⟨3, k, none⟩ = some (.int .u64 (rn : Int)) ∧ W.cell? ⟨Bm, k, none⟩ = some (.int .u64 (wi xm))) (exact HK6.out _ (by assumption))
        (first
          | (go_at_call 105
             (with_reducible refine (rbig1_b (W0 := wz) (by assumption) R.e).mono ?_)
             rintro e wy ⟨rfl, hby⟩)
          | (go_at_call 104
             (with_reducible refine (cut5_f _ R.h (Sha.big1 R.e) ((R.e &&& R.f) ^^^ (~~~R.e &&& R.g)) (Sha.K k) xm).mono ?_)
             rintro e w' ⟨rfl, rfl⟩))
      rename World => wy
      have hb1 : Below wz.heap.size wz wy.drew := hby.drew
      clear hb0
      go_wp2_with fail
      go_region_held3 (fun W => W.cell? ⟨Bv, 0, none⟩ = some (.int .u64 (wi R.a)) ∧ W.cell? ⟨Bv, 1, none⟩ = some (.int .u64 (wi R.b)) ∧ W.cell? ⟨Bv, 2, none⟩ = some (.int .u64 (wi R.c)) ∧ W.cell? ⟨bb, 0, none⟩ = some (.int .i64 2) ∧ W.cell? ⟨bb, 1, none⟩ = some (.int .i64 13) ∧ W.cell? ⟨bb, 2, none⟩ = some (.int .i64 22)) (exact HK7.out _ (by assumption))
        (first
          | (go_at_call 105
             (with_reducible refine (rbig0_b (W0 := wz) (by assumption) R.a).mono ?_)
             rintro e wx ⟨rfl, hbx⟩)
          | (go_at_call 104
             (with_reducible refine (cut2_f _ (Sha.big0 R.a) ((R.a &&& R.b) ^^^ (R.a &&& R.c) ^^^ (R.b &&& R.c))).mono ?_)
             rintro e w' ⟨rfl, rfl⟩))
      rename World => wx
      have hb2 : Below wz.heap.size wz wx.drew := hbx.drew
      obtain ⟨y0, y1, y2, y3, y4, y5, y6⟩ := HK8.out _ hb2
      have hst8 : (q8Set ⟨Bv, 0, none⟩ (.agg #[.int .u64 (wi ((R.h + Sha.big1 R.e + (R.e &&& R.f ^^^ ~~~R.e &&& R.g) + Sha.K k + xm) + (Sha.big0 R.a + (R.a &&& R.b ^^^ R.a &&& R.c ^^^ R.b &&& R.c)))), .int .u64 (wi R.a), .int .u64 (wi R.b), .int .u64 (wi R.c), .int .u64 (wi (R.d + (R.h + Sha.big1 R.e + (R.e &&& R.f ^^^ ~~~R.e &&& R.g) + Sha.K k + xm))), .int .u64 (wi R.e), .int .u64 (wi R.f), .int .u64 (wi R.g)])).run Tryd.prog wx.drew = .ok () (wx.drew.setCells Bv 0 (qW (Sha.round R (Sha.K k) xm).list)) := store_round (HST8.out _ hb2) R (Sha.K k) xm
      have HFIN := Lib.hid (show (wx.drew.setCells Bv 0 (qW (Sha.round R (Sha.K k) xm).list)).rangeAt Bv 0 (qW (Sha.round R (Sha.K k) xm).list) from World.rangeAt_setCells_same _ _ _ _ (HST8.out _ hb2))
      have HBX := Lib.hid hb2
      clear hb1 hb2 hby hbx kw k0 k1 hr2 hr3
      go_wp2_with fail
      go_still_tail 24, (by kernel_rfl)
      still_call (cut2_f _ _ _)
      repeat still_step
      still_call (cut2_f _ _ _)
      repeat still_step
      refine wpStill_nil ?_
      change wpList _ _ _ _ _ wx.drew
      go_wp2
      go_roundw
      case rel =>
        refine ⟨k + 1, _, by omega, rfl, by omega, Lib.hid ?_, Lib.hid ?_, Lib.hid ?_, Lib.hid ?_⟩
        · rw [HRUN.out]; exact HFIN.out
        · exact World.there_setCells (HST8.out _ HBX.out) _ _ _
        · exact below_setCells _ (by rw [HBV.out]; exact Nat.le_refl _) _ _ _ (below_chain HBZ.out HBX.out)
        · rw [size_setCells]; have := HBX.out.size; omega
      case measure => simp [intOf]; omega
    · obtain rfl : k = 64 := by omega
      obtain rfl : i0 = 64 := by omega
      clear hi0
      go_wp2_with fail
      exact HKK.out _ _ _ _ _ _ _ _ _ _ _ _ _ _ _ _ _ _ _ _ _ _ _ _ _ _ _ _ _ _ _ _ _ _ _ _ _ _ _ _ _ _ _ _ _ _ _ _ _ _ _ _ _ _ _ _ _ _ _ _ _ _ _ _ _ _ _ _ _ _ _ _ _ _ _ _ _ _ _ _ _ _ _ _ _ _ _ _ _ _ _ _ _ _ HRV.out HTV.out HBZ.out HSV.out
end Go.Proofs.YtbhjigejpdbeiaaDoor
end

section
/-
  The reference's sum: the state is added.
-/
namespace Go.Proofs.YtbhjigejpdbeiaaDoor
open Go.RowKit Go.Shelf
set_option linter.unusedVariables false

set_option maxRecDepth 1000000 in
set_option maxHeartbeats 16000000 in
theorem rs8 (wz : World) (S R : Sha.St) (Bh Bv : Nat) (hne : Bv ≠ Bh) (hrv : wz.rangeAt Bv 0 (qW R.list)) (hsv : Bv < wz.heap.size) (h1 : wz.rangeAt Bh 0 (aQ S R 0)) (h2 : wz.there Bh 0 8) (Q : Exit → Act → World → Prop) (c0 c2 c3 c4 c5 c6 c7 c8 c9 c11 c12 c13 c14 c15 c16 c18 c19 c20 c22 c23 c24 c25 c26 c27 c28 c29 c30 c31 c32 c33 c34 c35 c36 c37 c38 c39 c40 c41 c42 c43 c44 c45 c46 c47 c48 c49 c50 c51 c52 c53 c54 c55 c56 c57 c58 c59 c60 c61 c62 c63 c64 c65 c66 c67 c68 c69 c70 c71 c72 c73 c74 c75 c76 c77 c78 c79 c80 c81 c82 c83 c84 c85 c86 c87 c88 c89 c90 c91 c92 c93 c94 c95 c96 c97 c98 c99 c100 c101 c102 c103 c104 c105 c106 c107 c108 c109 c110 c111 c112 c113 c114 c115 c116 c117 c118 c119 c120 c121 c122 c123 c124 c125 c126 c127 c128 c129 c130 c131 c132 c133 c134 c135 c136 c137 c138 c139 c140 c141 c142 c143 c144 c145 c146 c147 c148 c149 c150 c151 c152 c153 c154 c155 c156 c157 c158 c159 c160 c161 c162 c163 c164 c165 c166 c167 c168 c169 c170 c171 c172 c173 c174 c175 c176 c177 c178 c179 c180 c181 c182 c183 c184 c185 c186 c187 c188 c189 c190 c191 c192 c193 c194 c195 c196 c197 c198 c199 c200 c201 c202 c203 c204 c205 c206 c207 c208 c209 c210 c211 c212 c213 c214 c215 c216 c217 c218 c219 c220 c221 c222 c223 c224 c225 c226 c227 c228 c229 c230 c231 c232 c233 c234 c235 c236 c237 c238 c239 c240 c241 c242 c243 c244 c245 c246 c247 c248 c249 c250 c251 c252 c253 c254 c255 c256 c257 c258 c259 c260 c261 c262 c263 c264 c265 c266 c267 c268 c269 c270 c271 c272 c273 c274 c275 c276 c277 c278 c279 : Value)
    (hK : ∀ (u244 u245 u246 u247 u248 u249 u250 u251 u252 u253 u254 u255 u256 u257 u258 : Value) (wx : World), wx.rangeAt Bh 0 (qW (S.add R).list) → wx.there Bh 0 8 → wz.grownBy wx (some Bh) → Q .normal ⟨#[c0, .int .i64 32, c2, c3, c4, c5, c6, c7, c8, c9, .pointer (some ⟨Bh, 0, none⟩), c11, c12, c13, c14, c15, c16, .pointer (some ⟨Bv, 0, none⟩), c18, c19, c20, .int .i64 8, c22, c23, c24, c25, c26, c27, c28, c29, c30, c31, c32, c33, c34, c35, c36, c37, c38, c39, c40, c41, c42, c43, c44, c45, c46, c47, c48, c49, c50, c51, c52, c53, c54, c55, c56, c57, c58, c59, c60, c61, c62, c63, c64, c65, c66, c67, c68, c69, c70, c71, c72, c73, c74, c75, c76, c77, c78, c79, c80, c81, c82, c83, c84, c85, c86, c87, c88, c89, c90, c91, c92, c93, c94, c95, c96, c97, c98, c99, c100, c101, c102, c103, c104, c105, c106, c107, c108, c109, c110, c111, c112, c113, c114, c115, c116, c117, c118, c119, c120, c121, c122, c123, c124, c125, c126, c127, c128, c129, c130, c131, c132, c133, c134, c135, c136, c137, c138, c139, c140, c141, c142, c143, c144, c145, c146, c147, c148, c149, c150, c151, c152, c153, c154, c155, c156, c157, c158, c159, c160, c161, c162, c163, c164, c165, c166, c167, c168, c169, c170, c171, c172, c173, c174, c175, c176, c177, c178, c179, c180, c181, c182, c183, c184, c185, c186, c187, c188, c189, c190, c191, c192, c193, c194, c195, c196, c197, c198, c199, c200, c201, c202, c203, c204, c205, c206, c207, c208, c209, c210, c211, c212, c213, c214, c215, c216, c217, c218, c219, c220, c221, c222, c223, c224, c225, c226, c227, c228, c229, c230, c231, c232, c233, c234, c235, c236, c237, c238, c239, c240, c241, c242, c243, u244, u245, u246, u247, u248, u249, u250, u251, u252, u253, u254, u255, u256, u257, u258, c259, c260, c261, c262, c263, c264, c265, c266, c267, c268, c269, c270, c271, c272, c273, c274, c275, c276, c277, c278, c279], []⟩ wx) :
    Code.wp Tryd.prog (Code.block 14 (rsIn 14)) Q ⟨#[c0, .int .i64 32, c2, c3, c4, c5, c6, c7, c8, c9, .pointer (some ⟨Bh, 0, none⟩), c11, c12, c13, c14, c15, c16, .pointer (some ⟨Bv, 0, none⟩), c18, c19, c20, .int .i64 0, c22, c23, c24, c25, c26, c27, c28, c29, c30, c31, c32, c33, c34, c35, c36, c37, c38, c39, c40, c41, c42, c43, c44, c45, c46, c47, c48, c49, c50, c51, c52, c53, c54, c55, c56, c57, c58, c59, c60, c61, c62, c63, c64, c65, c66, c67, c68, c69, c70, c71, c72, c73, c74, c75, c76, c77, c78, c79, c80, c81, c82, c83, c84, c85, c86, c87, c88, c89, c90, c91, c92, c93, c94, c95, c96, c97, c98, c99, c100, c101, c102, c103, c104, c105, c106, c107, c108, c109, c110, c111, c112, c113, c114, c115, c116, c117, c118, c119, c120, c121, c122, c123, c124, c125, c126, c127, c128, c129, c130, c131, c132, c133, c134, c135, c136, c137, c138, c139, c140, c141, c142, c143, c144, c145, c146, c147, c148, c149, c150, c151, c152, c153, c154, c155, c156, c157, c158, c159, c160, c161, c162, c163, c164, c165, c166, c167, c168, c169, c170, c171, c172, c173, c174, c175, c176, c177, c178, c179, c180, c181, c182, c183, c184, c185, c186, c187, c188, c189, c190, c191, c192, c193, c194, c195, c196, c197, c198, c199, c200, c201, c202, c203, c204, c205, c206, c207, c208, c209, c210, c211, c212, c213, c214, c215, c216, c217, c218, c219, c220, c221, c222, c223, c224, c225, c226, c227, c228, c229, c230, c231, c232, c233, c234, c235, c236, c237, c238, c239, c240, c241, c242, c243, c244, c245, c246, c247, c248, c249, c250, c251, c252, c253, c254, c255, c256, c257, c258, c259, c260, c261, c262, c263, c264, c265, c266, c267, c268, c269, c270, c271, c272, c273, c274, c275, c276, c277, c278, c279], []⟩ wz := by
  have HKK := Lib.hid hK
  clear hK
  have HRV := Lib.hid hrv
  have HSV := Lib.hid hsv
  clear hrv hsv
  conv => arg 2; arg 2; whnf
  go_wp2_with fail
  go_loopw [21] (fun i wr => ∃ (j : Nat) (i0 : Int), j ≤ 8 ∧ i = .int .i64 i0 ∧ i0 = (j : Int) ∧ Hid (wr.rangeAt Bh 0 (aQ S R j)) ∧ Hid (wr.there Bh 0 8) ∧ Hid (wz.grownBy wr (some Bh))) (fun i _ => 8 - (intOf i).toNat)
  case atStart => exact ⟨0, 0, by omega, rfl, rfl, Lib.hid h1, Lib.hid h2, Lib.hid (World.grownBy.refl _ _)⟩
  case round =>
    rename World => wy
    obtain ⟨j, i0, hj, rfl, hi0, HRH, HTH, HG⟩ := hrel
    by_cases hj8 : j < 8
    · subst hi0
      have hcj := HRH.out j _ (aQ_at S R j hj8)
      have hcv : wy.cell? ⟨Bv, j, none⟩ = some (.int .u64 (wi (R.list.getD j 0))) := by
        refine (World.cell?_of_block (a := ⟨Bv, j, none⟩) (HG.out.block Bv HSV.out (by simpa using hne))).trans ?_
        have := HRV.out j _ (qW_at R.list j (by rw [list8]; exact hj8))
        rwa [Nat.zero_add] at this
      have hfz := (HTH.out j hj8).2
      rw [Nat.zero_add] at hcj hfz
      have HSET := Lib.hid (aQ_set S R j hj8)
      generalize S.list.getD j 0 = x at *
      generalize R.list.getD j 0 = y at *
      have kw : IntKind.i64.wrap (j : Int) = j := IntWalk.i64_in _ (by omega)
      have k0 : (0 : Int) ≤ j := by omega
      have k1 : (j : Int) < 8 := by omega
      go_wp2_with fail
      go_still_tail 11, (by kernel_rfl)
      still_call (cut2_f _ _ _)
      repeat still_step
      refine wpStill_nil ?_
      change wpList _ _ _ _ _ wy.drew
      go_wp2
      go_roundw
      case rel =>
        refine ⟨j + 1, _, by omega, rfl, by omega, Lib.hid ?_, Lib.hid (there_setCell (w := wy.drew) HTH.out _ _), Lib.hid ?_⟩
        · have := range_setCell (w := wy.drew) HRH.out j (.int .u64 (wi (x + y))) (by rw [aQ_length _ _ _ hj]; omega)
          rw [HSET.out, Nat.zero_add] at this
          exact this
        · have := grown_set HG.out j (.int .u64 (wi (x + y)))
          exact ⟨this.os, this.tape, this.output, this.size, this.block⟩
      case measure => simp [intOf]; omega
    · obtain rfl : j = 8 := by omega
      obtain rfl : i0 = 8 := by omega
      clear hi0
      go_wp2_with fail
      rw [aQ_end] at HRH
      exact HKK.out _ _ _ _ _ _ _ _ _ _ _ _ _ _ _ _ HRH.out HTH.out HG.out
end Go.Proofs.YtbhjigejpdbeiaaDoor
end
