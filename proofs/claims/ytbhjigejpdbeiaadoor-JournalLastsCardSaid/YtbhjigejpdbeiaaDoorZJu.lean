/-
  JournalLasts: a turn, walked (block 3): acts, a fall, an opening, and perhaps a fall within it.
-/
import Derived.Test.YtbhjigejpdbeiaaDoorZJt
set_option linter.unusedSimpArgs false
set_option linter.unusedVariables false
namespace Go.Proofs.YtbhjigejpdbeiaaDoor
open Go.RowKit Go.Shelf
set_option linter.unusedVariables false

/-- A turn ends, or breaks off, or the law answers. -/
def jlQ (K2 : Nat → Act → World → Prop) (K3 : Act → World → Prop) : Exit → Act → World → Prop
  | .exit i, a, w => K2 i a w
  | .ret, a, w => K3 a w
  | _, _, _ => False
theorem then_jlQ {K : Act → World → Prop} {Q0 : Exit → Act → World → Prop} : ∀ (e : Exit) (a : Act) (w : World), Exit.then K (jlQ (fun i => Q0 (.exit i)) (Q0 .ret)) e a w → Exit.then K Q0 e a w := by
  intro e a w h
  cases e with
  | normal => exact h
  | exit i => exact h
  | ret => exact h
  | goto l => exact h.elim
  | panic c => exact h.elim
  | outgrown => exact h.elim
/-- Between two turns. -/
def TurnAt (w0 W : World) (b6 b8 : Nat) (vc : Value) (m : Int) : Prop :=
  ∃ C d l came, Hold w0 W b6 b8 C d l ∧ RecsApart W b6 (b8 + 1) vc came ∧ Jp.Jrn d l came m
theorem TurnAt.slice {w0 W : World} {b6 b8 : Nat} {vc : Value} {m : Int} (h : TurnAt w0 W b6 b8 vc m) : ∃ A n c, vc = .slice A n c := by
  obtain ⟨C, d, l, came, h1, ⟨A, n, c, _, e, _⟩, _⟩ := h
  exact ⟨A, n, c, e⟩
/-- The disk of a fall in a variable of its own. -/
structure NewDisk (W0 W : World) (a : Nat) (C0 C : Array Value) (X : Dk) : Prop where
  V : DVar W a C
  D : DiskAt W (.agg C) X
  B : Below W0.heap.size W0 W
  le : W0.heap.size ≤ a
  tr : ∀ q, q < W0.heap.size → Clear q (.agg C0) → Clear q (.agg C)
  d4 : D4 C
theorem two_new5 {wa : World} {C : Array Value} {x : Dk} (hc : D4 C) (hd : DiskAt wa (.agg C) x) (l : Dk.Log) :
    ∃ wz, (diskSet ⟨wa.heap.size, 0, none⟩ (.agg C)).run Tryd.prog ((wa.alloc (.cells #[.slice none 0 0, .slice none 0 0, .int .i64 0, .bool false] 25)).alloc (.cells #[.int .i64 0, .int .i64 0, .int .i64 0] 27)) = .ok () (putDisk ((wa.alloc (.cells #[.slice none 0 0, .slice none 0 0, .int .i64 0, .bool false] 25)).alloc (.cells #[.int .i64 0, .int .i64 0, .int .i64 0] 27)) wa.heap.size C) ∧
      (logSet ⟨wa.heap.size + 1, 0, none⟩ (logV l)).run Tryd.prog (putDisk ((wa.alloc (.cells #[.slice none 0 0, .slice none 0 0, .int .i64 0, .bool false] 25)).alloc (.cells #[.int .i64 0, .int .i64 0, .int .i64 0] 27)) wa.heap.size C) = .ok () wz ∧
      DVar wz wa.heap.size C ∧ LogAt wz (wa.heap.size + 1) l ∧ DiskAt wz (.agg C) x ∧ Below wa.heap.size wa wz ∧ wz.there wa.heap.size 0 4 := by
  have ht1 : ((wa.alloc (.cells #[.slice none 0 0, .slice none 0 0, .int .i64 0, .bool false] 25)).alloc (.cells #[.int .i64 0, .int .i64 0, .int .i64 0] 27)).there wa.heap.size 0 4 := there_disk_alloc (there_disk _ zeroD4) _
  have ht2 : ((wa.alloc (.cells #[.slice none 0 0, .slice none 0 0, .int .i64 0, .bool false] 25)).alloc (.cells #[.int .i64 0, .int .i64 0, .int .i64 0] 27)).there (wa.heap.size + 1) 0 3 := there_log_at _ (by simp)
  have hb := below_putLog (below_putDisk (below_two wa (.cells #[.slice none 0 0, .slice none 0 0, .int .i64 0, .bool false] 25) (.cells #[.int .i64 0, .int .i64 0, .int .i64 0] 27)) (Nat.le_refl _) C) (Nat.le_succ _) l
  refine ⟨_, store_disk ht1 hc, store_log (there_putDisk ht2 _ C) l, ?_, logAt_put (there_putDisk ht2 _ C) l, hd.kept hb (Nat.le_refl _), hb, there_putLog (there_putDisk ht1 _ _) _ _⟩
  exact (dvar_put (there_lt ht1 (by decide)) ht1 hc).grown grown_log (by omega)
/-- The opening has ended: where everything is. -/
def Opened (w0 W0 : World) (b6 b8 b24 b25 : Nat) (C0 : Array Value) (came perh : List (List UInt8)) (dn : Bool) (m : Int) (s26 s27 : Value) (wx : World) : Prop :=
  s27 = .int .i64 0 ∧ ∃ C X l R, NewVars W0 wx b24 b25 C0 C X l ∧ RecsApart wx b6 (b8 + 1) s26 R ∧ Jp.Jrn X l R m ∧ (R = came ∨ dn = true ∧ R = perh)
set_option maxRecDepth 1000000 in
set_option maxHeartbeats 16000000 in
theorem jl3 (w0 W : World) (b6 b8 n ca k0 t nf cf : Nat) (A AF : Option Addr) (L : List (A15 × Value)) (LF : List (F15 × Value × Value)) (vc0 : Value) (hL : LaidR w0)
    (hn : n = L.length) (hrow : RowOf w0 2 A n ca ((L.map actC15).flatten)) (hby : ∀ a ∈ L, BytesAt w0 a.2 a.1.record) (hsm : ∀ a ∈ L, a.1.record.length ≤ 5000) (hn60 : n ≤ 60) (hk0 : k0 ≤ n)
    (hnf : nf = LF.length) (hrowF : RowOf w0 4 AF nf cf ((LF.map fallC15).flatten)) (hfa : ∀ a ∈ LF, FatesAt w0 a.2.1 a.1.fates ∧ FatesAt w0 a.2.2 a.1.more) (hfs : ∀ a ∈ LF, a.1.fates.length ≤ 100 ∧ a.1.more.length ≤ 100) (hf6 : nf ≤ 6) (ht : t ≤ nf)
    (hp : TurnAt w0 W b6 b8 vc0 (1 + 3 * (t : Int) + k0))
    (K : Act → World → Prop) (Q0 : Exit → Act → World → Prop) (c2 c3 c4 c5 c7 c9 c13 c14 c15 c16 c17 c18 c19 c20 c21 c22 c23 c24 c25 c26 c27 c28 c29 c30 c31 c32 c33 c34 c35 c36 c37 c38 c39 c40 c41 c42 c43 c44 c45 c46 c47 c48 c49 c50 c51 c52 c53 c54 c55 c56 c57 c58 c59 c60 c61 c62 c63 c64 c65 c66 c67 c68 c69 c70 c71 c72 c73 c74 c75 c76 c77 c78 c79 c80 c81 c82 c83 c84 c85 c86 c87 c88 c89 c90 c91 c92 c93 c94 c95 c96 c97 c98 c99 c100 c101 c102 c103 c104 c105 c106 c107 c108 c109 c110 c111 c112 c113 c114 c115 c116 c117 c118 c119 c120 c121 c122 c123 c124 c125 c126 c127 c128 c129 c130 c131 c132 c133 c134 c135 c136 c137 c138 c139 c140 c141 c142 c143 c144 c145 c146 c147 c148 c149 c150 c151 c152 c153 c154 c155 c156 c157 c158 c159 c160 c161 c162 c163 c164 c165 c166 c167 c168 c169 c170 c171 c172 c173 c174 c175 c176 c177 c178 c179 c180 c181 c182 c183 c184 c185 c186 c187 c188 c189 c190 c191 c192 c193 c194 c195 c196 c197 c198 c199 c200 c201 c202 c203 c204 c205 c206 c207 c208 c209 c210 c211 c212 c213 c214 c215 c216 c217 c218 c219 c220 c221 c222 c223 c224 c225 c226 c227 c228 c229 c230 c231 c232 c233 c234 c235 c236 c237 c238 c239 c240 c241 c242 c243 c244 c245 c246 c247 c248 c249 c250 c251 c252 c253 c254 c255 c256 c257 c258 c259 c260 c261 c262 c263 c264 c265 c266 c267 c268 c269 c270 c271 c272 c273 c274 c275 c276 c277 c278 c279 : Value)
    (hK : ∀ (u4 u13 u14 u15 u16 u17 u18 u19 u20 u21 u22 u23 u24 u25 u26 u27 u85 u86 u87 u88 u89 u90 u91 u92 u93 u94 u95 u96 u97 u98 u99 u100 u101 u102 u103 u104 u105 u106 u107 u108 u109 u110 u111 u112 u113 u114 u115 u116 u117 u118 u119 u120 u121 u122 u123 u124 u125 u126 u127 u128 u129 u130 u131 u132 u133 u134 u135 u136 u137 u138 u139 u140 u141 u142 u143 u144 u145 u146 u147 u148 u149 u150 u151 u152 u153 u154 u155 u156 u157 u158 u159 u160 u161 u162 u163 u164 u165 u166 u167 u168 u169 u170 u171 u172 u173 u174 u175 u176 u177 u178 u179 u180 u181 u182 u183 u184 u185 u186 u187 u188 u189 u190 u191 u192 u193 u194 u195 u196 u197 u198 u199 u200 u201 u202 u203 u204 u205 u206 u207 u208 u209 u210 u211 u212 u213 u214 u215 u216 u217 u218 u219 u220 u221 u222 u223 u224 u225 u226 u227 u228 u229 u230 u231 u232 u233 u234 u235 u236 u237 u238 u239 u240 u241 u242 u243 u244 u245 u246 u247 u248 u249 u250 u251 u252 u253 u254 u255 u256 u257 u258 u259 u260 u261 vc : Value) (k : Nat) (wx : World), t < nf → k ≤ n → TurnAt w0 wx b6 b8 vc (1 + 3 * ((t : Int) + 1) + k) → K ⟨#[.slice A n ca, .slice AF nf cf, c2, c3, u4, c5, .pointer (some ⟨b6, 0, none⟩), c7, .pointer (some ⟨b8, 0, none⟩), c9, vc, .int .i64 (k : Int), .int .i64 (t : Int), u13, u14, u15, u16, u17, u18, u19, u20, u21, u22, u23, u24, u25, u26, u27, c28, c29, c30, c31, c32, c33, c34, c35, c36, c37, c38, c39, c40, c41, c42, c43, c44, c45, c46, c47, c48, c49, c50, c51, c52, c53, c54, c55, c56, c57, c58, c59, c60, c61, c62, c63, c64, c65, c66, c67, c68, c69, c70, c71, c72, c73, c74, c75, c76, c77, c78, c79, c80, c81, c82, c83, c84, u85, u86, u87, u88, u89, u90, u91, u92, u93, u94, u95, u96, u97, u98, u99, u100, u101, u102, u103, u104, u105, u106, u107, u108, u109, u110, u111, u112, u113, u114, u115, u116, u117, u118, u119, u120, u121, u122, u123, u124, u125, u126, u127, u128, u129, u130, u131, u132, u133, u134, u135, u136, u137, u138, u139, u140, u141, u142, u143, u144, u145, u146, u147, u148, u149, u150, u151, u152, u153, u154, u155, u156, u157, u158, u159, u160, u161, u162, u163, u164, u165, u166, u167, u168, u169, u170, u171, u172, u173, u174, u175, u176, u177, u178, u179, u180, u181, u182, u183, u184, u185, u186, u187, u188, u189, u190, u191, u192, u193, u194, u195, u196, u197, u198, u199, u200, u201, u202, u203, u204, u205, u206, u207, u208, u209, u210, u211, u212, u213, u214, u215, u216, u217, u218, u219, u220, u221, u222, u223, u224, u225, u226, u227, u228, u229, u230, u231, u232, u233, u234, u235, u236, u237, u238, u239, u240, u241, u242, u243, u244, u245, u246, u247, u248, u249, u250, u251, u252, u253, u254, u255, u256, u257, u258, u259, u260, u261, c262, c263, c264, c265, c266, c267, c268, c269, c270, c271, c272, c273, c274, c275, c276, c277, c278, c279], []⟩ wx)
    (hK2 : ∀ (u4 u13 u14 u15 u16 u17 u18 u19 u20 u21 u22 u23 u24 u25 u26 u27 u85 u86 u87 u88 u89 u90 u91 u92 u93 u94 u95 u96 u97 u98 u99 u100 u101 u102 u103 u104 u105 u106 u107 u108 u109 u110 u111 u112 u113 u114 u115 u116 u117 u118 u119 u120 u121 u122 u123 u124 u125 u126 u127 u128 u129 u130 u131 u132 u133 u134 u135 u136 u137 u138 u139 u140 u141 u142 u143 u144 u145 u146 u147 u148 u149 u150 u151 u152 u153 u154 u155 u156 u157 u158 u159 u160 u161 u162 u163 u164 u165 u166 u167 u168 u169 u170 u171 u172 u173 u174 u175 u176 u177 u178 u179 u180 u181 u182 u183 u184 u185 u186 u187 u188 u189 u190 u191 u192 u193 u194 u195 u196 u197 u198 u199 u200 u201 u202 u203 u204 u205 u206 u207 u208 u209 u210 u211 u212 u213 u214 u215 u216 u217 u218 u219 u220 u221 u222 u223 u224 u225 u226 u227 u228 u229 u230 u231 u232 u233 u234 u235 u236 u237 u238 u239 u240 u241 u242 u243 u244 u245 u246 u247 u248 u249 u250 u251 u252 u253 u254 u255 u256 u257 u258 u259 u260 u261 vc : Value) (k : Nat) (wx : World), t = nf → TurnAt w0 wx b6 b8 vc 1000 → Q0 (.exit 2) ⟨#[.slice A n ca, .slice AF nf cf, c2, c3, u4, c5, .pointer (some ⟨b6, 0, none⟩), c7, .pointer (some ⟨b8, 0, none⟩), c9, vc, .int .i64 (k : Int), .int .i64 (t : Int), u13, u14, u15, u16, u17, u18, u19, u20, u21, u22, u23, u24, u25, u26, u27, c28, c29, c30, c31, c32, c33, c34, c35, c36, c37, c38, c39, c40, c41, c42, c43, c44, c45, c46, c47, c48, c49, c50, c51, c52, c53, c54, c55, c56, c57, c58, c59, c60, c61, c62, c63, c64, c65, c66, c67, c68, c69, c70, c71, c72, c73, c74, c75, c76, c77, c78, c79, c80, c81, c82, c83, c84, u85, u86, u87, u88, u89, u90, u91, u92, u93, u94, u95, u96, u97, u98, u99, u100, u101, u102, u103, u104, u105, u106, u107, u108, u109, u110, u111, u112, u113, u114, u115, u116, u117, u118, u119, u120, u121, u122, u123, u124, u125, u126, u127, u128, u129, u130, u131, u132, u133, u134, u135, u136, u137, u138, u139, u140, u141, u142, u143, u144, u145, u146, u147, u148, u149, u150, u151, u152, u153, u154, u155, u156, u157, u158, u159, u160, u161, u162, u163, u164, u165, u166, u167, u168, u169, u170, u171, u172, u173, u174, u175, u176, u177, u178, u179, u180, u181, u182, u183, u184, u185, u186, u187, u188, u189, u190, u191, u192, u193, u194, u195, u196, u197, u198, u199, u200, u201, u202, u203, u204, u205, u206, u207, u208, u209, u210, u211, u212, u213, u214, u215, u216, u217, u218, u219, u220, u221, u222, u223, u224, u225, u226, u227, u228, u229, u230, u231, u232, u233, u234, u235, u236, u237, u238, u239, u240, u241, u242, u243, u244, u245, u246, u247, u248, u249, u250, u251, u252, u253, u254, u255, u256, u257, u258, u259, u260, u261, c262, c263, c264, c265, c266, c267, c268, c269, c270, c271, c272, c273, c274, c275, c276, c277, c278, c279], []⟩ wx)
    (hK3 : ∀ (u4 u13 u14 u15 u16 u17 u18 u19 u20 u21 u22 u23 u24 u25 u26 u27 u85 u86 u87 u88 u89 u90 u91 u92 u93 u94 u95 u96 u97 u98 u99 u100 u101 u102 u103 u104 u105 u106 u107 u108 u109 u110 u111 u112 u113 u114 u115 u116 u117 u118 u119 u120 u121 u122 u123 u124 u125 u126 u127 u128 u129 u130 u131 u132 u133 u134 u135 u136 u137 u138 u139 u140 u141 u142 u143 u144 u145 u146 u147 u148 u149 u150 u151 u152 u153 u154 u155 u156 u157 u158 u159 u160 u161 u162 u163 u164 u165 u166 u167 u168 u169 u170 u171 u172 u173 u174 u175 u176 u177 u178 u179 u180 u181 u182 u183 u184 u185 u186 u187 u188 u189 u190 u191 u192 u193 u194 u195 u196 u197 u198 u199 u200 u201 u202 u203 u204 u205 u206 u207 u208 u209 u210 u211 u212 u213 u214 u215 u216 u217 u218 u219 u220 u221 u222 u223 u224 u225 u226 u227 u228 u229 u230 u231 u232 u233 u234 u235 u236 u237 u238 u239 u240 u241 u242 u243 u244 u245 u246 u247 u248 u249 u250 u251 u252 u253 u254 u255 u256 u257 u258 u259 u260 u261 vc : Value) (k : Nat) (wx : World), Below w0.heap.size w0 wx → Q0 .ret ⟨#[.slice A n ca, .slice AF nf cf, c2, c3, .bool true, c5, .pointer (some ⟨b6, 0, none⟩), c7, .pointer (some ⟨b8, 0, none⟩), c9, vc, .int .i64 (k : Int), .int .i64 (t : Int), u13, u14, u15, u16, u17, u18, u19, u20, u21, u22, u23, u24, u25, u26, u27, c28, c29, c30, c31, c32, c33, c34, c35, c36, c37, c38, c39, c40, c41, c42, c43, c44, c45, c46, c47, c48, c49, c50, c51, c52, c53, c54, c55, c56, c57, c58, c59, c60, c61, c62, c63, c64, c65, c66, c67, c68, c69, c70, c71, c72, c73, c74, c75, c76, c77, c78, c79, c80, c81, c82, c83, c84, u85, u86, u87, u88, u89, u90, u91, u92, u93, u94, u95, u96, u97, u98, u99, u100, u101, u102, u103, u104, u105, u106, u107, u108, u109, u110, u111, u112, u113, u114, u115, u116, u117, u118, u119, u120, u121, u122, u123, u124, u125, u126, u127, u128, u129, u130, u131, u132, u133, u134, u135, u136, u137, u138, u139, u140, u141, u142, u143, u144, u145, u146, u147, u148, u149, u150, u151, u152, u153, u154, u155, u156, u157, u158, u159, u160, u161, u162, u163, u164, u165, u166, u167, u168, u169, u170, u171, u172, u173, u174, u175, u176, u177, u178, u179, u180, u181, u182, u183, u184, u185, u186, u187, u188, u189, u190, u191, u192, u193, u194, u195, u196, u197, u198, u199, u200, u201, u202, u203, u204, u205, u206, u207, u208, u209, u210, u211, u212, u213, u214, u215, u216, u217, u218, u219, u220, u221, u222, u223, u224, u225, u226, u227, u228, u229, u230, u231, u232, u233, u234, u235, u236, u237, u238, u239, u240, u241, u242, u243, u244, u245, u246, u247, u248, u249, u250, u251, u252, u253, u254, u255, u256, u257, u258, u259, u260, u261, c262, c263, c264, c265, c266, c267, c268, c269, c270, c271, c272, c273, c274, c275, c276, c277, c278, c279], []⟩ wx) :
    Code.wp Tryd.prog (Code.block 3 (jlIn 3)) (Exit.then K Q0) ⟨#[.slice A n ca, .slice AF nf cf, c2, c3, c4, c5, .pointer (some ⟨b6, 0, none⟩), c7, .pointer (some ⟨b8, 0, none⟩), c9, vc0, .int .i64 (k0 : Int), .int .i64 (t : Int), c13, c14, c15, c16, c17, c18, c19, c20, c21, c22, c23, c24, c25, c26, c27, c28, c29, c30, c31, c32, c33, c34, c35, c36, c37, c38, c39, c40, c41, c42, c43, c44, c45, c46, c47, c48, c49, c50, c51, c52, c53, c54, c55, c56, c57, c58, c59, c60, c61, c62, c63, c64, c65, c66, c67, c68, c69, c70, c71, c72, c73, c74, c75, c76, c77, c78, c79, c80, c81, c82, c83, c84, c85, c86, c87, c88, c89, c90, c91, c92, c93, c94, c95, c96, c97, c98, c99, c100, c101, c102, c103, c104, c105, c106, c107, c108, c109, c110, c111, c112, c113, c114, c115, c116, c117, c118, c119, c120, c121, c122, c123, c124, c125, c126, c127, c128, c129, c130, c131, c132, c133, c134, c135, c136, c137, c138, c139, c140, c141, c142, c143, c144, c145, c146, c147, c148, c149, c150, c151, c152, c153, c154, c155, c156, c157, c158, c159, c160, c161, c162, c163, c164, c165, c166, c167, c168, c169, c170, c171, c172, c173, c174, c175, c176, c177, c178, c179, c180, c181, c182, c183, c184, c185, c186, c187, c188, c189, c190, c191, c192, c193, c194, c195, c196, c197, c198, c199, c200, c201, c202, c203, c204, c205, c206, c207, c208, c209, c210, c211, c212, c213, c214, c215, c216, c217, c218, c219, c220, c221, c222, c223, c224, c225, c226, c227, c228, c229, c230, c231, c232, c233, c234, c235, c236, c237, c238, c239, c240, c241, c242, c243, c244, c245, c246, c247, c248, c249, c250, c251, c252, c253, c254, c255, c256, c257, c258, c259, c260, c261, c262, c263, c264, c265, c266, c267, c268, c269, c270, c271, c272, c273, c274, c275, c276, c277, c278, c279], []⟩ W := by
  have HK := Lib.hid hK
  have HK2 := Lib.hid hK2
  have HK3 := Lib.hid hK3
  have HL := Lib.hid hL
  have HN := Lib.hid hn
  have HROW := Lib.hid hrow
  have HBY := Lib.hid hby
  have HSM := Lib.hid hsm
  have HNF := Lib.hid hnf
  have HROWF := Lib.hid hrowF
  have HFA := Lib.hid hfa
  have HFS := Lib.hid hfs
  obtain ⟨C, d, l, came, hh, hrec, hj⟩ := hp
  have HH := Lib.hid hh
  have HREC := Lib.hid hrec
  have HJ := Lib.hid hj
  clear hK hK2 hK3 hL hn hrow hby hsm hnf hrowF hfa hfs hh hrec hj
  refine wp_mono (Q := Exit.then K (jlQ (fun i => Q0 (.exit i)) (Q0 .ret))) ?_ then_jlQ
  conv => arg 2; arg 2; whnf
  have hl0 := HH.out.V.load
  by_cases htn : t < nf
  case neg =>
-- <skip>
    obtain rfl : t = nf := by omega
    have htd : decide ((t : Int) < (t : Int)) = false := by simp
    have hts : ((t : Int) == (t : Int)) = true := by simp
    go_wp2_with fail
    refine (arm_f W (.agg C) d (-1) (by omega) (by omega) HH.out.D).mono ?_
    rintro e w2 ⟨⟨u2, rfl, hg2⟩, hb2⟩
    obtain ⟨C2, rfl, hc2⟩ := hg2.1.agg
    have hst := store_disk (there_below HH.out.T hb2 HH.out.V.lt) hc2
    have HH2 := Lib.hid (HH.out.put1 (l := l) hb2 hc2 hg2.1 hg2.2)
    have HR2 := Lib.hid ((HREC.out.on hb2).put1 HH.out.lt C2)
    have HJ2 := Lib.hid (HJ.out.arm (-1))
    clear hg2 hb2 hl0
    obtain ⟨w3, hw3⟩ : ∃ w3, w3 = putDisk w2 b6 C2 := ⟨_, rfl⟩
    rw [← hw3] at hst HH2 HR2
    clear hw3
    have HP := Lib.hid (show Played w0 w3 b6 b8 vc0 vc0 false true (1 + 3 * (t : Int) + k0) from
      ⟨C2, d.arm (-1), l, came, came, HH2.out, HR2.out, HR2.out, by have := HJ2.out.len; omega, fun _ => HJ2.out, (fun h => by cases h), fun _ => ⟨rfl, by show max (-1 : Int) (-1) < 0; omega⟩⟩)
    go_upto_block 4 with fail
    clear hst
    refine jl4 w0 w3 b6 b8 n ca k0 A L vc0 vc0 (1 + 3 * (t : Int)) true HL.out.toLaid HN.out HROW.out HBY.out HSM.out hn60 hk0 (by omega) HP.out _ _ _ _ _ _ _ _ _ _ _ _ _ _ _ _ _ _ _ _ _ _ _ _ _ _ _ _ _ _ _ _ _ _ _ _ _ _ _ _ _ _ _ _ _ _ _ _ _ _ _ _ _ _ _ _ _ _ _ _ _ _ _ _ _ _ _ _ _ _ _ _ _ _ _ _ _ _ _ _ _ _ _ _ _ _ _ _ _ _ _ _ _ _ _ _ _ _ _ _ _ _ _ _ _ _ _ _ _ _ _ _ _ _ _ _ _ _ _ _ _ _ _ _ _ _ _ _ _ _ _ _ _ _ _ _ _ _ _ _ _ _ _ _ _ _ _ _ _ _ _ _ _ _ _ _ _ _ _ _ _ _ _ _ _ _ _ _ _ _ _ _ _ _ _ _ _ _ _ _ _ _ _ _ _ _ _ _ _ _ _ _ _ _ _ _ _ _ _ _ _ _ _ _ _ _ _ _ _ _ _ _ _ _ _ _ _ _ _ _ _ _ _ _ _ _ _ _ _ _ _ _ _ _ _ _ _ _ _ _ _ _ _ _ _ _ _ _ _ _ _ _ _ _ _ _ _ _ _ _ _ _ _ _ _ _ _ _ _ _ _ _ _ _ _ ?_
    intro x4 x16 x17 x18 x19 x20 x21 x99 x100 x101 x102 x103 x104 x105 x106 x107 x108 x109 x110 x111 x112 x113 x114 x115 x116 x117 x118 x119 x120 x121 x122 x123 x124 x125 x126 x127 x128 x129 x130 x131 x132 x133 x134 x135 x136 x137 x138 x139 x140 x141 x142 x143 x144 x145 x146 x147 x148 x149 x150 x151 x152 x153 x154 x155 x156 x157 x158 x159 x160 x161 x162 x163 x164 x165 x166 x167 x168 x169 x170 x171 x172 x173 x174 x175 vc vp dn k wx hk hdk hp
    obtain ⟨C3, d3, l3, came3, perh3, h1, h2, h3, h4, h5, h6, h7⟩ := hp
    obtain ⟨rfl, _⟩ := h7 rfl
    have HT := Lib.hid (show TurnAt w0 wx b6 b8 vc 1000 from ⟨C3, d3, l3, came3, h1, h2, (h5 rfl).mono (by omega)⟩)
    clear h1 h2 h3 h4 h5 h6 h7 hdk
    go_wp2_with fail
    exact HK2.out _ _ _ _ _ _ _ _ _ _ _ _ _ _ _ _ _ _ _ _ _ _ _ _ _ _ _ _ _ _ _ _ _ _ _ _ _ _ _ _ _ _ _ _ _ _ _ _ _ _ _ _ _ _ _ _ _ _ _ _ _ _ _ _ _ _ _ _ _ _ _ _ _ _ _ _ _ _ _ _ _ _ _ _ _ _ _ _ _ _ _ _ _ _ _ _ _ _ _ _ _ _ _ _ _ _ _ _ _ _ _ _ _ _ _ _ _ _ _ _ _ _ _ _ _ _ _ _ _ _ _ _ _ _ _ _ _ _ _ _ _ _ _ _ _ _ _ _ _ _ _ _ _ _ _ _ _ _ _ _ _ _ _ _ _ _ _ _ _ _ _ _ _ _ _ _ _ _ _ _ _ _ _ _ _ _ _ _ _ _ _ _ _ _ k _ (by simp) HT.out
-- </skip>
  obtain ⟨a, ha⟩ : ∃ a, LF[t]? = some a := ⟨_, List.getElem?_eq_getElem (by have := HNF.out; omega)⟩
  obtain ⟨bf, of, rfl, hcell⟩ := fall_cells HNF.out HROWF.out ha
  obtain ⟨⟨fuse, fates, again, more⟩, v1, v2⟩ := a
  obtain ⟨hfa1, hfa2⟩ := HFA.out _ (List.mem_of_getElem? ha)
  obtain ⟨hfs1, hfs2⟩ := HFS.out _ (List.mem_of_getElem? ha)
  dsimp only at hcell hfa1 hfa2 hfs1 hfs2
  have HCELL := Lib.hid hcell
  have HFA1 := Lib.hid hfa1
  have HFA2 := Lib.hid hfa2
  have hc0 := (HCELL.out W HH.out.B).1
  have htd : decide ((t : Int) < (nf : Int)) = true := by simp; omega
  have hts : ((t : Int) == (nf : Int)) = false := by simp; omega
  have hff := fuse.toNat_lt
  have hag := again.toNat_lt
  generalize fuse.toNat = ff at *
  generalize again.toNat = ag at *
  have hwf : IntKind.i64.wrap (ff : Int) = (ff : Int) := IntWalk.i64_in _ (by omega)
  have hwa : IntKind.i64.wrap (ag : Int) = (ag : Int) := IntWalk.i64_in _ (by omega)
  have htn2 : (t : Int) < (nf : Int) := by omega
  clear hcell hfa1 hfa2 ha
  go_wp2_with fail
  refine (arm_f W (.agg C) d (ff : Int) (by omega) (by omega) HH.out.D).mono ?_
  rintro e w2 ⟨⟨u2, rfl, hg2⟩, hb2⟩
  obtain ⟨C2, rfl, hc2⟩ := hg2.1.agg
  have hst := store_disk (there_below HH.out.T hb2 HH.out.V.lt) hc2
  have HH2 := Lib.hid (HH.out.put1 (l := l) hb2 hc2 hg2.1 hg2.2)
  have HR2 := Lib.hid ((HREC.out.on hb2).put1 HH.out.lt C2)
  have HJ2 := Lib.hid (HJ.out.arm (ff : Int))
  clear hg2 hb2 hl0 hc0
  obtain ⟨w3, hw3⟩ : ∃ w3, w3 = putDisk w2 b6 C2 := ⟨_, rfl⟩
  rw [← hw3] at hst HH2 HR2
  clear hw3
  have HP := Lib.hid (show Played w0 w3 b6 b8 vc0 vc0 false false (1 + 3 * (t : Int) + k0) from
    ⟨C2, d.arm ff, l, came, came, HH2.out, HR2.out, HR2.out, by have := HJ2.out.len; omega, fun _ => HJ2.out, (fun h => by cases h), (fun h => by cases h)⟩)
  go_upto_block 4 with fail
  clear hst
  refine jl4 w0 w3 b6 b8 n ca k0 A L vc0 vc0 (1 + 3 * (t : Int)) false HL.out.toLaid HN.out HROW.out HBY.out HSM.out hn60 hk0 (by omega) HP.out _ _ _ _ _ _ _ _ _ _ _ _ _ _ _ _ _ _ _ _ _ _ _ _ _ _ _ _ _ _ _ _ _ _ _ _ _ _ _ _ _ _ _ _ _ _ _ _ _ _ _ _ _ _ _ _ _ _ _ _ _ _ _ _ _ _ _ _ _ _ _ _ _ _ _ _ _ _ _ _ _ _ _ _ _ _ _ _ _ _ _ _ _ _ _ _ _ _ _ _ _ _ _ _ _ _ _ _ _ _ _ _ _ _ _ _ _ _ _ _ _ _ _ _ _ _ _ _ _ _ _ _ _ _ _ _ _ _ _ _ _ _ _ _ _ _ _ _ _ _ _ _ _ _ _ _ _ _ _ _ _ _ _ _ _ _ _ _ _ _ _ _ _ _ _ _ _ _ _ _ _ _ _ _ _ _ _ _ _ _ _ _ _ _ _ _ _ _ _ _ _ _ _ _ _ _ _ _ _ _ _ _ _ _ _ _ _ _ _ _ _ _ _ _ _ _ _ _ _ _ _ _ _ _ _ _ _ _ _ _ _ _ _ _ _ _ _ _ _ _ _ _ _ _ _ _ _ _ _ _ _ _ _ _ _ _ _ _ _ _ _ _ _ _ _ ?_
  intro x4 x16 x17 x18 x19 x20 x21 x99 x100 x101 x102 x103 x104 x105 x106 x107 x108 x109 x110 x111 x112 x113 x114 x115 x116 x117 x118 x119 x120 x121 x122 x123 x124 x125 x126 x127 x128 x129 x130 x131 x132 x133 x134 x135 x136 x137 x138 x139 x140 x141 x142 x143 x144 x145 x146 x147 x148 x149 x150 x151 x152 x153 x154 x155 x156 x157 x158 x159 x160 x161 x162 x163 x164 x165 x166 x167 x168 x169 x170 x171 x172 x173 x174 x175 vc vp dn k wx hk hdk hp
  clear HP HH HREC HJ HH2 HR2 HJ2 hc2 hdk
  obtain ⟨C3, d3, l3, came3, perh3, h1, h2, h3, h4, h5, h6, h7⟩ := hp
  have HE := Lib.hid (show Jp.Ends d3 dn came3 perh3 (1 + 3 * (t : Int) + k) by
    cases dn with
    | false => exact (h5 rfl).ends perh3
    | true => exact (h6 rfl).ends)
  have HH := Lib.hid h1
  have HREC := Lib.hid h2
  have HRP := Lib.hid h3
  clear h1 h2 h3 h4 h5 h6 h7
  -- is a sector sealed by chance?
  have HC43 := Lib.hid (show ∀ V, Below wx.heap.size wx V → Calls Tryd.prog 30 #[.agg C3, v1] V fun e w' => e = .returned (.bool (Jp.chance d3 fates)) ∧ Below wx.heap.size wx w' from fun V hV =>
    (chance_f V (.agg C3) v1 d3 fates (by omega) HE.out.right (HH.out.D.kept hV (Nat.le_refl _)) (HFA1.out.kept (below_chain HH.out.B hV) (Nat.le_refl _)) (HL.out.below (below_chain HH.out.B hV) HL.out.size)).mono fun _ _ ⟨h1, h2⟩ => ⟨h1, below_chain hV h2⟩)
  have HS := Lib.hid (show ∀ V, Below wx.heap.size wx V → (diskVar ⟨b6, 0, none⟩).run Tryd.prog V = .ok (.agg C3) V ∧ V.cell? ⟨bf, of + t * 4 + 1, none⟩ = some v1 ∧ V.cell? ⟨bf, of + t * 4 + 2, none⟩ = some (.int .u8 ag) from fun V hV =>
    ⟨(HH.out.on hV).V.load, (HCELL.out V (below_chain HH.out.B hV)).2.1, (HCELL.out V (below_chain HH.out.B hV)).2.2.1⟩)
  have hb0 : Below wx.heap.size wx wx.drew := (Below.refl _ _).drew
  obtain ⟨ch, hch⟩ : ∃ ch, ch = Jp.chance d3 fates := ⟨_, rfl⟩
  rw [← hch] at HC43
  have HCH := Lib.hid hch
  clear hch
  go_upto_region 43 with fail
  go_cut [186] from 176 to 186 (fun s186 wy => s186 = .bool ch ∧ Below wx.heap.size wx wy)
  case first =>
    go_wp2_with fail
    go_region_held3 (fun V => (diskVar ⟨b6, 0, none⟩).run Tryd.prog V = .ok (.agg C3) V ∧ V.cell? ⟨bf, of + t * 4 + 1, none⟩ = some v1 ∧ V.cell? ⟨bf, of + t * 4 + 2, none⟩ = some (.int .u8 ag))
      (first | exact HS.out _ hb0 | exact HS.out _ hbc)
      (first
        | (go_at_call 30
           (with_reducible refine (HC43.out _ hb0).mono ?_)
           rintro e wc ⟨rfl, hbc⟩))
    all_goals go_wp2_with fail
    all_goals go_meet
    all_goals exact ⟨rfl, hbc⟩
  case rest =>
  rename World => wy
  obtain ⟨rfl, hby0⟩ := hcut
  have HBY0 := Lib.hid hby0
  clear hby0 hb0
  cases ch
  case true =>
    go_wp2_with fail
    exact HK3.out (.bool true) _ _ _ _ _ _ _ _ _ _ _ _ _ _ _ _ _ _ _ _ _ _ _ _ _ _ _ _ _ _ _ _ _ _ _ _ _ _ _ _ _ _ _ _ _ _ _ _ _ _ _ _ _ _ _ _ _ _ _ _ _ _ _ _ _ _ _ _ _ _ _ _ _ _ _ _ _ _ _ _ _ _ _ _ _ _ _ _ _ _ _ _ _ _ _ _ _ _ _ _ _ _ _ _ _ _ _ _ _ _ _ _ _ _ _ _ _ _ _ _ _ _ _ _ _ _ _ _ _ _ _ _ _ _ _ _ _ _ _ _ _ _ _ _ _ _ _ _ _ _ _ _ _ _ _ _ _ _ _ _ _ _ _ _ _ _ _ _ _ _ _ _ _ _ _ _ _ _ _ _ _ _ _ _ _ _ _ _ _ _ _ _ _ k _ (below_chain HH.out.B HBY0.out)
  have hHH := HH.out.on HBY0.out
  have hHR := HREC.out.on HBY0.out
  have hHP := HRP.out.on HBY0.out
  clear HH HREC HRP HC43 HS
  have HH := Lib.hid hHH
  have HREC := Lib.hid hHR
  have HRP := Lib.hid hHP
  clear hHH hHR hHP HBY0
  obtain ⟨wx, hwx⟩ : ∃ wx, wx = wy := ⟨_, rfl⟩
  rw [← hwx] at HH HREC HRP ⊢
  clear hwx wy
  -- the power goes
  obtain ⟨Y, R, hfall, hyf, hyl, hyo, hyr⟩ := HE.out.fall fates (ag : Int) HCH.out.symm
  have HFL := Lib.hid hfall
  have HYF := Lib.hid hyf
  have HYL := Lib.hid hyl
  have HYO := Lib.hid hyo
  have HYR := Lib.hid hyr
  clear hfall hyf hyl hyo hyr
  have HC45 := Lib.hid (show ∀ V, Below wx.heap.size wx V → Calls Tryd.prog 31 #[.agg C3, v1, .int .i64 (ag : Int)] V fun e w' => ∃ C2, e = .returned (.tuple #[.agg C2, .int .i64 0]) ∧ D4 C2 ∧ DiskAt w' (.agg C2) Y ∧ (∀ b, b < V.heap.size → Clear b (.agg C3) → Clear b (.agg C2)) ∧ Below wx.heap.size wx w' ∧ Below V.heap.size V w' from fun V hV =>
    (fall_f V (.agg C3) v1 d3 fates (ag : Int) (by omega) (by omega) (by omega) (HH.out.D.kept hV (Nat.le_refl _)) (HFA1.out.kept (below_chain HH.out.B hV) (Nat.le_refl _))).mono fun e w' ⟨⟨u, h1, hg⟩, hb⟩ => by
      rw [HFL.out] at h1 hg
      obtain ⟨C2, rfl, hc2⟩ := hg.1.agg
      exact ⟨C2, h1, hc2, hg.1, hg.2, below_chain hV hb, hb⟩)
  have HS := Lib.hid (show ∀ V, Below wx.heap.size wx V → (diskVar ⟨b6, 0, none⟩).run Tryd.prog V = .ok (.agg C3) V ∧ V.cell? ⟨bf, of + t * 4 + 1, none⟩ = some v1 ∧ V.cell? ⟨bf, of + t * 4 + 2, none⟩ = some (.int .u8 ag) from fun V hV =>
    ⟨(HH.out.on hV).V.load, (HCELL.out V (below_chain HH.out.B hV)).2.1, (HCELL.out V (below_chain HH.out.B hV)).2.2.1⟩)
  have hb0 : Below wx.heap.size wx wx.drew := (Below.refl _ _).drew
  go_upto_region 45 with fail
  go_cut [22, 23] from 187 to 202 (fun s22 s23 wz => s23 = .int .i64 0 ∧ ∃ b22 C2, s22 = .pointer (some ⟨b22, 0, none⟩) ∧ NewDisk wx wz b22 C3 C2 Y)
  case first =>
    go_wp2_with fail
    refine wp_region_held_drew (S := fun V => (diskVar ⟨b6, 0, none⟩).run Tryd.prog V = .ok (.agg C3) V ∧ V.cell? ⟨bf, of + t * 4 + 1, none⟩ = some v1 ∧ V.cell? ⟨bf, of + t * 4 + 2, none⟩ = some (.int .u8 ag)) (by kernel_rfl) (HS.out _ hb0) (fun hHeld => ?_)
    refine' wpAnyH_take (i := 0) (v := _) rfl (by kernel_rfl) (by kernel_rfl) (by kernel_rfl) (fun _ _ _ h => h) (Or.inl ⟨by rfl, ?hy0⟩) (by assumption) ?rest0
    case hy0 => (intro w hSw; (try dsimp only at hSw); obtain ⟨s1, s2, s3⟩ := hSw; go_simp; try with_reducible rfl)
    try simp only [Act.put, List.getElem_toArray, List.getElem_cons_zero, List.getElem_cons_succ, List.setIfInBounds_toArray, List.set_cons_zero, List.set_cons_succ]
    refine' wpAnyH_take (i := 1) (v := _) rfl (by kernel_rfl) (by kernel_rfl) (by kernel_rfl) (fun _ _ _ h => h) (Or.inl ⟨by rfl, ?hy1⟩) (by assumption) ?rest1
    case hy1 => (intro w hSw; (try dsimp only at hSw); obtain ⟨s1, s2, s3⟩ := hSw; go_simp; try with_reducible rfl)
    try simp only [Act.put, List.getElem_toArray, List.getElem_cons_zero, List.getElem_cons_succ, List.setIfInBounds_toArray, List.set_cons_zero, List.set_cons_succ]
    refine' wpAnyH_take (i := 2) (v := _) rfl (by kernel_rfl) (by kernel_rfl) (by kernel_rfl) (fun _ _ _ h => h) (Or.inl ⟨by rfl, ?hy2⟩) (by assumption) ?rest2
    case hy2 => (intro w hSw; (try dsimp only at hSw); obtain ⟨s1, s2, s3⟩ := hSw; go_simp; try with_reducible rfl)
    try simp only [Act.put, List.getElem_toArray, List.getElem_cons_zero, List.getElem_cons_succ, List.setIfInBounds_toArray, List.set_cons_zero, List.set_cons_succ]
    refine' wpAnyH_take (i := 3) (v := _) rfl (by kernel_rfl) (by kernel_rfl) (by kernel_rfl) (fun _ _ _ h => h) (Or.inl ⟨by rfl, ?hy3⟩) (by assumption) ?rest3
    case hy3 => (intro w hSw; (try dsimp only at hSw); obtain ⟨s1, s2, s3⟩ := hSw; go_simp; try with_reducible rfl)
    try simp only [Act.put, List.getElem_toArray, List.getElem_cons_zero, List.getElem_cons_succ, List.setIfInBounds_toArray, List.set_cons_zero, List.set_cons_succ]
    refine' wpAnyH_take (i := 4) (v := _) rfl (by kernel_rfl) (by kernel_rfl) (by kernel_rfl) (fun _ _ _ h => h) (Or.inl ⟨by rfl, ?hy4⟩) (by assumption) ?rest4
    case hy4 => (intro w hSw; (try dsimp only at hSw); obtain ⟨s1, s2, s3⟩ := hSw; go_simp; try with_reducible rfl)
    try simp only [Act.put, List.getElem_toArray, List.getElem_cons_zero, List.getElem_cons_succ, List.setIfInBounds_toArray, List.set_cons_zero, List.set_cons_succ]
    refine' wpAnyH_take (i := 5) (v := _) rfl (by kernel_rfl) (by kernel_rfl) (by kernel_rfl) (fun _ _ _ h => h) (Or.inl ⟨by rfl, ?hy5⟩) (by assumption) ?rest5
    case hy5 => (intro w hSw; (try dsimp only at hSw); obtain ⟨s1, s2, s3⟩ := hSw; go_simp; try with_reducible rfl)
    try simp only [Act.put, List.getElem_toArray, List.getElem_cons_zero, List.getElem_cons_succ, List.setIfInBounds_toArray, List.set_cons_zero, List.set_cons_succ]
    refine' wpAnyH_take (i := 6) (v := _) rfl (by kernel_rfl) (by kernel_rfl) (by kernel_rfl) (fun _ _ _ h => h) (Or.inl ⟨by rfl, ?hy6⟩) (by assumption) ?rest6
    case hy6 => (intro w hSw; (try dsimp only at hSw); obtain ⟨s1, s2, s3⟩ := hSw; go_simp; try with_reducible rfl)
    try simp only [Act.put, List.getElem_toArray, List.getElem_cons_zero, List.getElem_cons_succ, List.setIfInBounds_toArray, List.set_cons_zero, List.set_cons_succ]
    refine' wpAnyH_take (i := 7) (v := _) rfl (by kernel_rfl) (by kernel_rfl) (by kernel_rfl) (fun _ _ _ h => h) (Or.inl ⟨by rfl, ?hy7⟩) (by assumption) ?rest7
    case hy7 => (intro w hSw; (try dsimp only at hSw); obtain ⟨s1, s2, s3⟩ := hSw; go_simp; try with_reducible rfl)
    try simp only [Act.put, List.getElem_toArray, List.getElem_cons_zero, List.getElem_cons_succ, List.setIfInBounds_toArray, List.set_cons_zero, List.set_cons_succ]
    refine' wpAnyH_take (i := 8) (v := _) rfl (by kernel_rfl) (by kernel_rfl) (by kernel_rfl) (fun _ _ _ h => h) (Or.inl ⟨by rfl, ?hy8⟩) (by assumption) ?rest8
    case hy8 => (intro w hSw; (try dsimp only at hSw); obtain ⟨s1, s2, s3⟩ := hSw; go_simp; try with_reducible rfl)
    try simp only [Act.put, List.getElem_toArray, List.getElem_cons_zero, List.getElem_cons_succ, List.setIfInBounds_toArray, List.set_cons_zero, List.set_cons_succ]
    refine' wpAnyH_take (i := 9) (v := _) rfl (by kernel_rfl) (by kernel_rfl) (by kernel_rfl) (fun _ _ _ h => h) (Or.inl ⟨by rfl, ?hy9⟩) (by assumption) ?rest9
    case hy9 => (intro w hSw; (try dsimp only at hSw); obtain ⟨s1, s2, s3⟩ := hSw; go_simp; try with_reducible rfl)
    try simp only [Act.put, List.getElem_toArray, List.getElem_cons_zero, List.getElem_cons_succ, List.setIfInBounds_toArray, List.set_cons_zero, List.set_cons_succ]
    refine' wpAnyH_take (i := 10) (v := _) rfl (by kernel_rfl) (by kernel_rfl) (by kernel_rfl) (fun _ _ _ h => h) (Or.inl ⟨by rfl, ?hy10⟩) (by assumption) ?rest10
    case hy10 => (intro w hSw; (try dsimp only at hSw); obtain ⟨s1, s2, s3⟩ := hSw; go_simp; try with_reducible rfl)
    try simp only [Act.put, List.getElem_toArray, List.getElem_cons_zero, List.getElem_cons_succ, List.setIfInBounds_toArray, List.set_cons_zero, List.set_cons_succ]
    refine' wpAnyH_take (i := 11) (v := _) rfl (by kernel_rfl) (by kernel_rfl) (by kernel_rfl) (fun _ _ _ h => h) (Or.inl ⟨by rfl, ?hy11⟩) (by assumption) ?rest11
    case hy11 => (intro w hSw; (try dsimp only at hSw); obtain ⟨s1, s2, s3⟩ := hSw; go_simp; try with_reducible rfl)
    try simp only [Act.put, List.getElem_toArray, List.getElem_cons_zero, List.getElem_cons_succ, List.setIfInBounds_toArray, List.set_cons_zero, List.set_cons_succ]
    refine wpAnyH_ready (rs := [12, 16]) (by kernel_rfl) (by simp) (AllReadyH.cons rfl (fun K hK => ?_) (AllReadyH.cons rfl (fun K hK => ?_) AllReadyH.nil))
    · go_simp
      refine (HC45.out _ hb0).mono ?_
      rintro e w6 ⟨C2, rfl, hc2, hd2, htr2, hb6, hbx⟩
      refine hK.out _ _ (HS.out _ (hb6)) (fun hHeld => ?_)
      clear hK K
      try simp only [Act.put, List.getElem_toArray, List.getElem_cons_zero, List.getElem_cons_succ, List.setIfInBounds_toArray, List.set_cons_zero, List.set_cons_succ]
      refine' wpAnyH_take (i := 13) (v := _) rfl (by kernel_rfl) (by kernel_rfl) (by kernel_rfl) (fun _ _ _ h => h) (Or.inl ⟨by rfl, ?hyL13⟩) (by assumption) ?restL13
      case hyL13 => (intro w hSw; (try dsimp only at hSw); obtain ⟨s1, s2, s3⟩ := hSw; go_simp; try with_reducible rfl)
      try simp only [Act.put, List.getElem_toArray, List.getElem_cons_zero, List.getElem_cons_succ, List.setIfInBounds_toArray, List.set_cons_zero, List.set_cons_succ]
      refine' wpAnyH_take (i := 14) (v := _) rfl (by kernel_rfl) (by kernel_rfl) (by kernel_rfl) (fun _ _ _ h => h) (Or.inl ⟨by rfl, ?hyL14⟩) (by assumption) ?restL14
      case hyL14 => (intro w hSw; (try dsimp only at hSw); obtain ⟨s1, s2, s3⟩ := hSw; go_simp; try with_reducible rfl)
      try simp only [Act.put, List.getElem_toArray, List.getElem_cons_zero, List.getElem_cons_succ, List.setIfInBounds_toArray, List.set_cons_zero, List.set_cons_succ]
      refine' wpAnyH_take (i := 15) (v := _) rfl (by kernel_rfl) (by kernel_rfl) (by kernel_rfl) (fun _ _ _ h => h) (Or.inl ⟨by rfl, ?hyL15⟩) (by assumption) ?restL15
      case hyL15 => (intro w hSw; (try dsimp only at hSw); obtain ⟨s1, s2, s3⟩ := hSw; go_simp; try with_reducible rfl)
      try simp only [Act.put, List.getElem_toArray, List.getElem_cons_zero, List.getElem_cons_succ, List.setIfInBounds_toArray, List.set_cons_zero, List.set_cons_succ]
      refine wpAnyH_ready (rs := [16]) (by kernel_rfl) (by simp) (AllReadyH.cons rfl (fun K hK => ?_) AllReadyH.nil)
      go_simp
      refine hK.out _ _ (HS.out _ (hb6.alloc hb6.size _)) (fun hHeld => ?_)
      clear hK K
      try simp only [Act.put, List.getElem_toArray, List.getElem_cons_zero, List.getElem_cons_succ, List.setIfInBounds_toArray, List.set_cons_zero, List.set_cons_succ]
      refine wpAnyH_ready (rs := [17]) (by kernel_rfl) (by simp) (AllReadyH.cons rfl (fun K hK => ?_) AllReadyH.nil)
      go_simp
      refine hK.out _ _ (HS.out _ (hb6.alloc hb6.size _)) (fun hHeld => ?_)
      clear hK K
      try simp only [Act.put, List.getElem_toArray, List.getElem_cons_zero, List.getElem_cons_succ, List.setIfInBounds_toArray, List.set_cons_zero, List.set_cons_succ]
      refine' wpAnyH_take (i := 18) (v := _) rfl (by kernel_rfl) (by kernel_rfl) (by kernel_rfl) (fun _ _ _ h => h) (Or.inl ⟨by rfl, ?hyL18⟩) (by assumption) ?restL18
      case hyL18 => (intro w hSw; (try dsimp only at hSw); obtain ⟨s1, s2, s3⟩ := hSw; go_simp; try with_reducible rfl)
      try simp only [Act.put, List.getElem_toArray, List.getElem_cons_zero, List.getElem_cons_succ, List.setIfInBounds_toArray, List.set_cons_zero, List.set_cons_succ]
      refine wpAnyH_done (by kernel_rfl) ?_ _
      clear hHeld
      go_wp2_with fail
      go_meet
      exact ⟨rfl, w6.heap.size, C2, rfl, dvar_new w6 hc2, hd2.kept ((Below.refl w6.heap.size w6).alloc (Nat.le_refl _) _) (Nat.le_refl _), hb6.alloc hb6.size _, hb6.size, htr2, hc2⟩
    · go_simp
      have hba := hb0.alloc (Nat.le_refl _) (.cells #[.slice none 0 0, .slice none 0 0, .int .i64 0, .bool false] 25)
      refine hK.out _ _ (HS.out _ (hba)) (fun hHeld => ?_)
      clear hK K
      try simp only [Act.put, List.getElem_toArray, List.getElem_cons_zero, List.getElem_cons_succ, List.setIfInBounds_toArray, List.set_cons_zero, List.set_cons_succ]
      refine wpAnyH_ready (rs := [12]) (by kernel_rfl) (by simp) (AllReadyH.cons rfl (fun K hK => ?_) AllReadyH.nil)
      go_simp
      refine (HC45.out _ hba).mono ?_
      rintro e w6 ⟨C2, rfl, hc2, hd2, htr2, hb6, hbx⟩
      refine hK.out _ _ (HS.out _ (hb6)) (fun hHeld => ?_)
      clear hK K
      try simp only [Act.put, List.getElem_toArray, List.getElem_cons_zero, List.getElem_cons_succ, List.setIfInBounds_toArray, List.set_cons_zero, List.set_cons_succ]
      refine' wpAnyH_take (i := 13) (v := _) rfl (by kernel_rfl) (by kernel_rfl) (by kernel_rfl) (fun _ _ _ h => h) (Or.inl ⟨by rfl, ?hyR13⟩) (by assumption) ?restR13
      case hyR13 => (intro w hSw; (try dsimp only at hSw); obtain ⟨s1, s2, s3⟩ := hSw; go_simp; try with_reducible rfl)
      try simp only [Act.put, List.getElem_toArray, List.getElem_cons_zero, List.getElem_cons_succ, List.setIfInBounds_toArray, List.set_cons_zero, List.set_cons_succ]
      refine' wpAnyH_take (i := 14) (v := _) rfl (by kernel_rfl) (by kernel_rfl) (by kernel_rfl) (fun _ _ _ h => h) (Or.inl ⟨by rfl, ?hyR14⟩) (by assumption) ?restR14
      case hyR14 => (intro w hSw; (try dsimp only at hSw); obtain ⟨s1, s2, s3⟩ := hSw; go_simp; try with_reducible rfl)
      try simp only [Act.put, List.getElem_toArray, List.getElem_cons_zero, List.getElem_cons_succ, List.setIfInBounds_toArray, List.set_cons_zero, List.set_cons_succ]
      refine' wpAnyH_take (i := 15) (v := _) rfl (by kernel_rfl) (by kernel_rfl) (by kernel_rfl) (fun _ _ _ h => h) (Or.inl ⟨by rfl, ?hyR15⟩) (by assumption) ?restR15
      case hyR15 => (intro w hSw; (try dsimp only at hSw); obtain ⟨s1, s2, s3⟩ := hSw; go_simp; try with_reducible rfl)
      try simp only [Act.put, List.getElem_toArray, List.getElem_cons_zero, List.getElem_cons_succ, List.setIfInBounds_toArray, List.set_cons_zero, List.set_cons_succ]
      have hlt6 : wx.heap.size < w6.heap.size := by have := hbx.size; simp at this; omega
      have hth6 : w6.there wx.heap.size 0 4 := there_below (there_disk wx.drew zeroD4) hbx (by simp)
      have hst6 := store_disk hth6 hc2
      have hcl6 : Clear wx.heap.size (.agg C2) := htr2 _ (by simp) (HH.out.D.clear (Nat.le_refl _))
      refine wpAnyH_ready (rs := [17]) (by kernel_rfl) (by simp) (AllReadyH.cons rfl (fun K hK => ?_) AllReadyH.nil)
      go_simp
      refine hK.out _ _ (HS.out _ (below_putDisk hb6 (Nat.le_refl _) _)) (fun hHeld => ?_)
      clear hK K
      try simp only [Act.put, List.getElem_toArray, List.getElem_cons_zero, List.getElem_cons_succ, List.setIfInBounds_toArray, List.set_cons_zero, List.set_cons_succ]
      refine' wpAnyH_take (i := 18) (v := _) rfl (by kernel_rfl) (by kernel_rfl) (by kernel_rfl) (fun _ _ _ h => h) (Or.inl ⟨by rfl, ?hyR18⟩) (by assumption) ?restR18
      case hyR18 => (intro w hSw; (try dsimp only at hSw); obtain ⟨s1, s2, s3⟩ := hSw; go_simp; try with_reducible rfl)
      try simp only [Act.put, List.getElem_toArray, List.getElem_cons_zero, List.getElem_cons_succ, List.setIfInBounds_toArray, List.set_cons_zero, List.set_cons_succ]
      refine wpAnyH_done (by kernel_rfl) ?_ _
      clear hHeld
      go_wp2_with fail
      go_meet
      exact ⟨rfl, wx.heap.size, C2, rfl, dvar_put hlt6 hth6 hc2, hd2.keep hcl6 (by rw [size_putDisk]; exact Nat.le_refl _) (fun q _ hq => heap_putDisk _ _ _ _ hq), below_putDisk hb6 (Nat.le_refl _) _, Nat.le_refl _, fun q hq hc => htr2 q (by simp; omega) hc, hc2⟩
  case rest =>
  rename World => wz
  obtain ⟨rfl, b22, C4, rfl, hnd⟩ := hcut
  have HND := Lib.hid hnd
  have hHH := HH.out.on hnd.B
  have hHR := HREC.out.on hnd.B
  have hHP := HRP.out.on hnd.B
  clear hb0 hnd HC45 HS
  have HHZ := Lib.hid hHH
  have HRZ := Lib.hid hHR
  have HPZ := Lib.hid hHP
  clear hHH hHR hHP
  have hl22 := HND.out.V.load
  obtain ⟨X, l4, r4, er, hX⟩ : ∃ X l r e, Y.open_ = (X, l, r, e) := ⟨_, _, _, _, rfl⟩
  have HOP := Lib.hid (HYO.out.opens HYL.out (by omega) hX)
  have HOF := Lib.hid (open_f wz (.agg C4) Y HND.out.D (HL.out.toLaid.below HHZ.out.B HL.out.size))
  rw [hX] at HOF
  clear hX
  go_wp2_with fail
  refine HOF.out.mono ?_
  rintro e w4 ⟨⟨u4, vr, rfl, hgt4, hr4⟩, hb4⟩
  obtain ⟨C5, rfl, hc5⟩ := hgt4.1.agg
  clear hl22
  obtain ⟨w5, o1, o2, hv5, hl5, hd5, hb5, hth5⟩ := two_new5 hc5 hgt4.1 l4
  have HR5 := Lib.hid (show RecsApart w5 b6 (b8 + 1) vr r4 from (RecsFrom.apart (lo := b6) (hi := b8 + 1) hr4 (by have := HHZ.out.G.lt; omega)).on hb5)
  have HNV := Lib.hid (show NewVars wx w5 w4.heap.size (w4.heap.size + 1) C3 C5 X l4 from
    ⟨hv5, hl5, hd5, below_chain (below_chain HND.out.B hb4) hb5, Nat.le_trans HND.out.B.size hb4.size, Nat.le_succ_of_le (Nat.le_trans HND.out.B.size hb4.size), fun q hq hc => hgt4.2 q (Nat.lt_of_lt_of_le hq HND.out.B.size) (HND.out.tr q hq hc), hc5⟩)
  have HCL24 := Lib.hid (show Clear w4.heap.size (.agg C5) ∧ Clear (w4.heap.size + 1) (.agg C5) from ⟨hgt4.1.clear (Nat.le_refl _), hgt4.1.clear (Nat.le_succ _)⟩)
  have HSZ := Lib.hid (show wx.heap.size ≤ w4.heap.size from Nat.le_trans HND.out.B.size hb4.size)
  have HT24 := Lib.hid (And.intro hth5 hl5.lt)
  clear hgt4 hr4 hb4 hb5 hv5 hl5 hd5 HND hth5
  go_upto_if 211 with fail
  clear o1 o2
  obtain ⟨b24, hb24⟩ : ∃ b24, b24 = w4.heap.size := ⟨_, rfl⟩
  rw [← hb24] at HNV HSZ HT24 HCL24 ⊢
  clear hb24
  have HHX := HH
  have HX5 := Lib.hid (And.intro (HH.out.on HNV.out.B) (And.intro (HREC.out.on HNV.out.B) (HRP.out.on HNV.out.B)))
  go_cut [26, 27] from 203 to 237 (fun s26 s27 wv => Opened w0 wx b6 b8 b24 (b24 + 1) C3 came3 perh3 dn (1 + 3 * (t : Int) + k + 2) s26 s27 wv)
  case first =>
    rcases HOP.out with ⟨her, hr4, hjr, _⟩ | ⟨her, hr4, hfu, hrisk⟩
    · subst her hr4
      have HFIN := Lib.hid (show Opened w0 wx b6 b8 b24 (b24 + 1) C3 came3 perh3 dn (1 + 3 * (t : Int) + k + 2) vr (.int .i64 0) w5 from
        ⟨rfl, C5, X, l4, r4, HNV.out, HR5.out, hjr.mono (by omega), HYR.out⟩)
      clear hjr HOP
      go_wp2_with fail
      go_meet
      exact HFIN.out
    subst her hr4
    have HE2 := Lib.hid (hrisk.ends)
    clear hfu hrisk HOP HR5
    have HC48 := Lib.hid (show ∀ V, Below w5.heap.size w5 V → Calls Tryd.prog 30 #[.agg C5, v2] V fun e w' => e = .returned (.bool (Jp.chance X more)) ∧ Below w5.heap.size w5 w' from fun V hV =>
      (chance_f V (.agg C5) v2 X more (by omega) HE2.out.right (HNV.out.D.kept hV (Nat.le_refl _)) (HFA2.out.kept (below_chain HX5.out.1.B hV) (Nat.le_refl _)) (HL.out.below (below_chain HX5.out.1.B hV) HL.out.size)).mono fun _ _ ⟨h1, h2⟩ => ⟨h1, below_chain hV h2⟩)
    have HS := Lib.hid (show ∀ V, Below w5.heap.size w5 V → (diskVar ⟨b24, 0, none⟩).run Tryd.prog V = .ok (.agg C5) V ∧ V.cell? ⟨bf, of + t * 4 + 3, none⟩ = some v2 from fun V hV =>
      ⟨(HNV.out.V.below hV HNV.out.V.lt).load, (HCELL.out V (below_chain HX5.out.1.B hV)).2.2.2⟩)
    have hb0 : Below w5.heap.size w5 w5.drew := (Below.refl _ _).drew
    obtain ⟨ch, hch⟩ : ∃ ch, ch = Jp.chance X more := ⟨_, rfl⟩
    rw [← hch] at HC48
    have HCH2 := Lib.hid hch
    clear hch
    go_upto_region 48 with fail
    go_cut [218] from 212 to 218 (fun s218 wu => s218 = .bool ch ∧ Below w5.heap.size w5 wu)
    case first =>
      go_wp2_with fail
      go_region_held3 (fun V => (diskVar ⟨b24, 0, none⟩).run Tryd.prog V = .ok (.agg C5) V ∧ V.cell? ⟨bf, of + t * 4 + 3, none⟩ = some v2)
        (first | exact HS.out _ hb0 | exact HS.out _ hbc)
        (first
          | (go_at_call 30
             (with_reducible refine (HC48.out _ hb0).mono ?_)
             rintro e wc ⟨rfl, hbc⟩))
      all_goals go_wp2_with fail
      all_goals go_meet
      all_goals exact ⟨rfl, hbc⟩
    case rest =>
    rename World => wu
    obtain ⟨rfl, hbu⟩ := hcut
    have HBU := Lib.hid hbu
    clear hbu hb0 HC48
    cases ch
    case true =>
      go_wp2_with fail
      exact HK3.out (.bool true) _ _ _ _ _ _ _ _ _ _ _ _ _ _ _ _ _ _ _ _ _ _ _ _ _ _ _ _ _ _ _ _ _ _ _ _ _ _ _ _ _ _ _ _ _ _ _ _ _ _ _ _ _ _ _ _ _ _ _ _ _ _ _ _ _ _ _ _ _ _ _ _ _ _ _ _ _ _ _ _ _ _ _ _ _ _ _ _ _ _ _ _ _ _ _ _ _ _ _ _ _ _ _ _ _ _ _ _ _ _ _ _ _ _ _ _ _ _ _ _ _ _ _ _ _ _ _ _ _ _ _ _ _ _ _ _ _ _ _ _ _ _ _ _ _ _ _ _ _ _ _ _ _ _ _ _ _ _ _ _ _ _ _ _ _ _ _ _ _ _ _ _ _ _ _ _ _ _ _ _ _ _ _ _ _ _ _ _ _ _ _ _ _ k _ (below_chain HX5.out.1.B HBU.out)
    -- the power goes again
    obtain ⟨Z, R2, hfall, hzf, hzl, hzo, hzr⟩ := HE2.out.fall more (-1) HCH2.out.symm
    obtain rfl : R2 = R := by rcases hzr with q | ⟨_, q⟩ <;> exact q
    have HFL2 := Lib.hid hfall
    have HZF := Lib.hid hzf
    have HZL := Lib.hid hzl
    have HZO := Lib.hid hzo
    clear hfall hzf hzl hzo hzr
    have hNU : Below w5.heap.size w5 wu := HBU.out
    have HC50 := Lib.hid (show ∀ V, Below wu.heap.size wu V → Calls Tryd.prog 31 #[.agg C5, v2, .int .i64 (-1)] V fun e w' => ∃ C2, e = .returned (.tuple #[.agg C2, .int .i64 0]) ∧ D4 C2 ∧ DiskAt w' (.agg C2) Z ∧ (∀ b, b < V.heap.size → Clear b (.agg C5) → Clear b (.agg C2)) ∧ Below wu.heap.size wu w' ∧ Below V.heap.size V w' from fun V hV =>
      (fall_f V (.agg C5) v2 X more (-1) (by omega) (by omega) (by omega) ((HNV.out.D.kept hNU (Nat.le_refl _)).kept hV (Nat.le_refl _)) (HFA2.out.kept (below_chain (below_chain HX5.out.1.B hNU) hV) (Nat.le_refl _))).mono fun e w' ⟨⟨u, h1, hg⟩, hb⟩ => by
        rw [HFL2.out] at h1 hg
        obtain ⟨C2, rfl, hc2⟩ := hg.1.agg
        exact ⟨C2, h1, hc2, hg.1, hg.2, below_chain hV hb, hb⟩)
    have HSU := Lib.hid (show ∀ V, Below wu.heap.size wu V → (diskVar ⟨b24, 0, none⟩).run Tryd.prog V = .ok (.agg C5) V ∧ V.cell? ⟨bf, of + t * 4 + 3, none⟩ = some v2 from fun V hV => HS.out V (below_chain hNU hV))
    have HTU := Lib.hid (show ∀ V, Below wu.heap.size wu V → V.there b24 0 4 from fun V hV => there_below (there_below HT24.out.1 hNU HNV.out.V.lt) hV (Nat.lt_of_lt_of_le HNV.out.V.lt hNU.size))
    have hb0 : Below wu.heap.size wu wu.drew := (Below.refl _ _).drew
    have HLU := Lib.hid (show b24 < wu.heap.size ∧ b24 + 1 < wu.heap.size from ⟨Nat.lt_of_lt_of_le HNV.out.V.lt hNU.size, Nat.lt_of_lt_of_le HT24.out.2 hNU.size⟩)
    clear hNU
    go_upto_region 50 with fail
    go_cut [27] from 219 to 228 (fun s27 wv => s27 = .int .i64 0 ∧ ∃ C6 w6, wv = putDisk w6 b24 C6 ∧ D4 C6 ∧ DiskAt w6 (.agg C6) Z ∧ (∀ b, b < wu.heap.size → Clear b (.agg C5) → Clear b (.agg C6)) ∧ Below wu.heap.size wu w6)
    case first =>
      go_wp2_with fail
      refine wp_region_until (S := fun V => (diskVar ⟨b24, 0, none⟩).run Tryd.prog V = .ok (.agg C5) V ∧ V.cell? ⟨bf, of + t * 4 + 3, none⟩ = some v2) 10 (by kernel_rfl) (HSU.out _ hb0) (fun hHeld => ?_)
      refine' wpAnyU_take (i := 0) (v := _) rfl (by kernel_rfl) (by kernel_rfl) (by kernel_rfl) (by kernel_rfl) (fun _ _ _ h => h) (Or.inl ⟨by rfl, ?hz0⟩) hHeld ?then0
      case hz0 => (intro w hSw; (try dsimp only at hSw); obtain ⟨s1, s2⟩ := hSw; go_simp; try with_reducible rfl)
      try simp only [Act.put, List.getElem_toArray, List.getElem_cons_zero, List.getElem_cons_succ, List.setIfInBounds_toArray, List.set_cons_zero, List.set_cons_succ]
      refine' wpAnyU_takeAny (i := 1) (v := _) rfl (by kernel_rfl) (by kernel_rfl) (by kernel_rfl) (by kernel_rfl) (fun _ _ _ h => h) (Or.inl ⟨by rfl, ?hz1⟩) (fun _ => hHeld) ?then1
      case hz1 => (intro w hSw; clear hSw; go_simp; try with_reducible rfl)
      try simp only [Act.put, List.getElem_toArray, List.getElem_cons_zero, List.getElem_cons_succ, List.setIfInBounds_toArray, List.set_cons_zero, List.set_cons_succ]
      refine' wpAnyU_takeAny (i := 2) (v := _) rfl (by kernel_rfl) (by kernel_rfl) (by kernel_rfl) (by kernel_rfl) (fun _ _ _ h => h) (Or.inl ⟨by rfl, ?hz2⟩) (fun _ => hHeld) ?then2
      case hz2 => (intro w hSw; clear hSw; go_simp; try with_reducible rfl)
      try simp only [Act.put, List.getElem_toArray, List.getElem_cons_zero, List.getElem_cons_succ, List.setIfInBounds_toArray, List.set_cons_zero, List.set_cons_succ]
      refine' wpAnyU_takeAny (i := 3) (v := _) rfl (by kernel_rfl) (by kernel_rfl) (by kernel_rfl) (by kernel_rfl) (fun _ _ _ h => h) (Or.inl ⟨by rfl, ?hz3⟩) (fun _ => hHeld) ?then3
      case hz3 => (intro w hSw; clear hSw; go_simp; try with_reducible rfl)
      try simp only [Act.put, List.getElem_toArray, List.getElem_cons_zero, List.getElem_cons_succ, List.setIfInBounds_toArray, List.set_cons_zero, List.set_cons_succ]
      refine' wpAnyU_takeAny (i := 4) (v := _) rfl (by kernel_rfl) (by kernel_rfl) (by kernel_rfl) (by kernel_rfl) (fun _ _ _ h => h) (Or.inl ⟨by rfl, ?hz4⟩) (fun _ => hHeld) ?then4
      case hz4 => (intro w hSw; clear hSw; go_simp; try with_reducible rfl)
      try simp only [Act.put, List.getElem_toArray, List.getElem_cons_zero, List.getElem_cons_succ, List.setIfInBounds_toArray, List.set_cons_zero, List.set_cons_succ]
      refine' wpAnyU_take (i := 5) (v := _) rfl (by kernel_rfl) (by kernel_rfl) (by kernel_rfl) (by kernel_rfl) (fun _ _ _ h => h) (Or.inl ⟨by rfl, ?hz5⟩) hHeld ?then5
      case hz5 => (intro w hSw; (try dsimp only at hSw); obtain ⟨s1, s2⟩ := hSw; go_simp; try with_reducible rfl)
      try simp only [Act.put, List.getElem_toArray, List.getElem_cons_zero, List.getElem_cons_succ, List.setIfInBounds_toArray, List.set_cons_zero, List.set_cons_succ]
      refine wpAnyU_one (i := 6) (by kernel_rfl) rfl (fun K hK => ?_)
      go_simp
      refine (HC50.out _ hb0).mono ?_
      rintro e w6 ⟨C2, rfl, hc2, hd2, htr2, hb6, hbx⟩
      have hHeld6 := HSU.out _ hb6
      have hst6 := store_disk (HTU.out _ hb6) hc2
      refine hK.out _ _ ⟨fun _ _ => hHeld6, ?_⟩
      clear hK K
      try simp only [Act.put, List.getElem_toArray, List.getElem_cons_zero, List.getElem_cons_succ, List.setIfInBounds_toArray, List.set_cons_zero, List.set_cons_succ]
      refine' wpAnyU_takeAny (i := 7) (v := _) rfl (by kernel_rfl) (by kernel_rfl) (by kernel_rfl) (by kernel_rfl) (fun _ _ _ h => h) (Or.inl ⟨by rfl, ?hz7⟩) (fun _ => hHeld6) ?then7
      case hz7 => (intro w hSw; clear hSw; go_simp; try with_reducible rfl)
      try simp only [Act.put, List.getElem_toArray, List.getElem_cons_zero, List.getElem_cons_succ, List.setIfInBounds_toArray, List.set_cons_zero, List.set_cons_succ]
      refine' wpAnyU_takeAny (i := 8) (v := _) rfl (by kernel_rfl) (by kernel_rfl) (by kernel_rfl) (by kernel_rfl) (fun _ _ _ h => h) (Or.inl ⟨by rfl, ?hz8⟩) (fun _ => hHeld6) ?then8
      case hz8 => (intro w hSw; clear hSw; go_simp; try with_reducible rfl)
      try simp only [Act.put, List.getElem_toArray, List.getElem_cons_zero, List.getElem_cons_succ, List.setIfInBounds_toArray, List.set_cons_zero, List.set_cons_succ]
      refine' wpAnyU_takeAny (i := 9) (v := _) rfl (by kernel_rfl) (by kernel_rfl) (by kernel_rfl) (by kernel_rfl) (fun _ _ _ h => h) (Or.inl ⟨by rfl, ?hz9⟩) (fun _ => hHeld6) ?then9
      case hz9 => (intro w hSw; clear hSw; go_simp; try with_reducible rfl)
      try simp only [Act.put, List.getElem_toArray, List.getElem_cons_zero, List.getElem_cons_succ, List.setIfInBounds_toArray, List.set_cons_zero, List.set_cons_succ]
      refine wpAnyU_one (i := 10) (by kernel_rfl) rfl (fun K hK => ?_)
      go_simp
      refine hK.out _ _ ⟨fun q => absurd rfl q, ?_⟩
      clear hK K
      try simp only [Act.put, List.getElem_toArray, List.getElem_cons_zero, List.getElem_cons_succ, List.setIfInBounds_toArray, List.set_cons_zero, List.set_cons_succ]
      refine' wpAnyU_takeAny (i := 11) (v := _) rfl (by kernel_rfl) (by kernel_rfl) (by kernel_rfl) (by kernel_rfl) (fun _ _ _ h => h) (Or.inl ⟨by rfl, ?hz11⟩) (fun q => (by cases q)) ?then11
      case hz11 => (intro w hSw; clear hSw; go_simp; try with_reducible rfl)
      try simp only [Act.put, List.getElem_toArray, List.getElem_cons_zero, List.getElem_cons_succ, List.setIfInBounds_toArray, List.set_cons_zero, List.set_cons_succ]
      refine wpAnyU_done (by kernel_rfl) ?_ _
      go_wp2_with fail
      go_meet
      exact ⟨rfl, C2, w6, rfl, hc2, hd2, fun b hb hc => htr2 b (by simpa using hb) hc, hb6⟩
    case rest =>
    rename World => wv
    obtain ⟨rfl, C6, w6, rfl, hc6, hd6, htr6, hb6⟩ := hcut
    have hth6 : w6.there b24 0 4 := HTU.out w6 hb6
    have hlt6 : b24 < w6.heap.size := Nat.lt_of_lt_of_le HLU.out.1 hb6.size
    have hbwu : Below wx.heap.size wx wu := below_chain HNV.out.B HBU.out
    have hcl24 : Clear b24 (.agg C6) := htr6 _ HLU.out.1 (HCL24.out.1)
    have HD6 := Lib.hid (show DiskAt (putDisk w6 b24 C6) (.agg C6) Z from hd6.keep hcl24 (by rw [size_putDisk]; exact Nat.le_refl _) (fun q _ hq => heap_putDisk _ _ _ _ hq))
    have HV6 := Lib.hid (show DVar (putDisk w6 b24 C6) b24 C6 from dvar_put hlt6 hth6 hc6)
    have HT6 := Lib.hid (show (putDisk w6 b24 C6).there b24 0 4 from there_putDisk hth6 _ _)
    have HG6 := Lib.hid (show LogAt (putDisk w6 b24 C6) (b24 + 1) l4 from ((HNV.out.G.on HBU.out HT24.out.2).on hb6 HLU.out.2).keepb (heap_putDisk _ _ _ _ (by omega)))
    have HB6 := Lib.hid (show Below wx.heap.size wx (putDisk w6 b24 C6) from below_putDisk (below_chain hbwu hb6) HSZ.out C6)
    have HTR6 := Lib.hid (show ∀ q, q < wx.heap.size → Clear q (.agg C3) → Clear q (.agg C6) from fun q hq hc => htr6 q (Nat.lt_of_lt_of_le hq hbwu.size) (HNV.out.tr q hq hc))
    have HC6 := Lib.hid hc6
    have HCL6 := Lib.hid (show Clear b24 (.agg C6) ∧ Clear (b24 + 1) (.agg C6) from ⟨hcl24, htr6 _ HLU.out.2 HCL24.out.2⟩)
    obtain ⟨w7, hw7⟩ : ∃ w7, w7 = putDisk w6 b24 C6 := ⟨_, rfl⟩
    rw [← hw7] at HD6 HV6 HT6 HG6 HB6 ⊢
    clear hc6 hd6 htr6 hb6 hth6 hlt6 hbwu hcl24 hw7 hb0 HC50 HSU HTU
    have hl24 := HV6.out.load
    obtain ⟨X2, l6, r6, er6, hX2⟩ : ∃ X l r e, Z.open_ = (X, l, r, e) := ⟨_, _, _, _, rfl⟩
    have hop2 := HZO.out.opens HZL.out (by omega) hX2
    have hzf2 : Z.fuse < 0 := by rw [HZF.out]; show max (-1 : Int) (-1) < 0; omega
    obtain ⟨her6, hr6, hjr6, _⟩ : er6 = 0 ∧ r6 = R2 ∧ Jp.Jrn X2 l6 R2 (1 + 3 * (t : Int) + k + 1 + 1) ∧ (Z.fuse < 0 → X2.fuse < 0) := by
      rcases hop2 with q | ⟨_, _, q, _⟩
      · exact q
      · omega
    subst her6 hr6
    have HJR6 := Lib.hid hjr6
    have HOF2 := Lib.hid (open_f w7 (.agg C6) Z HD6.out (HL.out.toLaid.below (below_chain HH.out.B HB6.out) HL.out.size))
    rw [hX2] at HOF2
    clear hX2 hop2 hzf2 hjr6
    go_wp2_with fail
    refine HOF2.out.mono ?_
    rintro e w8 ⟨⟨u8, vr8, rfl, hgt8, hr8⟩, hb8⟩
    obtain ⟨C8, rfl, hc8⟩ := hgt8.1.agg
    clear hl24
    have hth8 : w8.there b24 0 4 := there_below HT6.out hb8 HV6.out.lt
    have hg8 : LogAt w8 (b24 + 1) l4 := HG6.out.on hb8 HG6.out.lt
    have ho1 := store_disk hth8 hc8
    have hth8b : (putDisk w8 b24 C8).there (b24 + 1) 0 3 := there_putDisk hg8.there _ _
    have ho2 := store_log hth8b l6
    have hlt8 : b24 < w8.heap.size := Nat.lt_of_lt_of_le HV6.out.lt hb8.size
    have hcl8 : Clear b24 (.agg C8) := hgt8.2 _ HV6.out.lt HCL6.out.1
    have hcl9 : Clear (b24 + 1) (.agg C8) := hgt8.2 _ HG6.out.lt HCL6.out.2
    have hbx8 : Below wx.heap.size wx w8 := below_chain HB6.out hb8
    have HFIN := Lib.hid (show Opened w0 wx b6 b8 b24 (b24 + 1) C3 came3 perh3 dn (1 + 3 * (t : Int) + k + 2) vr8 (.int .i64 0) (putLog (putDisk w8 b24 C8) (b24 + 1) l6) from by
      refine ⟨rfl, C8, X2, l6, r6, ⟨(dvar_put hlt8 hth8 hc8).keepb (by rw [size_putLog]; exact Nat.le_refl _) (heap_putLog _ _ _ _ (by omega)), logAt_put hth8b l6, ?_, below_putLog (below_putDisk hbx8 HSZ.out C8) (Nat.le_succ_of_le HSZ.out) l6, HSZ.out, Nat.le_succ_of_le HSZ.out, fun q hq hc => hgt8.2 q (Nat.lt_of_lt_of_le hq HB6.out.size) (HTR6.out q hq hc), hc8⟩, ?_, HJR6.out.mono (by omega), HYR.out⟩
      · exact (hgt8.1.keep hcl8 (by rw [size_putDisk]; exact Nat.le_refl _) (fun q _ hq => heap_putDisk _ _ _ _ hq)).keep hcl9 (by rw [size_putLog]; exact Nat.le_refl _) (fun q _ hq => heap_putLog _ _ _ _ hq)
      · refine RecsFrom.apart (base := w7.heap.size) (hr8.keep (by rw [size_putLog, size_putDisk]; exact Nat.le_refl _) (fun b _ hb => ?_)) (by have := HH.out.G.lt; have := HB6.out.size; omega)
        have := HV6.out.lt
        have := HG6.out.lt
        exact (heap_putLog _ _ _ _ (by omega)).trans (heap_putDisk _ _ _ _ (by omega)))
    clear hgt8 hr8 hb8 hth8 hg8 hth8b hlt8 hcl8 hcl9 hbx8 hc8
    go_wp2_with fail
    go_meet
    exact HFIN.out
  case rest =>
  rename World => wv
  obtain ⟨rfl, C7, X7, l7, R7, hnv, hr7, hj7, hor⟩ := hcut
  obtain ⟨vr7, hvr7⟩ : ∃ vr7, vr7 = u26 := ⟨_, rfl⟩
  rw [← hvr7] at hr7 ⊢
  clear hvr7
  have HNV7 := Lib.hid hnv
  have HR7 := Lib.hid hr7
  have HJ7 := Lib.hid hj7
  have HC7 := Lib.hid (And.intro (HREC.out.on hnv.B) (HRP.out.on hnv.B))
  clear hnv hr7 hj7 HNV HR5 HX5 HT24 HOP HYR
  go_upto_region 54 with fail
  go_cut [258] from 238 to 258 (fun s258 wq => s258 = .bool false ∧ Below wv.heap.size wv wq)
  case first =>
    by_cases heq : R7 = came3
    · have HSM1 := Lib.hid (show Calls Tryd.prog 20 #[vr7, vc] wv fun e w' => e = .returned (.bool true) ∧ Below wv.heap.size wv w' by
        have := rsame15_f wv vr7 vc R7 came3 HR7.out.at HC7.out.1.at
        rwa [decide_eq_true heq] at this)
      clear heq hor
      go_wp2_with fail
      refine HSM1.out.mono ?_
      rintro e wq ⟨rfl, hbq⟩
      have HBQ := Lib.hid hbq
      clear hbq
      go_wp2_with fail
      go_meet
      exact ⟨rfl, HBQ.out⟩
    · have hq : dn = true ∧ R7 = perh3 := hor.resolve_left heq
      obtain ⟨rfl, hRp⟩ := hq
      have HSM1 := Lib.hid (show Calls Tryd.prog 20 #[vr7, vc] wv fun e w' => e = .returned (.bool false) ∧ Below wv.heap.size wv w' by
        have := rsame15_f wv vr7 vc R7 came3 HR7.out.at HC7.out.1.at
        rwa [decide_eq_false heq] at this)
      have HSM2 := Lib.hid (show ∀ V, Below wv.heap.size wv V → Calls Tryd.prog 20 #[vr7, vp] V fun e w' => e = .returned (.bool true) ∧ Below wv.heap.size wv w' from fun V hV => by
        have := (rsame15_f V vr7 vp R7 perh3 (HR7.out.on hV).at (HC7.out.2.on hV).at).mono (fun e w' h => And.intro h.1 (below_chain hV h.2))
        rwa [decide_eq_true hRp] at this)
      clear heq hor hRp
      go_wp2_with fail
      refine HSM1.out.mono ?_
      rintro e wq ⟨rfl, hbq⟩
      have HBQ := Lib.hid hbq
      clear hbq
      go_wp2_with fail
      refine (HSM2.out _ HBQ.out).mono ?_
      rintro e ws ⟨rfl, hbs⟩
      have HBS := Lib.hid hbs
      clear hbs
      go_wp2_with fail
      go_meet
      exact ⟨rfl, HBS.out⟩
  case rest =>
  rename World => wq
  obtain ⟨rfl, hbq⟩ := hcut
  have HNVQ := Lib.hid (show NewVars wx wq b24 (b24 + 1) C3 C7 X7 l7 from
    ⟨HNV7.out.V.below hbq HNV7.out.V.lt, HNV7.out.G.on hbq HNV7.out.G.lt, HNV7.out.D.kept hbq (Nat.le_refl _), below_chain HNV7.out.B hbq, HNV7.out.le1, HNV7.out.le2, HNV7.out.tr, HNV7.out.d4⟩)
  have HRQ := Lib.hid (HR7.out.on hbq)
  clear hbq
  obtain ⟨p1, p2, p3, p4, p5, _⟩ := HNVQ.out.regions HH.out
  have HFIN := Lib.hid (show TurnAt w0 (putLog (putDisk wq.drew b6 C7) b8 l7) b6 b8 vr7 (1 + 3 * ((t : Int) + 1) + k) from
    ⟨C7, X7, l7, R7, HNVQ.out.turn HH.out, (HRQ.out.on (Below.refl _ _).drew).put HH.out.lt C7 l7, HJ7.out.mono (by omega)⟩)
  go_wp2_with fail
  go_region_held3 (fun V => (diskVar ⟨b24, 0, none⟩).run Tryd.prog V = .ok (.agg C7) V ∧ (logVar ⟨b24 + 1, 0, none⟩).run Tryd.prog V = .ok (logV l7) V) (first | exact p1 | exact p2 | exact p3) (fail)
  all_goals go_wp2_with fail
  all_goals exact HK.out _ _ _ _ _ _ _ _ _ _ _ _ _ _ _ _ _ _ _ _ _ _ _ _ _ _ _ _ _ _ _ _ _ _ _ _ _ _ _ _ _ _ _ _ _ _ _ _ _ _ _ _ _ _ _ _ _ _ _ _ _ _ _ _ _ _ _ _ _ _ _ _ _ _ _ _ _ _ _ _ _ _ _ _ _ _ _ _ _ _ _ _ _ _ _ _ _ _ _ _ _ _ _ _ _ _ _ _ _ _ _ _ _ _ _ _ _ _ _ _ _ _ _ _ _ _ _ _ _ _ _ _ _ _ _ _ _ _ _ _ _ _ _ _ _ _ _ _ _ _ _ _ _ _ _ _ _ _ _ _ _ _ _ _ _ _ _ _ _ _ _ _ _ _ _ _ _ _ _ _ _ _ _ _ _ _ _ _ _ _ _ _ _ _ k _ htn hk HFIN.out
end Go.Proofs.YtbhjigejpdbeiaaDoor
