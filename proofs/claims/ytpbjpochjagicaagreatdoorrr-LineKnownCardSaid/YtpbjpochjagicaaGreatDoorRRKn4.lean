/- LineKnown: behind the loop (by gen_kn3.py). -/
import Derived.Test.YtpbjpochjagicaaGreatDoorRRKd
namespace Go.Proofs.YtpbjpochjagicaaGreatDoorRR
open Go.RowKit
set_option maxRecDepth 100000 in
set_option maxHeartbeats 8000000 in
theorem known4 (w : World) {u0 u1 u2 u3 u4 u5 u7 u8 u9 u10 u11 u12 u13 u14 u15 u16 u17 u18 u19 u20 u21 u22 u23 u24 u25 u26 u27 u28 u29 u30 u31 u32 u33 u34 u35 u36 u37 u38 u39 u40 u41 u42 u43 u44 u45 u46 u47 u48 u49 u50 u51 u52 u53 u54 u55 u56 u57 u58 u59 u60 u61 u62 u63 u64 u65 u66 u67 u68 u69 u70 u71 u72 u73 u74 u75 u76 u77 u78 u79 u80 u81 u82 u83 u84 u85 u86 u87 u88 u89 u90 u91 u92 u93 u94 u95 u96 u97 u98 u99 u100 u101 u102 u103 u104 u105 u106 u107 u108 u109 u110 u111 u112 u113 u114 u115 u116 u117 u118 u119 u120 u121 u122 u123 u124 u125 u126 u127 u128 u129 u130 u131 u132 u133 u134 u135 u136 u137 u138 u139 u140 u141 u142 u143 u144 u145 u146 u147 u148 u149 u150 u151 u152 u153 u154 u155 u156 u157 u158 u159 u160 u161 u162 u163 u164 u165 u166 u167 u168 u169 u170 u171 u172 u173 u174 u175 u176 u177 u178 u179 u180 u181 u182 u183 u184 u185 u186 u187 u188 u189 u190 u191 u192 u193 u194 u195 u196 u197 u198 u199 u200 u201 u202 u203 u204 u205 u206 u207 u208 u209 u210 u211 u212 u213 u214 u215 u216 u217 u218 u219 u220 u221 u222 u223 u224 u225 u226 u227 u228 u229 u230 u231 u232 u233 u234 u235 u236 u237 u238 u239 u240 u241 u242 u243 u244 u245 u246 u247 u248 u249 u250 u251 u252 u253 u254 u255 u256 u257 u258 u259 u260 u261 u262 u263 u264 u265 u266 u267 u268 u269 u270 u271 u272 u273 u274 u275 u276 u277 u278 u279 u280 u281 u282 u283 u284 u285 u286 u287 u288 u289 u290 u291 u292 u293 u294 u295 u296 u297 u298 u299 u300 u301 u302 u303 u304 u305 u306 u307 u308 u309 u310 u311 u312 u313 u314 u315 u316 u317 u318 u319 u320 u321 u322 u323 u324 u325 u326 u327 u328 u329 u330 u331 u332 u333 u334 u335 u336 u337 u338 u339 u340 u341 u342 u343 u344 u345 u346 u347 u348 u349 u350 u351 u352 u353 u354 u355 u356 u357 u358 u359 u360 u361 u362 u363 u364 u365 u366 u367 u368 u369 u370 u371 u372 u373 u374 u375 u376 u377 u378 u379 u380 u381 u382 u383 u384 u385 u386 : Value} (b6 gb6 bb6 : Nat) (wc : World) (HB : Hid (Below w.heap.size w wc)) (X6 : Hid (wc.heap[b6]? = some (.cells #[.slice (some ⟨gb6, 0, none⟩) 2 2, .int .i64 3, .int .i64 12, .slice (some ⟨bb6, 0, none⟩) 1 1, .slice none 0 0, .bool false] 28 (0, 0)))) (HC6 : Hid (CReads wc wc.heap.size slimK (some ⟨gb6, 0, none⟩) (some ⟨bb6, 0, none⟩) none 2 1 0)) :
    Code.wp Tryz.prog (behind 17 kbody) (KQ w) ⟨#[u0, u1, u2, u3, u4, u5, .pointer (some ⟨b6, 0, none⟩), u7, u8, u9, u10, u11, u12, u13, u14, u15, u16, u17, u18, u19, u20, u21, u22, u23, u24, u25, u26, u27, u28, u29, u30, u31, u32, u33, u34, u35, u36, u37, u38, u39, u40, u41, u42, u43, u44, u45, u46, u47, u48, u49, u50, u51, u52, u53, u54, u55, u56, u57, u58, u59, u60, u61, u62, u63, u64, u65, u66, u67, u68, u69, u70, u71, u72, u73, u74, u75, u76, u77, u78, u79, u80, u81, u82, u83, u84, u85, u86, u87, u88, u89, u90, u91, u92, u93, u94, u95, u96, u97, u98, u99, u100, u101, u102, u103, u104, u105, u106, u107, u108, u109, u110, u111, u112, u113, u114, u115, u116, u117, u118, u119, u120, u121, u122, u123, u124, u125, u126, u127, u128, u129, u130, u131, u132, u133, u134, u135, u136, u137, u138, u139, u140, u141, u142, u143, u144, u145, u146, u147, u148, u149, u150, u151, u152, u153, u154, u155, u156, u157, u158, u159, u160, u161, u162, u163, u164, u165, u166, u167, u168, u169, u170, u171, u172, u173, u174, u175, u176, u177, u178, u179, u180, u181, u182, u183, u184, u185, u186, u187, u188, u189, u190, u191, u192, u193, u194, u195, u196, u197, u198, u199, u200, u201, u202, u203, u204, u205, u206, u207, u208, u209, u210, u211, u212, u213, u214, u215, u216, u217, u218, u219, u220, u221, u222, u223, u224, u225, u226, u227, u228, u229, u230, u231, u232, u233, u234, u235, u236, u237, u238, u239, u240, u241, u242, u243, u244, u245, u246, u247, u248, u249, u250, u251, u252, u253, u254, u255, u256, u257, u258, u259, u260, u261, u262, u263, u264, u265, u266, u267, u268, u269, u270, u271, u272, u273, u274, u275, u276, u277, u278, u279, u280, u281, u282, u283, u284, u285, u286, u287, u288, u289, u290, u291, u292, u293, u294, u295, u296, u297, u298, u299, u300, u301, u302, u303, u304, u305, u306, u307, u308, u309, u310, u311, u312, u313, u314, u315, u316, u317, u318, u319, u320, u321, u322, u323, u324, u325, u326, u327, u328, u329, u330, u331, u332, u333, u334, u335, u336, u337, u338, u339, u340, u341, u342, u343, u344, u345, u346, u347, u348, u349, u350, u351, u352, u353, u354, u355, u356, u357, u358, u359, u360, u361, u362, u363, u364, u365, u366, u367, u368, u369, u370, u371, u372, u373, u374, u375, u376, u377, u378, u379, u380, u381, u382, u383, u384, u385, u386], []⟩ wc := by
  conv => arg 2; whnf
  have HX := Lib.hid (Below.refl wc.heap.size wc)
  go_wp2_with fail
  refine (net_any _).mono ?_
  rintro e w21n ⟨tA21, sA21, tc21, sc21, rfl, hn, hb⟩
  replace HC6 := Lib.hid ((HC6.out.below hb).more hb.size)
  replace HB := Lib.hid (HB.out.trans (hb.mono HB.out.size))
  replace HX := Lib.hid (HX.out.trans (hb.mono HX.out.size))
  have HN21 := Lib.hid hn
  clear hn hb
  go_wp2_with fail
  refine (car_any _).mono ?_
  rintro e w22n ⟨gA22, bA22, hA22, gc22, bc22, hc22, rfl, hn, hb⟩
  replace HC6 := Lib.hid ((HC6.out.below hb).more hb.size)
  replace HB := Lib.hid (HB.out.trans (hb.mono HB.out.size))
  replace HX := Lib.hid (HX.out.trans (hb.mono HX.out.size))
  replace HN21 := Lib.hid ((HN21.out.below hb).more hb.size)
  have HC22 := Lib.hid hn
  clear hn hb
  go_wp2_with fail
  have hbA : Below w22n.heap.size w22n (w22n.alloc (.cells #[.int .i64 0, .int .i64 1] 3)) := (Below.refl _ _).alloc (Nat.le_refl _) _
  refine (changes_01 (some ⟨w22n.heap.size, 0, none⟩) 2 tA21 sA21 tc21 sc21 gA22 bA22 hA22 gc22 bc22 hc22 _ ((HN21.out.below hbA).more hbA.size) ((HC22.out.below hbA).more hbA.size) (ints_blk (xs := [0, 1]) (heap_alloc_new w22n _) (by simp))).mono ?_
  rintro e w23n ⟨rfl, hb0⟩
  have hb := hbA.trans (hb0.mono hbA.size)
  clear hb0 hbA
  clear HN21 HC22
  replace HC6 := Lib.hid ((HC6.out.below hb).more hb.size)
  replace HB := Lib.hid (HB.out.trans (hb.mono HB.out.size))
  replace HX := Lib.hid (HX.out.trans (hb.mono HX.out.size))
  clear hb
  go_wp2_with fail
  refine (net_any _).mono ?_
  rintro e w24n ⟨tA24, sA24, tc24, sc24, rfl, hn, hb⟩
  replace HC6 := Lib.hid ((HC6.out.below hb).more hb.size)
  replace HB := Lib.hid (HB.out.trans (hb.mono HB.out.size))
  replace HX := Lib.hid (HX.out.trans (hb.mono HX.out.size))
  have HN24 := Lib.hid hn
  clear hn hb
  go_wp2_with fail
  refine (car_any _).mono ?_
  rintro e w25n ⟨gA25, bA25, hA25, gc25, bc25, hc25, rfl, hn, hb⟩
  replace HC6 := Lib.hid ((HC6.out.below hb).more hb.size)
  replace HB := Lib.hid (HB.out.trans (hb.mono HB.out.size))
  replace HX := Lib.hid (HX.out.trans (hb.mono HX.out.size))
  replace HN24 := Lib.hid ((HN24.out.below hb).more hb.size)
  have HC25 := Lib.hid hn
  clear hn hb
  go_wp2_with fail
  have hbA : Below w25n.heap.size w25n (w25n.alloc (.cells #[.int .i64 0, .int .i64 0] 3)) := (Below.refl _ _).alloc (Nat.le_refl _) _
  refine (changes_00 (some ⟨w25n.heap.size, 0, none⟩) 2 tA24 sA24 tc24 sc24 gA25 bA25 hA25 gc25 bc25 hc25 _ ((HN24.out.below hbA).more hbA.size) ((HC25.out.below hbA).more hbA.size) (ints_blk (xs := [0, 0]) (heap_alloc_new w25n _) (by simp))).mono ?_
  rintro e w26n ⟨rfl, hb0⟩
  have hb := hbA.trans (hb0.mono hbA.size)
  clear hb0 hbA
  clear HN24 HC25
  replace HC6 := Lib.hid ((HC6.out.below hb).more hb.size)
  replace HB := Lib.hid (HB.out.trans (hb.mono HB.out.size))
  replace HX := Lib.hid (HX.out.trans (hb.mono HX.out.size))
  clear hb
  go_wp2_with fail
  refine (net_any _).mono ?_
  rintro e w27n ⟨tA27, sA27, tc27, sc27, rfl, hn, hb⟩
  replace HC6 := Lib.hid ((HC6.out.below hb).more hb.size)
  replace HB := Lib.hid (HB.out.trans (hb.mono HB.out.size))
  replace HX := Lib.hid (HX.out.trans (hb.mono HX.out.size))
  have HN27 := Lib.hid hn
  clear hn hb
  go_wp2_with fail
  refine (car_any _).mono ?_
  rintro e w28n ⟨gA28, bA28, hA28, gc28, bc28, hc28, rfl, hn, hb⟩
  replace HC6 := Lib.hid ((HC6.out.below hb).more hb.size)
  replace HB := Lib.hid (HB.out.trans (hb.mono HB.out.size))
  replace HX := Lib.hid (HX.out.trans (hb.mono HX.out.size))
  replace HN27 := Lib.hid ((HN27.out.below hb).more hb.size)
  have HC28 := Lib.hid hn
  clear hn hb
  go_wp2_with fail
  have hbA : Below w28n.heap.size w28n (w28n.alloc (.cells #[.int .i64 2] 3)) := (Below.refl _ _).alloc (Nat.le_refl _) _
  refine (changes_2 (some ⟨w28n.heap.size, 0, none⟩) 1 tA27 sA27 tc27 sc27 gA28 bA28 hA28 gc28 bc28 hc28 _ ((HN27.out.below hbA).more hbA.size) ((HC28.out.below hbA).more hbA.size) (ints_blk (xs := [2]) (heap_alloc_new w28n _) (by simp))).mono ?_
  rintro e w29n ⟨rfl, hb0⟩
  have hb := hbA.trans (hb0.mono hbA.size)
  clear hb0 hbA
  clear HN27 HC28
  replace HC6 := Lib.hid ((HC6.out.below hb).more hb.size)
  replace HB := Lib.hid (HB.out.trans (hb.mono HB.out.size))
  replace HX := Lib.hid (HX.out.trans (hb.mono HX.out.size))
  clear hb
  go_wp2_with fail
  refine (net_any _).mono ?_
  rintro e w30n ⟨tA30, sA30, tc30, sc30, rfl, hn, hb⟩
  replace HC6 := Lib.hid ((HC6.out.below hb).more hb.size)
  replace HB := Lib.hid (HB.out.trans (hb.mono HB.out.size))
  replace HX := Lib.hid (HX.out.trans (hb.mono HX.out.size))
  have HN30 := Lib.hid hn
  clear hn hb
  go_wp2_with fail
  refine (car_any _).mono ?_
  rintro e w31n ⟨gA31, bA31, hA31, gc31, bc31, hc31, rfl, hn, hb⟩
  replace HC6 := Lib.hid ((HC6.out.below hb).more hb.size)
  replace HB := Lib.hid (HB.out.trans (hb.mono HB.out.size))
  replace HX := Lib.hid (HX.out.trans (hb.mono HX.out.size))
  replace HN30 := Lib.hid ((HN30.out.below hb).more hb.size)
  have HC31 := Lib.hid hn
  clear hn hb
  go_wp2_with fail
  refine (lacks_ex tA30 sA30 tc30 sc30 gA31 bA31 hA31 gc31 bc31 hc31 _ HN30.out HC31.out).mono ?_
  rintro e w32n ⟨A32, cp32, rfl, hn, hb⟩
  replace HC6 := Lib.hid ((HC6.out.below hb).more hb.size)
  replace HB := Lib.hid (HB.out.trans (hb.mono HB.out.size))
  replace HX := Lib.hid (HX.out.trans (hb.mono HX.out.size))
  replace HN30 := Lib.hid ((HN30.out.below hb).more hb.size)
  replace HC31 := Lib.hid ((HC31.out.below hb).more hb.size)
  have HI32 := Lib.hid hn
  clear hn hb
  clear HN30 HC31
  go_wp2_with fail
  refine (net_any _).mono ?_
  rintro e w33n ⟨tA33, sA33, tc33, sc33, rfl, hn, hb⟩
  replace HC6 := Lib.hid ((HC6.out.below hb).more hb.size)
  replace HB := Lib.hid (HB.out.trans (hb.mono HB.out.size))
  replace HX := Lib.hid (HX.out.trans (hb.mono HX.out.size))
  replace HI32 := Lib.hid ((HI32.out.below hb).more hb.size)
  have HN33 := Lib.hid hn
  clear hn hb
  go_wp2_with fail
  refine (car_any _).mono ?_
  rintro e w34n ⟨gA34, bA34, hA34, gc34, bc34, hc34, rfl, hn, hb⟩
  replace HC6 := Lib.hid ((HC6.out.below hb).more hb.size)
  replace HB := Lib.hid (HB.out.trans (hb.mono HB.out.size))
  replace HX := Lib.hid (HX.out.trans (hb.mono HX.out.size))
  replace HI32 := Lib.hid ((HI32.out.below hb).more hb.size)
  replace HN33 := Lib.hid ((HN33.out.below hb).more hb.size)
  have HC34 := Lib.hid hn
  clear hn hb
  go_wp2_with fail
  refine (rebuild_ex tA33 sA33 tc33 sc33 gA34 bA34 hA34 gc34 bc34 hc34 _ HN33.out HC34.out).mono ?_
  rintro e w35n ⟨A35, cp35, rfl, hn, hb⟩
  replace HC6 := Lib.hid ((HC6.out.below hb).more hb.size)
  replace HB := Lib.hid (HB.out.trans (hb.mono HB.out.size))
  replace HX := Lib.hid (HX.out.trans (hb.mono HX.out.size))
  replace HI32 := Lib.hid ((HI32.out.below hb).more hb.size)
  replace HN33 := Lib.hid ((HN33.out.below hb).more hb.size)
  replace HC34 := Lib.hid ((HC34.out.below hb).more hb.size)
  have HI35 := Lib.hid hn
  clear hn hb
  clear HN33 HC34
  go_wp2_with fail
  refine (net_any _).mono ?_
  rintro e w36n ⟨tA36, sA36, tc36, sc36, rfl, hn, hb⟩
  replace HC6 := Lib.hid ((HC6.out.below hb).more hb.size)
  replace HB := Lib.hid (HB.out.trans (hb.mono HB.out.size))
  replace HX := Lib.hid (HX.out.trans (hb.mono HX.out.size))
  replace HI32 := Lib.hid ((HI32.out.below hb).more hb.size)
  replace HI35 := Lib.hid ((HI35.out.below hb).more hb.size)
  have HN36 := Lib.hid hn
  clear hn hb
  go_wp2_with fail
  refine (car_any _).mono ?_
  rintro e w37n ⟨gA37, bA37, hA37, gc37, bc37, hc37, rfl, hn, hb⟩
  replace HC6 := Lib.hid ((HC6.out.below hb).more hb.size)
  replace HB := Lib.hid (HB.out.trans (hb.mono HB.out.size))
  replace HX := Lib.hid (HX.out.trans (hb.mono HX.out.size))
  replace HI32 := Lib.hid ((HI32.out.below hb).more hb.size)
  replace HI35 := Lib.hid ((HI35.out.below hb).more hb.size)
  replace HN36 := Lib.hid ((HN36.out.below hb).more hb.size)
  have HC37 := Lib.hid hn
  clear hn hb
  go_wp2_with fail
  refine (must_carK tA36 sA36 tc36 sc36 gA37 bA37 hA37 gc37 bc37 hc37 _ HN36.out HC37.out).mono ?_
  rintro e w38n ⟨A38, cp38, rfl, hn, hb⟩
  replace HC6 := Lib.hid ((HC6.out.below hb).more hb.size)
  replace HB := Lib.hid (HB.out.trans (hb.mono HB.out.size))
  replace HX := Lib.hid (HX.out.trans (hb.mono HX.out.size))
  replace HI32 := Lib.hid ((HI32.out.below hb).more hb.size)
  replace HI35 := Lib.hid ((HI35.out.below hb).more hb.size)
  replace HN36 := Lib.hid ((HN36.out.below hb).more hb.size)
  replace HC37 := Lib.hid ((HC37.out.below hb).more hb.size)
  have HI38 := Lib.hid hn
  clear hn hb
  clear HN36 HC37
  clear HI32
  go_upto_region 33 with fail
  have g0 := blk_cell (blk_below X6.out HX.out (lt_of_block X6.out)) 0
  have g1 := blk_cell (blk_below X6.out HX.out (lt_of_block X6.out)) 1
  have g2 := blk_cell (blk_below X6.out HX.out (lt_of_block X6.out)) 2
  have g3 := blk_cell (blk_below X6.out HX.out (lt_of_block X6.out)) 3
  have g4 := blk_cell (blk_below X6.out HX.out (lt_of_block X6.out)) 4
  have g5 := blk_cell (blk_below X6.out HX.out (lt_of_block X6.out)) 5
  simp only [List.getElem?_toArray, List.getElem?_cons_zero, List.getElem?_cons_succ] at g0 g1 g2 g3 g4 g5
  have hKS : Hid (∀ x, Below w38n.heap.size w38n x → x.cell? ⟨b6, 0, none⟩ = some (.slice (some ⟨gb6, 0, none⟩) 2 2) ∧ x.cell? ⟨b6, 1, none⟩ = some (.int .i64 3) ∧ x.cell? ⟨b6, 2, none⟩ = some (.int .i64 12) ∧ x.cell? ⟨b6, 3, none⟩ = some (.slice (some ⟨bb6, 0, none⟩) 1 1) ∧ x.cell? ⟨b6, 4, none⟩ = some (.slice none 0 0) ∧ x.cell? ⟨b6, 5, none⟩ = some (.bool false)) := fun x hx => by
    have hl : b6 < w38n.heap.size := Nat.lt_of_lt_of_le (lt_of_block X6.out) HX.out.size
    exact ⟨(hx.cell (p := ⟨b6, 0, none⟩) hl).trans g0, (hx.cell (p := ⟨b6, 1, none⟩) hl).trans g1, (hx.cell (p := ⟨b6, 2, none⟩) hl).trans g2, (hx.cell (p := ⟨b6, 3, none⟩) hl).trans g3, (hx.cell (p := ⟨b6, 4, none⟩) hl).trans g4, (hx.cell (p := ⟨b6, 5, none⟩) hl).trans g5⟩
  go_region_held3 (fun w' => w'.cell? ⟨b6, 0, none⟩ = some (.slice (some ⟨gb6, 0, none⟩) 2 2) ∧ w'.cell? ⟨b6, 1, none⟩ = some (.int .i64 3) ∧ w'.cell? ⟨b6, 2, none⟩ = some (.int .i64 12) ∧ w'.cell? ⟨b6, 3, none⟩ = some (.slice (some ⟨bb6, 0, none⟩) 1 1) ∧ w'.cell? ⟨b6, 4, none⟩ = some (.slice none 0 0) ∧ w'.cell? ⟨b6, 5, none⟩ = some (.bool false))
    (first | go_keep | exact hS)
    (first
      | (go_at_call 4; refine (net_any _).mono ?_; rintro e wn ⟨tA, sA, tc, sc, rfl, hn, hb0⟩; have hb : Below w38n.heap.size w38n wn := ((Below.refl w38n.heap.size w38n).drew).trans hb0; have hS := hKS.out _ hb; have HNk := Lib.hid hn; have HBk := Lib.hid hb; clear hn hb hb0)
      | (go_at_call 18; refine (must_slim tA sA tc sc (some ⟨gb6, 0, none⟩) (some ⟨bb6, 0, none⟩) none 2 1 0 _ HNk.out ((HC6.out.below HBk.out).more HBk.out.size)).mono ?_; rintro e wq ⟨A33, cp33, rfl, hn, hb⟩; have hS := hKS.out _ (HBk.out.trans (hb.mono HBk.out.size)); have HBq := Lib.hid (HBk.out.trans (hb.mono HBk.out.size)); clear hn hb))
  clear g0 g1 g2 g3 g4 g5 hKS
  have hb := HBq.out
  replace HC6 := Lib.hid ((HC6.out.below hb).more hb.size)
  replace HB := Lib.hid (HB.out.trans (hb.mono HB.out.size))
  replace HX := Lib.hid (HX.out.trans (hb.mono HX.out.size))
  replace HI35 := Lib.hid ((HI35.out.below hb).more hb.size)
  replace HI38 := Lib.hid ((HI38.out.below hb).more hb.size)
  clear hb
  clear HC6
  clear X6 HNk HBk HBq
  clear HX
  go_wp2_with fail
  refine (net_any _).mono ?_
  rintro e w39n ⟨tA39, sA39, tc39, sc39, rfl, hn, hb⟩
  replace HB := Lib.hid (HB.out.trans (hb.mono HB.out.size))
  replace HI35 := Lib.hid ((HI35.out.below hb).more hb.size)
  replace HI38 := Lib.hid ((HI38.out.below hb).more hb.size)
  have HN39 := Lib.hid hn
  clear hn hb
  go_wp2_with fail
  refine (car_any _).mono ?_
  rintro e w40n ⟨gA40, bA40, hA40, gc40, bc40, hc40, rfl, hn, hb⟩
  replace HB := Lib.hid (HB.out.trans (hb.mono HB.out.size))
  replace HI35 := Lib.hid ((HI35.out.below hb).more hb.size)
  replace HI38 := Lib.hid ((HI38.out.below hb).more hb.size)
  replace HN39 := Lib.hid ((HN39.out.below hb).more hb.size)
  have HC40 := Lib.hid hn
  clear hn hb
  go_wp2_with fail
  refine (heaviest_ex tA39 sA39 tc39 sc39 gA40 bA40 hA40 gc40 bc40 hc40 _ HN39.out HC40.out).mono ?_
  rintro e w41n ⟨rfl, hb⟩
  replace HB := Lib.hid (HB.out.trans (hb.mono HB.out.size))
  replace HI35 := Lib.hid ((HI35.out.below hb).more hb.size)
  replace HI38 := Lib.hid ((HI38.out.below hb).more hb.size)
  replace HN39 := Lib.hid ((HN39.out.below hb).more hb.size)
  replace HC40 := Lib.hid ((HC40.out.below hb).more hb.size)
  clear hb
  clear HN39 HC40
  go_wp2_with fail
  refine (net_any _).mono ?_
  rintro e w42n ⟨tA42, sA42, tc42, sc42, rfl, hn, hb⟩
  replace HB := Lib.hid (HB.out.trans (hb.mono HB.out.size))
  replace HI35 := Lib.hid ((HI35.out.below hb).more hb.size)
  replace HI38 := Lib.hid ((HI38.out.below hb).more hb.size)
  have HN42 := Lib.hid hn
  clear hn hb
  have hbx : Below w42n.heap.size w42n (w42n.alloc (.cells #[.int .i64 Pl.netN.stops, .slice none 0 0, .slice sA42 Pl.netN.shops.length sc42] 25)) := (Below.refl _ _).alloc (Nat.le_refl _) _
  have hm := heap_alloc_new w42n (.cells #[.int .i64 Pl.netN.stops, .slice none 0 0, .slice sA42 Pl.netN.shops.length sc42] 25)
  go_upto_region 37 with fail
  have HL := Lib.hid (show NReads (w42n.alloc (.cells #[.int .i64 Pl.netN.stops, .slice none 0 0, .slice sA42 Pl.netN.shops.length sc42] 25)) w42n.heap.size loneN none sA42 0 sc42 from ⟨fun k x hx => by simp [loneN] at hx, (HN42.out.shops.below hbx), by decide, by decide⟩)
  have HM := Lib.hid hm; have HBX := Lib.hid hbx
  clear hm hbx
  generalize (w42n.alloc (.cells #[.int .i64 Pl.netN.stops, .slice none 0 0, .slice sA42 Pl.netN.shops.length sc42] 25)) = wz at *
  have hb := HBX.out
  have hz : w42n.heap.size < wz.heap.size := lt_of_block HM.out
  have HLz := Lib.hid (HL.out.more HBX.out.size)
  clear HL
  clear HN42
  replace HB := Lib.hid (HB.out.trans (hb.mono HB.out.size))
  replace HI35 := Lib.hid ((HI35.out.below hb).more hb.size)
  replace HI38 := Lib.hid ((HI38.out.below hb).more hb.size)
  clear hb HBX
  generalize w42n.heap.size = z at *
  have g0 : wz.cell? ⟨z, 0, none⟩ = some (.int .i64 4) := by have := blk_cell HM.out 0; exact this
  have g1 : wz.cell? ⟨z, 1, none⟩ = some (.slice none 0 0) := by have := blk_cell HM.out 1; exact this
  have g2 : wz.cell? ⟨z, 2, none⟩ = some (.slice sA42 1 sc42) := by have := blk_cell HM.out 2; exact this
  have hKS : Hid (∀ x, Below wz.heap.size wz x → x.cell? ⟨z, 0, none⟩ = some (.int .i64 4) ∧ x.cell? ⟨z, 1, none⟩ = some (.slice none 0 0) ∧ x.cell? ⟨z, 2, none⟩ = some (.slice sA42 1 sc42)) := fun x hx => ⟨(hx.cell (p := ⟨z, 0, none⟩) hz).trans g0, (hx.cell (p := ⟨z, 1, none⟩) hz).trans g1, (hx.cell (p := ⟨z, 2, none⟩) hz).trans g2⟩
  go_region_held3 (fun w' => w'.cell? ⟨z, 0, none⟩ = some (.int .i64 4) ∧ w'.cell? ⟨z, 1, none⟩ = some (.slice none 0 0) ∧ w'.cell? ⟨z, 2, none⟩ = some (.slice sA42 1 sc42))
    (first | go_keep | exact hS)
    (first
      | (go_at_call 5; refine (car_any _).mono ?_; rintro e wn ⟨gA, bA, hA, gc, bc, hc, rfl, hn, hb0⟩; have hb : Below wz.heap.size wz wn := ((Below.refl wz.heap.size wz).drew).trans hb0; have hS := hKS.out _ hb; have HNk := Lib.hid hn; have HBk := Lib.hid hb; clear hn hb hb0)
      | (go_at_call 20; refine (write_lone sA42 sc42 gA bA hA gc bc hc _ ((HLz.out.below HBk.out).more HBk.out.size) HNk.out).mono ?_; rintro e wq ⟨rfl, hb⟩; have hS := hKS.out _ (HBk.out.trans (hb.mono HBk.out.size)); have HBq := Lib.hid (HBk.out.trans (hb.mono HBk.out.size)); clear hb))
  clear g0 g1 g2 hKS
  have hb := HBq.out
  replace HB := Lib.hid (HB.out.trans (hb.mono HB.out.size))
  replace HI35 := Lib.hid ((HI35.out.below hb).more hb.size)
  replace HI38 := Lib.hid ((HI38.out.below hb).more hb.size)
  clear hb HBq HBk HNk HLz HM hz
  go_wp2_with fail
  have hE := eq_new A35 cp35 [3] [3] wq HI35.out (by decide) (by decide)
  refine hE.mono ?_
  clear hE
  rintro e w43n ⟨rfl, hb⟩
  clear HI35
  replace HB := Lib.hid (HB.out.trans (hb.mono HB.out.size))
  replace HI38 := Lib.hid ((HI38.out.below hb).more hb.size)
  clear hb
  go_wp2_with fail
  have hE := eq_new A38 cp38 [0, 1] [0, 1] w43n HI38.out (by decide) (by decide)
  refine hE.mono ?_
  clear hE
  rintro e w44n ⟨rfl, hb⟩
  clear HI38
  replace HB := Lib.hid (HB.out.trans (hb.mono HB.out.size))
  clear hb
  go_wp2_with fail
  go_ret
  exact ⟨by kernel_rfl, HB.out⟩
end Go.Proofs.YtpbjpochjagicaaGreatDoorRR
