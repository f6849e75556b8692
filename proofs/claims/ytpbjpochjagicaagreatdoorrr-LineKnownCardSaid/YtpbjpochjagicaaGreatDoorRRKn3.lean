/- LineKnown: the loop (by gen_kn3.py). -/
import Derived.Test.YtpbjpochjagicaaGreatDoorRRKn4
namespace Go.Proofs.YtpbjpochjagicaaGreatDoorRR
open Go.RowKit
/-- Eight new blocks. -/
theorem eight_new (w : World) (o1 o2 o3 o4 o5 o6 o7 o8 : Array Value) (t1 t2 t3 t4 t5 t6 t7 t8 : Nat) :
    ∃ W, W = (((((((w.alloc (.cells o1 t1)).alloc (.cells o2 t2)).alloc (.cells o3 t3)).alloc (.cells o4 t4)).alloc (.cells o5 t5)).alloc (.cells o6 t6)).alloc (.cells o7 t7)).alloc (.cells o8 t8) ∧ Below w.heap.size w W ∧ W.heap.size = w.heap.size + 8 ∧
      W.heap[w.heap.size]? = some (.cells o1 t1 (0, 0)) ∧ W.heap[w.heap.size + 1]? = some (.cells o2 t2 (0, 0)) ∧ W.heap[w.heap.size + 1 + 1]? = some (.cells o3 t3 (0, 0)) ∧ W.heap[w.heap.size + 1 + 1 + 1]? = some (.cells o4 t4 (0, 0)) ∧
      W.heap[w.heap.size + 1 + 1 + 1 + 1]? = some (.cells o5 t5 (0, 0)) ∧ W.heap[w.heap.size + 1 + 1 + 1 + 1 + 1]? = some (.cells o6 t6 (0, 0)) ∧ W.heap[w.heap.size + 1 + 1 + 1 + 1 + 1 + 1]? = some (.cells o7 t7 (0, 0)) ∧ W.heap[w.heap.size + 1 + 1 + 1 + 1 + 1 + 1 + 1]? = some (.cells o8 t8 (0, 0)) := by
  obtain ⟨V, hV, hb, hs, m1, m2, m3, m4, m5, m6⟩ := six_new w o1 o2 o3 o4 o5 o6 t1 t2 t3 t4 t5 t6
  rw [← hV]
  clear hV
  have n7 := heap_alloc_new V (.cells o7 t7)
  have n8 := heap_alloc_new (V.alloc (.cells o7 t7)) (.cells o8 t8)
  simp only [World.size_alloc, hs] at n7 n8
  refine ⟨_, rfl, (hb.alloc (by omega) _).alloc (by simp; omega) _, by simp [hs], blk_alloc (blk_alloc m1 _) _, blk_alloc (blk_alloc m2 _) _, blk_alloc (blk_alloc m3 _) _, blk_alloc (blk_alloc m4 _) _, blk_alloc (blk_alloc m5 _) _, blk_alloc (blk_alloc m6 _) _, blk_alloc n7 _, n8⟩
set_option maxRecDepth 100000 in
set_option maxHeartbeats 8000000 in
theorem known3 (w : World) {u0 u1 u2 u3 u4 u5 u7 u8 u9 u10 u11 u12 u13 u14 u15 u16 u17 u18 u19 u20 u21 u22 u23 u24 u25 u26 u27 u28 u29 u30 u31 u32 u33 u34 u35 u36 u37 u38 u39 u40 u41 u42 u43 u44 u45 u46 u47 u48 u49 u50 u51 u52 u53 u54 u55 u56 u57 u58 u59 u60 u61 u62 u63 u64 u65 u66 u67 u68 u69 u70 u71 u72 u73 u74 u75 u76 u77 u78 u79 u80 u81 u82 u83 u84 u85 u86 u87 u88 u89 u90 u91 u92 u93 u94 u95 u96 u97 u98 u99 u100 u101 u102 u103 u104 u105 u106 u107 u108 u109 u110 u111 u112 u113 u114 u115 u116 u117 u118 u119 u120 u121 u122 u123 u124 u125 u126 u127 u128 u129 u130 u131 u132 u133 u134 u135 u136 u137 u138 u139 u140 u141 u142 u143 u144 u145 u146 u147 u148 u149 u150 u151 u152 u153 u154 u155 u156 u157 u158 u159 u160 u161 u162 u163 u164 u165 u166 u167 u168 u169 u170 u171 u172 u173 u174 u175 u176 u177 u178 u179 u180 u181 u182 u183 u184 u185 u186 u187 u188 u189 u190 u191 u192 u193 u194 u195 u196 u197 u198 u199 u200 u201 u202 u203 u204 u205 u206 u207 u208 u209 u210 u211 u212 u213 u214 u215 u216 u217 u218 u219 u220 u221 u222 u223 u224 u225 u226 u227 u228 u229 u230 u231 u232 u233 u234 u235 u236 u237 u238 u239 u240 u241 u242 u243 u244 u245 u246 u247 u248 u249 u250 u251 u252 u253 u254 u255 u256 u257 u258 u259 u260 u261 u262 u263 u264 u265 u266 u267 u268 u269 u270 u271 u272 u273 u274 u275 u276 u277 u278 u279 u280 u281 u282 u283 u284 u285 u286 u287 u288 u289 u290 u291 u292 u293 u294 u295 u296 u297 u298 u299 u300 u301 u302 u303 u304 u305 u306 u307 u308 u309 u310 u311 u312 u313 u314 u315 u316 u317 u318 u319 u320 u321 u322 u323 u324 u325 u326 u327 u328 u329 u330 u331 u332 u333 u334 u335 u336 u337 u338 u339 u340 u341 u342 u343 u344 u345 u346 u347 u348 u349 u350 u351 u352 u353 u354 u355 u356 u357 u358 u359 u360 u361 u362 u363 u364 u365 u366 u367 u368 u369 u370 u371 u372 u373 u374 u375 u376 u377 u378 u379 u380 u381 u382 u383 u384 u385 u386 : Value} (b6 gb6 bb6 : Nat) (wc : World) (HB : Hid (Below w.heap.size w wc)) (X6 : Hid (wc.heap[b6]? = some (.cells #[.slice (some ⟨gb6, 0, none⟩) 2 2, .int .i64 3, .int .i64 12, .slice (some ⟨bb6, 0, none⟩) 1 1, .slice none 0 0, .bool false] 28 (0, 0)))) (HC6 : Hid (CReads wc wc.heap.size slimK (some ⟨gb6, 0, none⟩) (some ⟨bb6, 0, none⟩) none 2 1 0)) :
    Code.wp Tryz.prog (behind 15 kbody) (KQ w) ⟨#[u0, u1, u2, u3, u4, u5, .pointer (some ⟨b6, 0, none⟩), u7, u8, u9, u10, u11, u12, u13, u14, u15, u16, u17, u18, u19, u20, u21, u22, u23, u24, u25, u26, u27, u28, u29, u30, u31, u32, u33, u34, u35, u36, u37, u38, u39, u40, u41, u42, u43, u44, u45, u46, u47, u48, u49, u50, u51, u52, u53, u54, u55, u56, u57, u58, u59, u60, u61, u62, u63, u64, u65, u66, u67, u68, u69, u70, u71, u72, u73, u74, u75, u76, u77, u78, u79, u80, u81, u82, u83, u84, u85, u86, u87, u88, u89, u90, u91, u92, u93, u94, u95, u96, u97, u98, u99, u100, u101, u102, u103, u104, u105, u106, u107, u108, u109, u110, u111, u112, u113, u114, u115, u116, u117, u118, u119, u120, u121, u122, u123, u124, u125, u126, u127, u128, u129, u130, u131, u132, u133, u134, u135, u136, u137, u138, u139, u140, u141, u142, u143, u144, u145, u146, u147, u148, u149, u150, u151, u152, u153, u154, u155, u156, u157, u158, u159, u160, u161, u162, u163, u164, u165, u166, u167, u168, u169, u170, u171, u172, u173, u174, u175, u176, u177, u178, u179, u180, u181, u182, u183, u184, u185, u186, u187, u188, u189, u190, u191, u192, u193, u194, u195, u196, u197, u198, u199, u200, u201, u202, u203, u204, u205, u206, u207, u208, u209, u210, u211, u212, u213, u214, u215, u216, u217, u218, u219, u220, u221, u222, u223, u224, u225, u226, u227, u228, u229, u230, u231, u232, u233, u234, u235, u236, u237, u238, u239, u240, u241, u242, u243, u244, u245, u246, u247, u248, u249, u250, u251, u252, u253, u254, u255, u256, u257, u258, u259, u260, u261, u262, u263, u264, u265, u266, u267, u268, u269, u270, u271, u272, u273, u274, u275, u276, u277, u278, u279, u280, u281, u282, u283, u284, u285, u286, u287, u288, u289, u290, u291, u292, u293, u294, u295, u296, u297, u298, u299, u300, u301, u302, u303, u304, u305, u306, u307, u308, u309, u310, u311, u312, u313, u314, u315, u316, u317, u318, u319, u320, u321, u322, u323, u324, u325, u326, u327, u328, u329, u330, u331, u332, u333, u334, u335, u336, u337, u338, u339, u340, u341, u342, u343, u344, u345, u346, u347, u348, u349, u350, u351, u352, u353, u354, u355, u356, u357, u358, u359, u360, u361, u362, u363, u364, u365, u366, u367, u368, u369, u370, u371, u372, u373, u374, u375, u376, u377, u378, u379, u380, u381, u382, u383, u384, u385, u386], []⟩ wc := by
  conv => arg 2; whnf
  have HX := Lib.hid (Below.refl wc.heap.size wc)
  go_wp2_with fail
  obtain ⟨W8, hW8, hb8, hs8, e1, e2, e3, e4, e5, e6, e7, e8⟩ := eight_new wc #[.int .i64 1, .int .i64 1, .int .i64 2, .int .i64 1] #[.int .i64 2] #[.int .i64 1] #[.int .i64 0] #[.int .i64 0, .int .i64 0] #[.slice (some ⟨wc.heap.size + 1, 0, none⟩) 1 1, .slice (some ⟨wc.heap.size + 1 + 1, 0, none⟩) 1 1, .slice (some ⟨wc.heap.size + 1 + 1 + 1, 0, none⟩) 1 1, .slice (some ⟨wc.heap.size + 1 + 1 + 1 + 1, 0, none⟩) 2 2] #[.int .i64 0, .int .i64 0, .int .i64 0, .int .i64 (-1)] #[.int .i64 2, .int .i64 7, .int .i64 8, .int .i64 0] 3 3 3 3 3 23 3 3
  rw [← hW8]
  clear hW8
  replace HC6 := Lib.hid ((HC6.out.below hb8).more hb8.size)
  replace HB := Lib.hid (HB.out.trans (hb8.mono HB.out.size))
  replace HX := Lib.hid (HX.out.trans (hb8.mono HX.out.size))
  generalize wc.heap.size = G at e1 e2 e3 e4 e5 e6 e7 e8 ⊢
  have J1 := Lib.hid (ints_blk (B := W8.heap.size) (xs := [2]) e2 (lt_of_block e2)); have J2 := Lib.hid (ints_blk (B := W8.heap.size) (xs := [1]) e3 (lt_of_block e3)); have J3 := Lib.hid (ints_blk (B := W8.heap.size) (xs := [0]) e4 (lt_of_block e4)); have J4 := Lib.hid (ints_blk (B := W8.heap.size) (xs := [0, 0]) e5 (lt_of_block e5))
  have E1 := Lib.hid e1; have E6 := Lib.hid e6; have E7 := Lib.hid e7; have E8 := Lib.hid e8
  clear e1 e2 e3 e4 e5 e6 e7 e8 hb8 hs8
  go_loopw [22] (fun i wr => ∃ k : Nat, k ≤ 4 ∧ i = .int .i64 k ∧ Hid (Below W8.heap.size W8 wr)) (fun i _ => 4 - (intOf i).toNat)
  case atStart => exact ⟨0, by omega, rfl, Lib.hid (Below.refl _ _)⟩
  case round =>
  obtain ⟨k, hk, rfl, hB⟩ := hrel
  have hk4 : k = 0 ∨ k = 1 ∨ k = 2 ∨ k = 3 ∨ k = 4 := by omega
  rcases hk4 with rfl | rfl | rfl | rfl | rfl
  · simp only [show (((0 : Nat) : Int)) = 0 from rfl]
    have g0 := blk_cell (blk_below E1.out hB.out (lt_of_block E1.out)) 0; have g1 := blk_cell (blk_below E6.out hB.out (lt_of_block E6.out)) 0; have HJ := Lib.hid ((J1.out.below hB.out).more hB.out.size)
    simp only [List.getElem?_toArray, List.getElem?_cons_zero, List.getElem?_cons_succ] at g0 g1
    have hKS : Hid (∀ x, Below wr.heap.size wr x → x.cell? ⟨G, 0, none⟩ = some (.int .i64 1) ∧ x.cell? ⟨G + 1 + 1 + 1 + 1 + 1, 0, none⟩ = some (.slice (some ⟨G + 1, 0, none⟩) 1 1)) := fun x hx => ⟨(hx.cell (p := ⟨G, 0, none⟩) (by show G < _; exact Nat.lt_of_lt_of_le (lt_of_block E1.out) hB.out.size)).trans g0, (hx.cell (p := ⟨G + 1 + 1 + 1 + 1 + 1, 0, none⟩) (by show G + 1 + 1 + 1 + 1 + 1 < _; exact Nat.lt_of_lt_of_le (lt_of_block E6.out) hB.out.size)).trans g1⟩
    go_upto_region 22 with fail
    go_region_held3 (fun w' => w'.cell? ⟨G, 0, none⟩ = some (.int .i64 1) ∧ w'.cell? ⟨G + 1 + 1 + 1 + 1 + 1, 0, none⟩ = some (.slice (some ⟨G + 1, 0, none⟩) 1 1))
      (first | go_keep | exact hS)
      (first
        | (go_at_call 4; refine (net_any _).mono ?_; rintro e wn ⟨tA, sA, tc, sc, rfl, hn, hb0⟩; have hb : Below wr.heap.size wr wn := ((Below.refl wr.heap.size wr).drew).trans hb0; have hS := hKS.out _ hb; have HNk := Lib.hid hn; have HBk := Lib.hid hb; clear hn hb hb0)
        | (go_at_call 5; refine (car_any _).mono ?_; rintro e wm ⟨gA, bA, hA, gc, bc, hc, rfl, hn, hb⟩; have hS := hKS.out _ (HBk.out.trans (hb.mono HBk.out.size)); have HNm := Lib.hid ((HNk.out.below hb).more hb.size); have HCm := Lib.hid hn; have HBm := Lib.hid (HBk.out.trans (hb.mono HBk.out.size)); clear hn hb)
        | (go_at_call 14; refine (first_12 (some ⟨G + 1, 0, none⟩) 1 tA sA tc sc gA bA hA gc bc hc _ HNm.out HCm.out ((HJ.out.below HBm.out).more HBm.out.size)).mono ?_; rintro e wq ⟨rfl, hb⟩; have hS := hKS.out _ (HBm.out.trans (hb.mono HBm.out.size)); have HBq := Lib.hid (HBm.out.trans (hb.mono HBm.out.size)); clear hb))
    clear g0 g1 hKS
    have HBr := Lib.hid (hB.out.trans (HBq.out.mono hB.out.size))
    have g2 := blk_cell (blk_below E7.out HBr.out (lt_of_block E7.out)) 0; have g3 := blk_cell (blk_below E8.out HBr.out (lt_of_block E8.out)) 0
    simp only [List.getElem?_toArray, List.getElem?_cons_zero, List.getElem?_cons_succ] at g2 g3
    go_wp2_with fail
    go_roundw
    case rel => exact ⟨1, by omega, by go_num, HBr⟩
    case measure => simp [intOf]
  · simp only [show (((1 : Nat) : Int)) = 1 from rfl]
    have g0 := blk_cell (blk_below E1.out hB.out (lt_of_block E1.out)) 1; have g1 := blk_cell (blk_below E6.out hB.out (lt_of_block E6.out)) 1; have HJ := Lib.hid ((J2.out.below hB.out).more hB.out.size)
    simp only [List.getElem?_toArray, List.getElem?_cons_zero, List.getElem?_cons_succ] at g0 g1
    have hKS : Hid (∀ x, Below wr.heap.size wr x → x.cell? ⟨G, 1, none⟩ = some (.int .i64 1) ∧ x.cell? ⟨G + 1 + 1 + 1 + 1 + 1, 1, none⟩ = some (.slice (some ⟨G + 1 + 1, 0, none⟩) 1 1)) := fun x hx => ⟨(hx.cell (p := ⟨G, 1, none⟩) (by show G < _; exact Nat.lt_of_lt_of_le (lt_of_block E1.out) hB.out.size)).trans g0, (hx.cell (p := ⟨G + 1 + 1 + 1 + 1 + 1, 1, none⟩) (by show G + 1 + 1 + 1 + 1 + 1 < _; exact Nat.lt_of_lt_of_le (lt_of_block E6.out) hB.out.size)).trans g1⟩
    go_upto_region 22 with fail
    go_region_held3 (fun w' => w'.cell? ⟨G, 1, none⟩ = some (.int .i64 1) ∧ w'.cell? ⟨G + 1 + 1 + 1 + 1 + 1, 1, none⟩ = some (.slice (some ⟨G + 1 + 1, 0, none⟩) 1 1))
      (first | go_keep | exact hS)
      (first
        | (go_at_call 4; refine (net_any _).mono ?_; rintro e wn ⟨tA, sA, tc, sc, rfl, hn, hb0⟩; have hb : Below wr.heap.size wr wn := ((Below.refl wr.heap.size wr).drew).trans hb0; have hS := hKS.out _ hb; have HNk := Lib.hid hn; have HBk := Lib.hid hb; clear hn hb hb0)
        | (go_at_call 5; refine (car_any _).mono ?_; rintro e wm ⟨gA, bA, hA, gc, bc, hc, rfl, hn, hb⟩; have hS := hKS.out _ (HBk.out.trans (hb.mono HBk.out.size)); have HNm := Lib.hid ((HNk.out.below hb).more hb.size); have HCm := Lib.hid hn; have HBm := Lib.hid (HBk.out.trans (hb.mono HBk.out.size)); clear hn hb)
        | (go_at_call 14; refine (first_11 (some ⟨G + 1 + 1, 0, none⟩) 1 tA sA tc sc gA bA hA gc bc hc _ HNm.out HCm.out ((HJ.out.below HBm.out).more HBm.out.size)).mono ?_; rintro e wq ⟨rfl, hb⟩; have hS := hKS.out _ (HBm.out.trans (hb.mono HBm.out.size)); have HBq := Lib.hid (HBm.out.trans (hb.mono HBm.out.size)); clear hb))
    clear g0 g1 hKS
    have HBr := Lib.hid (hB.out.trans (HBq.out.mono hB.out.size))
    have g2 := blk_cell (blk_below E7.out HBr.out (lt_of_block E7.out)) 1; have g3 := blk_cell (blk_below E8.out HBr.out (lt_of_block E8.out)) 1
    simp only [List.getElem?_toArray, List.getElem?_cons_zero, List.getElem?_cons_succ] at g2 g3
    go_wp2_with fail
    go_roundw
    case rel => exact ⟨2, by omega, by go_num, HBr⟩
    case measure => simp [intOf]
  · simp only [show (((2 : Nat) : Int)) = 2 from rfl]
    have g0 := blk_cell (blk_below E1.out hB.out (lt_of_block E1.out)) 2; have g1 := blk_cell (blk_below E6.out hB.out (lt_of_block E6.out)) 2; have HJ := Lib.hid ((J3.out.below hB.out).more hB.out.size)
    simp only [List.getElem?_toArray, List.getElem?_cons_zero, List.getElem?_cons_succ] at g0 g1
    have hKS : Hid (∀ x, Below wr.heap.size wr x → x.cell? ⟨G, 2, none⟩ = some (.int .i64 2) ∧ x.cell? ⟨G + 1 + 1 + 1 + 1 + 1, 2, none⟩ = some (.slice (some ⟨G + 1 + 1 + 1, 0, none⟩) 1 1)) := fun x hx => ⟨(hx.cell (p := ⟨G, 2, none⟩) (by show G < _; exact Nat.lt_of_lt_of_le (lt_of_block E1.out) hB.out.size)).trans g0, (hx.cell (p := ⟨G + 1 + 1 + 1 + 1 + 1, 2, none⟩) (by show G + 1 + 1 + 1 + 1 + 1 < _; exact Nat.lt_of_lt_of_le (lt_of_block E6.out) hB.out.size)).trans g1⟩
    go_upto_region 22 with fail
    go_region_held3 (fun w' => w'.cell? ⟨G, 2, none⟩ = some (.int .i64 2) ∧ w'.cell? ⟨G + 1 + 1 + 1 + 1 + 1, 2, none⟩ = some (.slice (some ⟨G + 1 + 1 + 1, 0, none⟩) 1 1))
      (first | go_keep | exact hS)
      (first
        | (go_at_call 4; refine (net_any _).mono ?_; rintro e wn ⟨tA, sA, tc, sc, rfl, hn, hb0⟩; have hb : Below wr.heap.size wr wn := ((Below.refl wr.heap.size wr).drew).trans hb0; have hS := hKS.out _ hb; have HNk := Lib.hid hn; have HBk := Lib.hid hb; clear hn hb hb0)
        | (go_at_call 5; refine (car_any _).mono ?_; rintro e wm ⟨gA, bA, hA, gc, bc, hc, rfl, hn, hb⟩; have hS := hKS.out _ (HBk.out.trans (hb.mono HBk.out.size)); have HNm := Lib.hid ((HNk.out.below hb).more hb.size); have HCm := Lib.hid hn; have HBm := Lib.hid (HBk.out.trans (hb.mono HBk.out.size)); clear hn hb)
        | (go_at_call 14; refine (first_20 (some ⟨G + 1 + 1 + 1, 0, none⟩) 1 tA sA tc sc gA bA hA gc bc hc _ HNm.out HCm.out ((HJ.out.below HBm.out).more HBm.out.size)).mono ?_; rintro e wq ⟨rfl, hb⟩; have hS := hKS.out _ (HBm.out.trans (hb.mono HBm.out.size)); have HBq := Lib.hid (HBm.out.trans (hb.mono HBm.out.size)); clear hb))
    clear g0 g1 hKS
    have HBr := Lib.hid (hB.out.trans (HBq.out.mono hB.out.size))
    have g2 := blk_cell (blk_below E7.out HBr.out (lt_of_block E7.out)) 2; have g3 := blk_cell (blk_below E8.out HBr.out (lt_of_block E8.out)) 2
    simp only [List.getElem?_toArray, List.getElem?_cons_zero, List.getElem?_cons_succ] at g2 g3
    go_wp2_with fail
    go_roundw
    case rel => exact ⟨3, by omega, by go_num, HBr⟩
    case measure => simp [intOf]
  · simp only [show (((3 : Nat) : Int)) = 3 from rfl]
    have g0 := blk_cell (blk_below E1.out hB.out (lt_of_block E1.out)) 3; have g1 := blk_cell (blk_below E6.out hB.out (lt_of_block E6.out)) 3; have HJ := Lib.hid ((J4.out.below hB.out).more hB.out.size)
    simp only [List.getElem?_toArray, List.getElem?_cons_zero, List.getElem?_cons_succ] at g0 g1
    have hKS : Hid (∀ x, Below wr.heap.size wr x → x.cell? ⟨G, 3, none⟩ = some (.int .i64 1) ∧ x.cell? ⟨G + 1 + 1 + 1 + 1 + 1, 3, none⟩ = some (.slice (some ⟨G + 1 + 1 + 1 + 1, 0, none⟩) 2 2)) := fun x hx => ⟨(hx.cell (p := ⟨G, 3, none⟩) (by show G < _; exact Nat.lt_of_lt_of_le (lt_of_block E1.out) hB.out.size)).trans g0, (hx.cell (p := ⟨G + 1 + 1 + 1 + 1 + 1, 3, none⟩) (by show G + 1 + 1 + 1 + 1 + 1 < _; exact Nat.lt_of_lt_of_le (lt_of_block E6.out) hB.out.size)).trans g1⟩
    go_upto_region 22 with fail
    go_region_held3 (fun w' => w'.cell? ⟨G, 3, none⟩ = some (.int .i64 1) ∧ w'.cell? ⟨G + 1 + 1 + 1 + 1 + 1, 3, none⟩ = some (.slice (some ⟨G + 1 + 1 + 1 + 1, 0, none⟩) 2 2))
      (first | go_keep | exact hS)
      (first
        | (go_at_call 4; refine (net_any _).mono ?_; rintro e wn ⟨tA, sA, tc, sc, rfl, hn, hb0⟩; have hb : Below wr.heap.size wr wn := ((Below.refl wr.heap.size wr).drew).trans hb0; have hS := hKS.out _ hb; have HNk := Lib.hid hn; have HBk := Lib.hid hb; clear hn hb hb0)
        | (go_at_call 5; refine (car_any _).mono ?_; rintro e wm ⟨gA, bA, hA, gc, bc, hc, rfl, hn, hb⟩; have hS := hKS.out _ (HBk.out.trans (hb.mono HBk.out.size)); have HNm := Lib.hid ((HNk.out.below hb).more hb.size); have HCm := Lib.hid hn; have HBm := Lib.hid (HBk.out.trans (hb.mono HBk.out.size)); clear hn hb)
        | (go_at_call 14; refine (first_100 (some ⟨G + 1 + 1 + 1 + 1, 0, none⟩) 2 tA sA tc sc gA bA hA gc bc hc _ HNm.out HCm.out ((HJ.out.below HBm.out).more HBm.out.size)).mono ?_; rintro e wq ⟨rfl, hb⟩; have hS := hKS.out _ (HBm.out.trans (hb.mono HBm.out.size)); have HBq := Lib.hid (HBm.out.trans (hb.mono HBm.out.size)); clear hb))
    clear g0 g1 hKS
    have HBr := Lib.hid (hB.out.trans (HBq.out.mono hB.out.size))
    have g2 := blk_cell (blk_below E7.out HBr.out (lt_of_block E7.out)) 3; have g3 := blk_cell (blk_below E8.out HBr.out (lt_of_block E8.out)) 3
    simp only [List.getElem?_toArray, List.getElem?_cons_zero, List.getElem?_cons_succ] at g2 g3
    go_wp2_with fail
    go_roundw
    case rel => exact ⟨4, by omega, by go_num, HBr⟩
    case measure => simp [intOf]
  · simp only [show (((4 : Nat) : Int)) = 4 from rfl]
    go_upto_if 224 with fail
    replace HC6 := Lib.hid ((HC6.out.below hB.out).more hB.out.size)
    replace HB := Lib.hid (HB.out.trans (hB.out.mono HB.out.size))
    replace HX := Lib.hid (HX.out.trans (hB.out.mono HX.out.size))
    refine wp_cond_false ?_ (wp_exit ?_)
    · simp [Act.eval]
    · refine (show ∀ (a : Act) (w1 : World), Code.wp Tryz.prog (behind 17 kbody) (KQ w) a w1 → _ from by assumption) _ _ ?_
      exact known4 w b6 gb6 bb6 _ HB (Lib.hid (blk_below X6.out HX.out (lt_of_block X6.out))) HC6
end Go.Proofs.YtpbjpochjagicaaGreatDoorRR
