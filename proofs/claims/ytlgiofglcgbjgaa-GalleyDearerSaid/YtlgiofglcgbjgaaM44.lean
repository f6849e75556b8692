/- Walks: GalleyDearer, its middle part (printed by lawdear.py m). Walks: GalleyDearer (printed by lawdear.py a). -/
import Derived.Test.YtlgiofglcgbjgaaM43
namespace Go.Gal
open Go Go.Par Go.Proofs Go.RowKit
section
section
variable {fs:Array Func} [LikeS fs]
set_option maxRecDepth 100000 in
set_option maxHeartbeats 8000000 in
theorem law11m {wS:World} {K:Kt} {ms:List Int} {gA dA mA:Option Addr} {gc dc hc mc bx g hb ho tm:Nat} (S:Hid (Apart5 wS K ms gA dA (some ⟨hb,ho,none⟩) mA gc dc hc bx)) (htm : 2≤tm∧tm≤5) (HP9:∀ x∈K.hauls,∀ y∈x.prices,0≤y∧y≤9) (HBG:Hid (BagAt wS g)) (hbxg:bx≠g) {u0 u1 u2 u7 u8 u9 u10 u11 u12 u13 u14 u15 u16 u17 u18 u19 u20 u21 u22 u23 u24 u25 u26 u27 u28 u29 u30 u31 u32 u33 u34 u35 u36 u37 u38 u39 u40 u41 u42 u43 u44 u45 u46 u47 u48 u49 u50 u51 u52 u53 u54 u55 u56 u57 u58 u59 u60 u61 u62 u63 u64 u65 u66 u67 u68 u69 u70 u71 u72 u73 u74 u75 u76 u77 u78 u79 u80 u81 u82 u83 u84 u85 u86 u87 u88 u89 u90 u91 u92 u93 u94 u95 u96 u97 u98 u99 u100 u101 u102 u103 u104 u105 u106 u107 u108 u109 u110 u111 u112 u113 u114 u115 u116 u117 u118 u119 u120 u121 u122 u123 u124 u125 u126 u127 u128 u129 u130 u131 u132 u133 u134 u135 u136 u137 u138 u139 u140 u141 u142 u143 u144 u145 u146 u147 u148 u149 u150 u151 u152 u153 u154 u155 u156 u157 u158 u159 u160 u161 u162 u163 u164 u165 u166 u167 u168 u169 u170 u171 u172 u173 u174 u175 u176 u177 u178 u179 u180 u181 u182 u183 u184:Value} :
  Code.wp (Pf fs) (behindN 5 body11) (bodyPost (Pf fs) Try.f11 fun e _=>e=.returned (.bool true)) ⟨#[u0,u1,u2,.pointer (some ⟨g,0,none⟩),.pointer (some ⟨bx,0,none⟩),.slice mA ms.length mc,.int .i64 tm,u7,u8,u9,u10,u11,u12,u13,u14,u15,u16,u17,u18,u19,u20,u21,u22,u23,u24,u25,u26,u27,u28,u29,u30,u31,u32,u33,u34,u35,u36,u37,u38,u39,u40,u41,u42,u43,u44,u45,u46,u47,u48,u49,u50,u51,u52,u53,u54,u55,u56,u57,u58,u59,u60,u61,u62,u63,u64,u65,u66,u67,u68,u69,u70,u71,u72,u73,u74,u75,u76,u77,u78,u79,u80,u81,u82,u83,u84,u85,u86,u87,u88,u89,u90,u91,u92,u93,u94,u95,u96,u97,u98,u99,u100,u101,u102,u103,u104,u105,u106,u107,u108,u109,u110,u111,u112,u113,u114,u115,u116,u117,u118,u119,u120,u121,u122,u123,u124,u125,u126,u127,u128,u129,u130,u131,u132,u133,u134,u135,u136,u137,u138,u139,u140,u141,u142,u143,u144,u145,u146,u147,u148,u149,u150,u151,u152,u153,u154,u155,u156,u157,u158,u159,u160,u161,u162,u163,u164,u165,u166,u167,u168,u169,u170,u171,u172,u173,u174,u175,u176,u177,u178,u179,u180,u181,u182,u183,u184],[]⟩ wS:=by
 obtain⟨a0,a1,a2⟩:=S.out.cells (Grown.refl _)
 have hcopy:=copyKitchen_any (fs:=fs) K gA dA (some ⟨hb,ho,none⟩) gc dc hc wS S.out.kt
 unfold ktV at hcopy
 have HCOPY:=Lib.hid hcopy
 clear hcopy
 conv=>arg 2;whnf
 go_upto_region 7 with (go_at_call 26;refine HCOPY.out.mono ?_;rintro e w1 ⟨gA2,gc2,dA2,dc2,hA2,hc2,rfl,hO1,hg1⟩;have HO1:=Lib.hid hO1;have HG1:=Lib.hid hg1;clear hO1 hg1)
 have hbx:(w1.alloc (.cells #[.slice gA2 K.goods.length gc2,.slice dA2 K.dishes.length dc2,.slice hA2 K.hauls.length hc2] 29)).heap[w1.heap.size]?=some (.cells #[.slice gA2 K.goods.length gc2,.slice dA2 K.dishes.length dc2,.slice hA2 K.hauls.length hc2] 29 (0,0)):=heap_alloc_new w1 _
 have HBX:=Lib.hid hbx
 have HGA:=Lib.hid (HG1.out.trans (Grown.alloc w1 (.cells #[.slice gA2 K.goods.length gc2,.slice dA2 K.dishes.length dc2,.slice hA2 K.hauls.length hc2] 29)))
 have HO:=Lib.hid (HO1.out.grown (Grown.alloc w1 (.cells #[.slice gA2 K.goods.length gc2,.slice dA2 K.dishes.length dc2,.slice hA2 K.hauls.length hc2] 29)))
 generalize w1.alloc (.cells #[.slice gA2 K.goods.length gc2,.slice dA2 K.dishes.length dc2,.slice hA2 K.hauls.length hc2] 29)=w2 at hbx HBX HGA HO ⊢
 generalize w1.heap.size=tb at hbx HBX ⊢
 clear a0 a1 a2 HO1 HG1 hbx
 go_wp2_with fail
 go_loopw [8] (fun i W=>∃ n:Nat,i=.int .i64 n∧n≤K.hauls.length∧Hid (KOwn W wS.heap.size (timesK2 K tm n 0) gA2 gc2 dA2 dc2 hA2 hc2)∧Hid (W.heap[tb]?=some (.cells #[.slice gA2 K.goods.length gc2,.slice dA2 K.dishes.length dc2,.slice hA2 K.hauls.length hc2] 29 (0,0)))∧Hid (Grown wS W)) (fun i _=>K.hauls.length-(intOf i).toNat)
 case atStart=>exact⟨0,rfl,Nat.zero_le _,by rw[timesK2_zero];exact HO,HBX,HGA⟩
 case round =>
  obtain⟨n,rfl,hn,HOW,HBW0,HGW⟩:=hrel
  clear HO HBX HGA
  have hnh:=S.out.kt.nh
  have hng:=S.out.n3
  have b0:=za HBW0.out 0
  have b1:=za HBW0.out 1
  have b2:=za HBW0.out 2
  simp only[List.getElem?_toArray,List.getElem?_cons_zero,List.getElem?_cons_succ] at b0 b1 b2
  by_cases hnl:n<K.hauls.length
  ·have i1:(n:Int)<K.hauls.length:=by omega
   have hpl:=S.out.plen _ (List.mem_of_getElem? (qn hnl))
   have HP:=Lib.hid (HP9 _ (List.mem_of_getElem? (qn hnl)))
   go_wp2_with fail
   clear b0 b1 b2
   go_loopw [9] (fun i W=>∃ q:Nat,i=.int .i64 q∧q≤K.goods.length∧Hid (KOwn W wS.heap.size (timesK2 K tm n q) gA2 gc2 dA2 dc2 hA2 hc2)∧Hid (W.heap[tb]?=some (.cells #[.slice gA2 K.goods.length gc2,.slice dA2 K.dishes.length dc2,.slice hA2 K.hauls.length hc2] 29 (0,0)))∧Hid (Grown wS W)) (fun i _=>K.goods.length-(intOf i).toNat)
   case atStart=>exact⟨0,rfl,Nat.zero_le _,HOW,HBW0,HGW⟩
   case round =>
    obtain⟨q,rfl,hq,HOV,HBV,HGV⟩:=hrel
    clear HOW HBW0 HGW
    have b0:=za HBV.out 0
    have b1:=za HBV.out 1
    have b2:=za HBV.out 2
    simp only[List.getElem?_toArray,List.getElem?_cons_zero,List.getElem?_cons_succ] at b0 b1 b2
    by_cases hql:q<K.goods.length
    ·have i2:(q:Int)<K.goods.length:=by omega
     have hqp:q<(hlAt K.hauls n).prices.length:=by omega
     obtain⟨kb,pb,cc,rfl,e0,e1,e2,e3,e4,hO2⟩:=HOV.out.price (v:=(tm:Int)*(hlAt K.hauls n).prices[q]) (timesK2_at (k:=tm) (g:=q) hnl) (by rw[timesTo_len];exact hqp)
     simp only[timesTo_len,timesTo_at hqp] at e2 e3
     have hbd:=HP.out _ (List.getElem_mem hqp)
     have hO3:=hO2
     rw[timesK2_set hnl hqp] at hO3
     generalize (hlAt K.hauls n).prices[q]=x at e3 hO2 hO3 hbd
     have hw:IntKind.i64.wrap ((tm:Int)*x)=(tm:Int)*x:=by
      have h1:(tm:Int)*x≤5*9:=Int.mul_le_mul (by omega) (by omega) (by omega) (by omega)
      have h2 : 0≤(tm:Int)*x:=Int.mul_nonneg (by omega) (by omega)
      exact wrap_of rfl (by omega) (by omega)
     rw[hpl] at e2
     have hpt:pb≠tb:=by
      intro qq
      have:=za HBV.out q
      rw[← qq,e3] at this
      rcases q with _|_|_|q<;>simp at this
     have HO2:=Lib.hid (show KOwn (wr.setCell ⟨pb,q,none⟩ (.int .i64 ((tm:Int)*x))).drew wS.heap.size (timesK2 K tm n (q+1)) gA2 gc2 dA2 dc2 (some ⟨kb,0,none⟩) hc2 from hO3.grown ((Grown.refl _).drewN 1))
     have HB2:=Lib.hid (show (wr.setCell ⟨pb,q,none⟩ (.int .i64 ((tm:Int)*x))).drew.heap[tb]?=_ from (Below.heap_setCell _ _ _ _ (Ne.symm hpt)).trans HBV.out)
     have HG2:=Lib.hid (show Grown wS (wr.setCell ⟨pb,q,none⟩ (.int .i64 ((tm:Int)*x))).drew from ⟨by show wS.heap.size≤(wr.setCell _ _).heap.size;rw[zu];exact HGV.out.size,fun b hb'=>(Below.heap_setCell _ _ _ _ (by simp only;omega)).trans (HGV.out.same b hb'),HGV.out.os⟩)
     have HE:=Lib.hid (And.intro e3 e4)
     clear hO2 hO3 hbd e0 e1
     go_wp2_with fail
     have hS:wr.drew.cell? ⟨tb,2,none⟩=some (.slice (some ⟨kb,0,none⟩) K.hauls.length hc2)∧wr.drew.cell? ⟨kb,n*3+2,none⟩=some (.slice (some ⟨pb,0,none⟩) K.goods.length cc)∧wr.drew.cell? ⟨pb,q,none⟩=some (.int .i64 x):=⟨b2,e2,e3⟩
     clear b0 b1 b2 e2 e3 e4
     refine qg (by kernel_rfl) (fun W=>W.cell? ⟨tb,2,none⟩=some (.slice (some ⟨kb,0,none⟩) K.hauls.length hc2)∧W.cell? ⟨kb,n*3+2,none⟩=some (.slice (some ⟨pb,0,none⟩) K.goods.length cc)∧W.cell? ⟨pb,q,none⟩=some (.int .i64 x)) [19] ?_
     refine zg 0 ?_ rfl ?_ ?_;case refine_2=>(intro w _;go_simp;try rfl)
     refine zz 1 ?_ rfl hS ?_ ?_;case refine_2=>(intro w hSw;(try dsimp only at hSw);go_simp;try rfl)
     refine zg 2 ?_ rfl ?_ ?_;case refine_2=>(intro w _;go_simp;try rfl)
     refine zg 3 ?_ rfl ?_ ?_;case refine_2=>(intro w _;go_simp;try rfl)
     refine zg 4 ?_ rfl ?_ ?_;case refine_2=>(intro w _;go_simp;try rfl)
     refine zz 5 ?_ rfl hS ?_ ?_;case refine_2=>(intro w hSw;(try dsimp only at hSw);go_simp;try rfl)
     refine zg 6 ?_ rfl ?_ ?_;case refine_2=>(intro w _;go_simp;try rfl)
     refine zg 7 ?_ rfl ?_ ?_;case refine_2=>(intro w _;go_simp;try rfl)
     refine zg 8 ?_ rfl ?_ ?_;case refine_2=>(intro w _;go_simp;try rfl)
     refine zz 9 ?_ rfl hS ?_ ?_;case refine_2=>(intro w hSw;(try dsimp only at hSw);go_simp;try rfl)
     refine zg 10 ?_ rfl ?_ ?_;case refine_2=>(intro w _;go_simp;try rfl)
     refine zg 11 ?_ rfl ?_ ?_;case refine_2=>(intro w _;go_simp;try rfl)
     refine zg 12 ?_ rfl ?_ ?_;case refine_2=>(intro w _;go_simp;try rfl)
     refine zz 13 ?_ rfl hS ?_ ?_;case refine_2=>(intro w hSw;(try dsimp only at hSw);go_simp;try rfl)
     refine zg 14 ?_ rfl ?_ ?_;case refine_2=>(intro w _;go_simp;try rfl)
     refine zg 15 ?_ rfl ?_ ?_;case refine_2=>(intro w _;go_simp;try rfl)
     refine zz 16 ?_ rfl hS ?_ ?_;case refine_2=>(intro w hSw;(try dsimp only at hSw);go_simp;try rfl)
     refine zg 17 ?_ rfl ?_ ?_;case refine_2=>(intro w _;go_simp;try rfl)
     refine zg 18 ?_ rfl ?_ ?_;case refine_2=>(intro w _;go_simp;try rfl)
     obtain⟨e3,e4⟩:=HE.out
     refine wpAnyL_late (i:=19) rfl (by kernel_rfl) (by rfl) ?_
     intro Kq hKq
     go_simp
     refine hKq.out _ _ ?_
     clear hKq Kq
     refine qf (by kernel_rfl) ?_
     try simp only[Act.put,List.getElem_toArray,List.getElem_cons_succ,List.getElem_cons_zero,List.setIfInBounds_toArray,List.set_cons_zero,List.set_cons_succ]
     go_wp2_with fail
     go_roundw
     case rel=>exact⟨q+1,by go_num,by omega,HO2,HB2,HG2⟩
     case measure=>simp[intOf];omega
    ·have i2:¬ (q:Int)<K.goods.length:=by omega
     obtain rfl:q=K.goods.length:=by omega
     have HOX:=Lib.hid (show KOwn wr wS.heap.size (timesK2 K tm (n+1) 0) gA2 gc2 dA2 dc2 hA2 hc2 by rw[← timesK2_next K tm n S.out.plen];exact HOV.out)
     go_wp2_with fail
     go_roundw
     case rel=>exact⟨n+1,by go_num,by omega,HOX,HBV,HGV⟩
     case measure=>simp[intOf];omega
  ·have i1:¬ (n:Int)<K.hauls.length:=by omega
   obtain rfl:n=K.hauls.length:=by omega
   rw[timesK2_all] at HOW
   have HKX:=Lib.hid (HOW.out.kt (fun d hd=>by rw[S.out.dlen d hd];exact S.out.kt.ng) (fun x hx=>by
    simp only[zW,List.mem_map] at hx
    obtain⟨x0,hx0,rfl⟩:=hx
    rw[List.length_map,S.out.plen x0 hx0]
    exact S.out.kt.ng) S.out.kt.ng S.out.kt.nd (by simpa[zW] using S.out.kt.nh))
   clear HOW hn b0 b1 b2
   have b0:=za HBW0.out 0
   have b1:=za HBW0.out 1
   have b2:=za HBW0.out 2
   simp only[List.getElem?_toArray,List.getElem?_cons_zero,List.getElem?_cons_succ] at b0 b1 b2
   obtain⟨c0,c1,c2⟩:=S.out.cells HGW.out
   cases hnb:noneB K ms with
   | true =>
    have HCH:=Lib.hid (cheapest_bad (fs:=fs) K gA dA (some ⟨hb,ho,none⟩) gc dc hc ms mA mc wr (S.out.kt.grown HGW.out) (S.out.m.grown HGW.out) S.out.ml S.out.asked hnb)
    have HCX:=Lib.hid (fun W (k:Grown wr W)=>times_bad (fs:=fs) K tm gA2 dA2 hA2 gc2 dc2 hc2 ms mA mc W (HKX.out.grown k) (S.out.m.grown (HGW.out.trans k)) S.out.ml S.out.asked htm HP9 hnb)
    go_upto_region 18 with (first|(go_at_call 29;refine (HCX.out w4 HG4.out).mono ?_;rintro e w5 ⟨rfl,g5⟩;have HG5:=Lib.hid (HG4.out.trans g5);clear g5)|(go_at_call 29;refine HCH.out.mono ?_;rintro e w4 ⟨rfl,g4⟩;have HG4:=Lib.hid g4;have d0:=g4.cell b0;have d1:=g4.cell b1;have d2:=g4.cell b2;clear g4)|(go_at_call 38;refine (none_same (fs:=fs) w5).mono ?_;rintro e w6 ⟨rfl,g6⟩;have HG6:=Lib.hid (HG5.out.trans g6);clear g6))
    clear b0 b1 b2 c0 c1 c2 d0 d1 d2
    have HGQ:=Lib.hid (HGW.out.trans HG6.out)
    have S6:=Lib.hid (show Apart5 w6 K ms gA dA (some ⟨hb,ho,none⟩) mA gc dc hc bx from ⟨S.out.kt.grown HGQ.out,S.out.m.grown HGQ.out,zh S.out.box HGQ.out,S.out.valid,S.out.asked,S.out.ml,S.out.n,S.out.n3,S.out.dlen,S.out.plen⟩)
    have HBW:=Lib.hid (HBG.out.of_block (HGQ.out.same g HBG.out.lt))
    obtain⟨c0,c1,c2⟩:=S6.out.cells (Grown.refl _)
    have hnh:=S.out.kt.nh
    have hng:=S.out.n3
    have hg1:=S.out.n.1
    have hh1:=S.out.n.2.2
    have hv1:IntKind.i64.wrap ((K.hauls.length:Int)-1)=(K.hauls.length:Int)-1:=wrap_of rfl (by omega) (by omega)
    have hv2:IntKind.i64.wrap ((K.goods.length:Int)-1)=(K.goods.length:Int)-1:=wrap_of rfl (by omega) (by omega)
    generalize w6=wq at *
    go_cut [16,17] (fun a b W=>∃ haul good:Nat,a=.int .i64 haul∧b=.int .i64 good∧haul<K.hauls.length∧good<K.goods.length∧Hid (Kb g wq W))
    case first =>
     have hS:wq.drew.cell? ⟨bx,0,none⟩=some (.slice gA K.goods.length gc)∧wq.drew.cell? ⟨bx,2,none⟩=some (.slice (some ⟨hb,ho,none⟩) K.hauls.length hc):=⟨c0,c2⟩
     have HHS:=Lib.hid hS
     have HBQ:=Lib.hid (show BagAt wq.drew g from HBW.out.drew)
     clear c0 c1 c2
     refine qg (by kernel_rfl) (fun W=>W.cell? ⟨bx,0,none⟩=some (.slice gA K.goods.length gc)∧W.cell? ⟨bx,2,none⟩=some (.slice (some ⟨hb,ho,none⟩) K.hauls.length hc)) [] ?_
     refine zg 0 ?_ rfl ?_ ?_;case refine_2=>(intro w _;go_simp;try rfl)
     refine zg 1 ?_ rfl ?_ ?_;case refine_2=>(intro w _;go_simp;try rfl)
     refine zz 2 ?_ rfl hS ?_ ?_;case refine_2=>(intro w hSw;(try dsimp only at hSw);go_simp;try rfl)
     refine zg 3 ?_ rfl ?_ ?_;case refine_2=>(intro w _;go_simp;try rfl)
     refine zg 4 ?_ rfl ?_ ?_;case refine_2=>(intro w _;go_simp;try rfl)
     refine zg 6 ?_ rfl ?_ ?_;case refine_2=>(intro w _;go_simp;try rfl)
     refine zg 7 ?_ rfl ?_ ?_;case refine_2=>(intro w _;go_simp;try rfl)
     refine zz 8 ?_ rfl hS ?_ ?_;case refine_2=>(intro w hSw;(try dsimp only at hSw);go_simp;try rfl)
     refine zg 9 ?_ rfl ?_ ?_;case refine_2=>(intro w _;go_simp;try rfl)
     refine zg 10 ?_ rfl ?_ ?_;case refine_2=>(intro w _;go_simp;try rfl)
     refine zx (i:=5) rfl (by kernel_rfl) ?_
     intro Kq hKq
     go_simp
     refine (up_any g _ _ HBQ.out (by omega)).mono ?_
     rintro e wu ⟨ua,rfl,ua0,ua1,hBua⟩
     have HKua:=Lib.hid (Kb.of_bagged HBQ.out hBua)
     clear hBua
     have hS:wu.cell? ⟨bx,0,none⟩=some (.slice gA K.goods.length gc)∧wu.cell? ⟨bx,2,none⟩=some (.slice (some ⟨hb,ho,none⟩) K.hauls.length hc):=⟨HKua.out.cell HBQ.out HHS.out.1 (by simp),HKua.out.cell HBQ.out HHS.out.2 (by simp)⟩
     refine hKq.out _ _ hS (fun _=>?_)
     clear hKq Kq
     refine zx (i:=11) rfl (by kernel_rfl) ?_
     intro Kq hKq
     go_simp
     refine (up_any g _ _ HKua.out.bag (by omega)).mono ?_
     rintro e wv ⟨ub,rfl,ub0,ub1,hBub⟩
     have HKub:=Lib.hid (HKua.out.bagged hBub)
     clear hBub
     have hS:wv.cell? ⟨bx,0,none⟩=some (.slice gA K.goods.length gc)∧wv.cell? ⟨bx,2,none⟩=some (.slice (some ⟨hb,ho,none⟩) K.hauls.length hc):=⟨HKub.out.cell HBQ.out HHS.out.1 (by simp),HKub.out.cell HBQ.out HHS.out.2 (by simp)⟩
     refine hKq.out _ _ hS (fun _=>?_)
     clear hKq Kq
     refine zx (i:=12) rfl (by kernel_rfl) ?_
     intro Kq hKq
     go_simp
     refine hKq.out _ _ hS (fun _=>?_)
     clear hKq Kq
     refine zx (i:=13) rfl (by kernel_rfl) ?_
     intro Kq hKq
     go_simp
     refine hKq.out _ _ hS (fun _=>?_)
     clear hKq Kq
     refine qf (by kernel_rfl) ?_
     try simp only[Act.put,List.getElem_toArray,List.getElem_cons_succ,List.getElem_cons_zero,List.setIfInBounds_toArray,List.set_cons_zero,List.set_cons_succ]
     go_wp2_with fail
     go_meet
     exact⟨ua.toNat,ub.toNat,by rw[Int.toNat_of_nonneg ua0],by rw[Int.toNat_of_nonneg ub0],by omega,by omega,Lib.hid ((show Kb g wq wq.drew from ⟨HBQ.out,(Ke.refl _).drew⟩).trans HKub.out)⟩
    case rest =>
    obtain⟨haul,good,rfl,rfl,hh,hg,HKZ⟩:=hcut
    have SZ:=Lib.hid (show Apart5 wc K ms gA dA (some ⟨hb,ho,none⟩) mA gc dc hc bx from ⟨S6.out.kt.kb HKZ.out HBW.out,S6.out.m.kb HKZ.out HBW.out,HKZ.out.ke.block S6.out.box (by omega),S.out.valid,S.out.asked,S.out.ml,S.out.n,S.out.n3,S.out.dlen,S.out.plen⟩)
    refine (show ∀ (a:Act) (w1:World),Code.wp (Pf fs) (behindN 11 body11) (bodyPost (Pf fs) Try.f11 fun e _=>e=.returned (.bool true)) a w1→_ from by assumption) _ _ ?_
    exact law11b SZ hnb hh hg HP9 HKZ.out.bag hbxg
   | false =>
    have HCH:=Lib.hid (cheapest_good (fs:=fs) K gA dA (some ⟨hb,ho,none⟩) gc dc hc ms mA mc wr (S.out.kt.grown HGW.out) (S.out.m.grown HGW.out) S.out.ml S.out.asked hnb)
    have HCX:=Lib.hid (fun W (k:Grown wr W)=>times_good (fs:=fs) K tm gA2 dA2 hA2 gc2 dc2 hc2 ms mA mc W (HKX.out.grown k) (S.out.m.grown (HGW.out.trans k)) S.out.ml S.out.asked htm HP9 hnb)
    have hc1:zR K ms≤3*(5*65025):=by rw[← sumTo_full hnb];exact Nat.le_trans (sumTo_le (xs:=ms) S.out.valid (Nat.le_refl _)) (Nat.mul_le_mul_right _ S.out.n3)
    have hc2:tm*zR K ms≤5*(3*(5*65025)):=Nat.mul_le_mul htm.2 hc1
    have hwm:IntKind.i64.wrap ((tm:Int)*(zR K ms:Nat))=((tm*zR K ms:Nat):Int):=by rw[← Int.natCast_mul];exact wrap_big (by omega)
    have hneb:(((tm*zR K ms:Nat):Int)==(tm*zR K ms:Nat))=true:=by simp
    generalize hct:tm*zR K ms=ct at HCX hwm hneb
    clear hc1 hc2 hneb hct
    go_upto_region 18 with (first|(go_at_call 29;refine (HCX.out w4 HG4.out).mono ?_;rintro e w5 ⟨M2,rfl,g5,hd5⟩;have HG5:=Lib.hid (HG4.out.trans g5);have HD5:=Lib.hid hd5;have HD4':=Lib.hid (HD4.out.grown g5);clear g5 hd5)|(go_at_call 29;refine HCH.out.mono ?_;rintro e w4 ⟨M,rfl,g4,hd4⟩;have HG4:=Lib.hid g4;have HD4:=Lib.hid hd4;have d0:=g4.cell b0;have d1:=g4.cell b1;have d2:=g4.cell b2;clear g4 hd4)|(go_at_call 38;refine (rows_same (fs:=fs) K ms _ _ _ _ w5 HD4'.out HD5.out S.out.kt.nh).mono ?_;rintro e w6 ⟨rfl,g6⟩;have HG6:=Lib.hid (HG5.out.trans g6);have HD6:=Lib.hid (HD4'.out.grown g6);clear g6))
    clear b0 b1 b2 c0 c1 c2 d0 d1 d2
    have HGQ:=Lib.hid (HGW.out.trans HG6.out)
    have S6:=Lib.hid (show Apart5 w6 K ms gA dA (some ⟨hb,ho,none⟩) mA gc dc hc bx from ⟨S.out.kt.grown HGQ.out,S.out.m.grown HGQ.out,zh S.out.box HGQ.out,S.out.valid,S.out.asked,S.out.ml,S.out.n,S.out.n3,S.out.dlen,S.out.plen⟩)
    have HBW:=Lib.hid (HBG.out.of_block (HGQ.out.same g HBG.out.lt))
    obtain⟨c0,c1,c2⟩:=S6.out.cells (Grown.refl _)
    have hnh:=S.out.kt.nh
    have hng:=S.out.n3
    have hg1:=S.out.n.1
    have hh1:=S.out.n.2.2
    have hv1:IntKind.i64.wrap ((K.hauls.length:Int)-1)=(K.hauls.length:Int)-1:=wrap_of rfl (by omega) (by omega)
    have hv2:IntKind.i64.wrap ((K.goods.length:Int)-1)=(K.goods.length:Int)-1:=wrap_of rfl (by omega) (by omega)
    generalize w6=wq at *
    go_cut [16,17] (fun a b W=>∃ haul good:Nat,a=.int .i64 haul∧b=.int .i64 good∧haul<K.hauls.length∧good<K.goods.length∧Hid (Kb g wq W))
    case first =>
     have hS:wq.drew.cell? ⟨bx,0,none⟩=some (.slice gA K.goods.length gc)∧wq.drew.cell? ⟨bx,2,none⟩=some (.slice (some ⟨hb,ho,none⟩) K.hauls.length hc):=⟨c0,c2⟩
     have HHS:=Lib.hid hS
     have HBQ:=Lib.hid (show BagAt wq.drew g from HBW.out.drew)
     clear c0 c1 c2
     refine qg (by kernel_rfl) (fun W=>W.cell? ⟨bx,0,none⟩=some (.slice gA K.goods.length gc)∧W.cell? ⟨bx,2,none⟩=some (.slice (some ⟨hb,ho,none⟩) K.hauls.length hc)) [] ?_
     refine zg 0 ?_ rfl ?_ ?_;case refine_2=>(intro w _;go_simp;try rfl)
     refine zg 1 ?_ rfl ?_ ?_;case refine_2=>(intro w _;go_simp;try rfl)
     refine zz 2 ?_ rfl hS ?_ ?_;case refine_2=>(intro w hSw;(try dsimp only at hSw);go_simp;try rfl)
     refine zg 3 ?_ rfl ?_ ?_;case refine_2=>(intro w _;go_simp;try rfl)
     refine zg 4 ?_ rfl ?_ ?_;case refine_2=>(intro w _;go_simp;try rfl)
     refine zg 6 ?_ rfl ?_ ?_;case refine_2=>(intro w _;go_simp;try rfl)
     refine zg 7 ?_ rfl ?_ ?_;case refine_2=>(intro w _;go_simp;try rfl)
     refine zz 8 ?_ rfl hS ?_ ?_;case refine_2=>(intro w hSw;(try dsimp only at hSw);go_simp;try rfl)
     refine zg 9 ?_ rfl ?_ ?_;case refine_2=>(intro w _;go_simp;try rfl)
     refine zg 10 ?_ rfl ?_ ?_;case refine_2=>(intro w _;go_simp;try rfl)
     refine zx (i:=5) rfl (by kernel_rfl) ?_
     intro Kq hKq
     go_simp
     refine (up_any g _ _ HBQ.out (by omega)).mono ?_
     rintro e wu ⟨ua,rfl,ua0,ua1,hBua⟩
     have HKua:=Lib.hid (Kb.of_bagged HBQ.out hBua)
     clear hBua
     have hS:wu.cell? ⟨bx,0,none⟩=some (.slice gA K.goods.length gc)∧wu.cell? ⟨bx,2,none⟩=some (.slice (some ⟨hb,ho,none⟩) K.hauls.length hc):=⟨HKua.out.cell HBQ.out HHS.out.1 (by simp),HKua.out.cell HBQ.out HHS.out.2 (by simp)⟩
     refine hKq.out _ _ hS (fun _=>?_)
     clear hKq Kq
     refine zx (i:=11) rfl (by kernel_rfl) ?_
     intro Kq hKq
     go_simp
     refine (up_any g _ _ HKua.out.bag (by omega)).mono ?_
     rintro e wv ⟨ub,rfl,ub0,ub1,hBub⟩
     have HKub:=Lib.hid (HKua.out.bagged hBub)
     clear hBub
     have hS:wv.cell? ⟨bx,0,none⟩=some (.slice gA K.goods.length gc)∧wv.cell? ⟨bx,2,none⟩=some (.slice (some ⟨hb,ho,none⟩) K.hauls.length hc):=⟨HKub.out.cell HBQ.out HHS.out.1 (by simp),HKub.out.cell HBQ.out HHS.out.2 (by simp)⟩
     refine hKq.out _ _ hS (fun _=>?_)
     clear hKq Kq
     refine zx (i:=12) rfl (by kernel_rfl) ?_
     intro Kq hKq
     go_simp
     refine hKq.out _ _ hS (fun _=>?_)
     clear hKq Kq
     refine zx (i:=13) rfl (by kernel_rfl) ?_
     intro Kq hKq
     go_simp
     refine hKq.out _ _ hS (fun _=>?_)
     clear hKq Kq
     refine qf (by kernel_rfl) ?_
     try simp only[Act.put,List.getElem_toArray,List.getElem_cons_succ,List.getElem_cons_zero,List.setIfInBounds_toArray,List.set_cons_zero,List.set_cons_succ]
     go_wp2_with fail
     go_meet
     exact⟨ua.toNat,ub.toNat,by rw[Int.toNat_of_nonneg ua0],by rw[Int.toNat_of_nonneg ub0],by omega,by omega,Lib.hid ((show Kb g wq wq.drew from ⟨HBQ.out,(Ke.refl _).drew⟩).trans HKub.out)⟩
    case rest =>
    obtain⟨haul,good,rfl,rfl,hh,hg,HKZ⟩:=hcut
    have SZ:=Lib.hid (show Apart5 wc K ms gA dA (some ⟨hb,ho,none⟩) mA gc dc hc bx from ⟨S6.out.kt.kb HKZ.out HBW.out,S6.out.m.kb HKZ.out HBW.out,HKZ.out.ke.block S6.out.box (by omega),S.out.valid,S.out.asked,S.out.ml,S.out.n,S.out.n3,S.out.dlen,S.out.plen⟩)
    refine (show ∀ (a:Act) (w1:World),Code.wp (Pf fs) (behindN 11 body11) (bodyPost (Pf fs) Try.f11 fun e _=>e=.returned (.bool true)) a w1→_ from by assumption) _ _ ?_
    exact law11g SZ hnb (HD6.out.kb HKZ.out HBW.out) hh hg HP9 HKZ.out.bag hbxg
end
end
section
section
variable {fs:Array Func} [LikeS fs]
set_option maxRecDepth 20000 in
set_option maxHeartbeats 8000000 in
theorem law11 (ns:List Int) (A:Option Addr) (c:Nat) (w:World) (hx:Ints w A ns) (hl:ns.length≤9223372036854775807):Calls (Pf fs) 11 #[.slice A ns.length c] w fun e _=>e=.returned (.bool true):=by
 have HB:=Lib.hid (newBag_any (fs:=fs) A c ns w hx.toB hl)
 clear hx
 go_enter LK.func11,Try.ntmps11
 go_wp2_with (go_at_call 17;refine HB.out.mono ?_;rintro e w1 ⟨g,rfl,_,hb1,_⟩;clear HB)
 go_wp2_with (go_at_call 18;refine (kitchenOf_any g 3 9 4 w1 hb1 (by decide) (by decide) (by decide) (by decide) (by decide) (by decide)).mono ?_;rintro e w2 ⟨K,gA,gc,dA,dc,hA,hc,rfl,hK2,hkb2,h1,h2,h3,hcap⟩;have HC:=Lib.hid (dealt_valid h1 h2 h3 (by decide) (by decide) (by decide));have HK2:=Lib.hid hK2;have HB2:=Lib.hid hkb2.bag;have H1:=Lib.hid h1;have H2:=Lib.hid h2;have H3:=Lib.hid h3;have HCAP:=Lib.hid hcap;clear hb1 hK2 hkb2 h1 h2 h3 hcap;unfold ktV)
 have hbx:(w2.alloc (.cells #[.slice gA K.goods.length gc,.slice dA K.dishes.length dc,.slice hA K.hauls.length hc] 29)).heap[w2.heap.size]?=some (.cells #[.slice gA K.goods.length gc,.slice dA K.dishes.length dc,.slice hA K.hauls.length hc] 29 (0,0)):=heap_alloc_new w2 _
 have hS:(w2.alloc (.cells #[.slice gA K.goods.length gc,.slice dA K.dishes.length dc,.slice hA K.hauls.length hc] 29)).cell? ⟨w2.heap.size,0,none⟩=some (.slice gA K.goods.length gc)∧(w2.alloc (.cells #[.slice gA K.goods.length gc,.slice dA K.dishes.length dc,.slice hA K.hauls.length hc] 29)).cell? ⟨w2.heap.size,1,none⟩=some (.slice dA K.dishes.length dc)∧(w2.alloc (.cells #[.slice gA K.goods.length gc,.slice dA K.dishes.length dc,.slice hA K.hauls.length hc] 29)).cell? ⟨w2.heap.size,2,none⟩=some (.slice hA K.hauls.length hc):=⟨za hbx 0,za hbx 1,za hbx 2⟩
 have HBX:=Lib.hid hbx
 have HK3:=Lib.hid (show KtAt (w2.alloc (.cells #[.slice gA K.goods.length gc,.slice dA K.dishes.length dc,.slice hA K.hauls.length hc] 29)) K gA dA hA from HK2.out.grown (Grown.alloc w2 (.cells #[.slice gA K.goods.length gc,.slice dA K.dishes.length dc,.slice hA K.hauls.length hc] 29)))
 have HB3:=Lib.hid (HB2.out.alloc (.cells #[.slice gA K.goods.length gc,.slice dA K.dishes.length dc,.slice hA K.hauls.length hc] 29))
 have hne:=HB2.out.lt
 have hg1:=H1.out.1
 have hg3:=H1.out.2.1
 have hh1:=H3.out.1
 have hh5:=H3.out.2.1
 generalize hw3:(w2.alloc (.cells #[.slice gA K.goods.length gc,.slice dA K.dishes.length dc,.slice hA K.hauls.length hc] 29))=w3 at HBX HK3 HB3 hS
 have HW3:=Lib.hid hw3
 clear hw3 hbx HK2 HB2
 have HHS:=Lib.hid hS
 have key:∀ W,Kb g w3 W→W.cell? ⟨w2.heap.size,0,none⟩=some (.slice gA K.goods.length gc)∧W.cell? ⟨w2.heap.size,1,none⟩=some (.slice dA K.dishes.length dc)∧W.cell? ⟨w2.heap.size,2,none⟩=some (.slice hA K.hauls.length hc):=fun W k=>⟨k.cell HB3.out HHS.out.1 (by simp),k.cell HB3.out HHS.out.2.1 (by simp),k.cell HB3.out HHS.out.2.2 (by simp)⟩
 have KEY:=Lib.hid key
 clear key
 generalize hbxn:w2.heap.size=bx at *
 clear hbxn
 clear HW3 hS
 refine (menuOf_any g K gA dA hA gc dc hc w3 HB3.out (by have:=H2.out.1;omega) (by have:=H2.out.2.1;omega) (by omega)).mono ?_
 rintro e w4 ⟨mA,mc,ms,rfl,hm4,hkb4,hml4,hmt4,hmc4⟩
 have HK4:=Lib.hid hkb4
 have HM4:=Lib.hid hm4
 have HML:=Lib.hid hml4
 have HMT:=Lib.hid hmt4
 have HMC:=Lib.hid hmc4
 clear hm4 hkb4 hml4 hmt4 hmc4
 go_upto_region 4 with (go_at_call 51;refine (bfrom_any g 2 5 _ HK4.out.bag (by omega) (by omega) (by omega) (by omega)).mono ?_;rintro e w5 ⟨tq,rfl,ht0,ht1,hB5⟩;have hkb5:=HK4.out.bagged hB5;have HMS:=Lib.hid (HM4.out.kb (Kb.of_bagged HK4.out.bag hB5) HK4.out.bag);have HKB5:=Lib.hid hkb5;clear hkb5 hB5 HM4 HK4)
 have hS:=KEY.out w5 HKB5.out
 have HBS:=Lib.hid (HKB5.out.ke.block HBX.out (by omega))
 have HKS:=Lib.hid (HK3.out.kb HKB5.out HB3.out)
 obtain⟨a0,a1,a2⟩:=hS
 have HBGS:=Lib.hid HKB5.out.bag
 clear HKB5 HBX HK3 HB3 HHS KEY
 generalize w5=wS at *
 have hsi:=single_any (fs:=fs) K gA dA hA gc dc hc wS HKS.out
 obtain⟨tm,rfl⟩:∃ tm:Nat,tq=tm:=⟨tq.toNat,by omega⟩
 by_cases hsing:K.dishes.length=1∧1<K.hauls.length
 ·rw[show (decide (K.dishes.length=1)&&decide (1<K.hauls.length))=true by simp[hsing]] at hsi
  have HSI:=Lib.hid hsi
  clear hsi hsing
  go_wp2_with (first|(go_at_call 21;refine HSI.out.mono ?_;rintro e w6 ⟨rfl,g6⟩)|(go_at_call 22;refine (served_any _).mono ?_;rintro e w7 ⟨rfl,g7⟩))
  go_ret
  rfl
 ·rw[show (decide (K.dishes.length=1)&&decide (1<K.hauls.length))=false by simp;omega] at hsi
  have HSI:=Lib.hid hsi
  have HA:=Lib.hid (asked_of HC.out (menuTo_zero HMT.out HML.out H2.out.1 hsing))
  have hml:ms.length≤1000:=by have:=HML.out;omega
  obtain⟨hb,ho,rfl,_⟩:=HKS.out.hauls 0 _ (List.getElem?_eq_getElem (show 0<K.hauls.length by omega))
  have HS:=Lib.hid (show ∀ W,Grown wS W→Apart5 W K ms gA dA (some ⟨hb,ho,none⟩) mA gc dc hc bx from fun W g=>⟨HKS.out.grown g,HMS.out.grown g,zh HBS.out g,HC.out,HA.out,hml,⟨hg1,H2.out.1,hh1⟩,hg3,fun d hd=>(H2.out.2.2 d hd).1,fun x hx=>(H3.out.2.2 x hx).len⟩)
  clear hsi hsing
  go_upto_if 33 with (go_at_call 21;refine HSI.out.mono ?_;rintro e w6 ⟨rfl,g6⟩;have HG6:=Lib.hid g6;clear g6)
  go_cut [2] (fun _ W=>Hid (Grown w6 W))
  case first =>
   go_wp2_with fail
   go_meet
   exact Lib.hid (Grown.refl _)
  case rest =>
  have HGC:=Lib.hid (HG6.out.trans hcut.out)
  refine (show ∀ (a:Act) (w1:World),Code.wp (Pf fs) (behindN 5 body11) (bodyPost (Pf fs) Try.f11 fun e _=>e=.returned (.bool true)) a w1→_ from by assumption) _ _ ?_
  exact law11m (Lib.hid (HS.out _ HGC.out)) (by omega) (fun x hx=>(H3.out.2.2 x hx).prices) (Lib.hid (HBGS.out.of_block (HGC.out.same g HBGS.out.lt))) (by omega)
end
end
end Go.Gal
