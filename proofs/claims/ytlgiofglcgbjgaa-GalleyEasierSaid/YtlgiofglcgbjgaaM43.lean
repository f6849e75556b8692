/- Walks: GalleyEasier, the goods and the hauls (printed by laweasy.py l). Walks: GalleyEasier (printed by laweasy.py a). -/
import Derived.Test.YtlgiofglcgbjgaaM42
namespace Go.Gal
open Go Go.Par Go.Proofs Go.RowKit
section
section
variable {fs:Array Func} [LikeS fs]
set_option maxRecDepth 100000 in
set_option maxHeartbeats 8000000 in
theorem law14l {wS:World} {K:Kt} {ms:List Int} {gb go:Nat} {dA hA mA gA2 dA2 hA2:Option Addr} {gc dc hc mc gc2 dc2 hc2 bx tb g:Nat} (S:Hid (Apart5 wS K ms (some ⟨gb,go,none⟩) dA hA mA gc dc hc bx)) {W0:World} (HZ0:Hid (EzAt wS W0 K K g tb gA2 gc2 dA2 dc2 hA2 hc2)) (HOK:∀ x∈K.goods,GdOk 12 x) (HBG:Hid (BagAt wS g)) (hbxg:bx≠g) {u0 u1 u2 u7 u8 u9 u10 u11 u12 u13 u14 u15 u16 u17 u18 u19 u20 u21 u22 u23 u24 u25 u26 u27 u28 u29 u30 u31 u32 u33 u34 u35 u36 u37 u38 u39 u40 u41 u42 u43 u44 u45 u46 u47 u48 u49 u50 u51 u52 u53 u54 u55 u56 u57 u58 u59 u60 u61 u62 u63 u64 u65 u66 u67 u68 u69 u70 u71 u72 u73 u74 u75 u76 u77 u78 u79 u80 u81 u82 u83 u84 u85 u86 u87 u88 u89 u90 u91 u92 u93 u94 u95 u96 u97 u98 u99 u100 u101 u102 u103 u104 u105 u106 u107 u108 u109 u110 u111 u112 u113 u114 u115 u116 u117 u118 u119 u120 u121 u122 u123 u124 u125 u126 u127 u128 u129 u130 u131 u132 u133 u134 u135 u136 u137 u138 u139 u140 u141 u142 u143 u144 u145 u146 u147 u148 u149 u150 u151 u152 u153 u154 u155 u156 u157 u158 u159 u160 u161 u162 u163 u164 u165 u166 u167 u168 u169 u170 u171 u172 u173 u174 u175 u176 u177 u178 u179 u180 u181 u182 u183 u184 u185 u186 u187 u188 u189 u190 u191 u192 u193 u194:Value} :
  Code.wp (Pf fs) (behindN 6 body14) (bodyPost (Pf fs) Try.f14 fun e _=>e=.returned (.bool true)) ⟨#[u0,u1,u2,.pointer (some ⟨g,0,none⟩),.pointer (some ⟨bx,0,none⟩),.slice mA ms.length mc,.pointer (some ⟨tb,0,none⟩),u7,u8,u9,u10,u11,u12,u13,u14,u15,u16,u17,u18,u19,u20,u21,u22,u23,u24,u25,u26,u27,u28,u29,u30,u31,u32,u33,u34,u35,u36,u37,u38,u39,u40,u41,u42,u43,u44,u45,u46,u47,u48,u49,u50,u51,u52,u53,u54,u55,u56,u57,u58,u59,u60,u61,u62,u63,u64,u65,u66,u67,u68,u69,u70,u71,u72,u73,u74,u75,u76,u77,u78,u79,u80,u81,u82,u83,u84,u85,u86,u87,u88,u89,u90,u91,u92,u93,u94,u95,u96,u97,u98,u99,u100,u101,u102,u103,u104,u105,u106,u107,u108,u109,u110,u111,u112,u113,u114,u115,u116,u117,u118,u119,u120,u121,u122,u123,u124,u125,u126,u127,u128,u129,u130,u131,u132,u133,u134,u135,u136,u137,u138,u139,u140,u141,u142,u143,u144,u145,u146,u147,u148,u149,u150,u151,u152,u153,u154,u155,u156,u157,u158,u159,u160,u161,u162,u163,u164,u165,u166,u167,u168,u169,u170,u171,u172,u173,u174,u175,u176,u177,u178,u179,u180,u181,u182,u183,u184,u185,u186,u187,u188,u189,u190,u191,u192,u193,u194],[]⟩ W0:=by
 have hnh:=S.out.kt.nh
 have hng:=S.out.n3
 have hcv:∀ j,j<K.hauls.length→0≤(hlAt K.hauls j).covers∧(hlAt K.hauls j).covers≤9:=fun j hj=>by
  obtain⟨_,_,h3⟩:=haulsE_zero (zW S.out.valid).2.2
  obtain⟨_,_,a,b,_⟩:=h3 _ (List.mem_of_getElem? (hlAt_get hj))
  exact⟨a,b⟩
 have HCV:=Lib.hid hcv
 have HRM:=Lib.hid (show ∀ i,i<K.goods.length→(gdAt K.goods i).room<20 from fun i hi=>by have:=(HOK _ (List.mem_of_getElem? (gdAt_get hi))).room;omega)
 clear hcv
 conv=>arg 2;whnf
 go_wp2_with fail
 go_loopw [7] (fun i W=>∃ (n:Nat) (Y:Kt),i=.int .i64 n∧n≤K.goods.length∧Hid (Easy1 K Y n)∧Hid (EzAt wS W K Y g tb gA2 gc2 dA2 dc2 hA2 hc2)) (fun i _=>K.goods.length-(intOf i).toNat)
 case atStart=>exact⟨0,K,rfl,Nat.zero_le _,Lib.hid (Easy1.start K),HZ0⟩
 case round =>
  obtain⟨n,Y,rfl,hn,HE,HY⟩:=hrel
  clear HZ0
  have b0:=za HY.out.box 0
  simp only[List.getElem?_toArray,List.getElem?_cons_zero] at b0
  by_cases hnl:n<K.goods.length
  ·have i1:(n:Int)<K.goods.length:=by omega
   have hyn:Y.goods[n]?=some (gdAt K.goods n):=by
    rw[gdAt_get (show n<Y.goods.length by rw[HE.out.len];exact hnl),HE.out.left n (Nat.le_refl _)]
   obtain⟨kb,rfl,hlow,_,e1,_⟩:=HY.out.own.gd (v:=.int .i64 0) (y:={ gdAt K.goods n with room:=0 }) (i:=0) hyn (by decide) (fun _ _=>rfl)
   have hok:=HOK _ (List.mem_of_getElem? (gdAt_get hnl))
   obtain⟨room,res,mel,st,hgd⟩:∃ room res mel st,gdAt K.goods n=⟨room,res,mel,st⟩:=⟨_,_,_,_,rfl⟩
   rw[hgd] at e1 hok hyn
   have o1:=e1 0 _ rfl
   have o2:=e1 1 _ rfl
   obtain⟨⟨p1,p2⟩,⟨p3,p4⟩,⟨p5,p6⟩,p7,p8⟩:=hok
   simp only[Nat.add_zero] at o1 o2 p1 p2 p3 p4 p5 p6 p7 p8
   have HYN:=Lib.hid hyn
   have HGD:=Lib.hid hgd
   clear hyn hgd e1
   go_wp2_with fail
   have hS:wr.drew.cell? ⟨kb,n*4,none⟩=some (.int .i64 room)∧wr.drew.cell? ⟨kb,n*4+1,none⟩=some (.int .i64 res):=⟨o1,o2⟩
   have HHS:=Lib.hid hS
   have HBQ:=Lib.hid (show BagAt wr.drew g from HY.out.kb.bag.drew)
   have HYD:=Lib.hid HY.out.drew
   clear b0 o1 o2
   refine wp_region_L (by kernel_rfl) (fun W=>W.cell? ⟨kb,n*4,none⟩=some (.int .i64 room)∧W.cell? ⟨kb,n*4+1,none⟩=some (.int .i64 res)) [17,20] ?_
   refine zg 0 ?_ rfl ?_ ?_;case refine_2=>(intro w _;go_simp;try rfl)
   refine zg 1 ?_ rfl ?_ ?_;case refine_2=>(intro w _;go_simp;try rfl)
   refine zg 2 ?_ rfl ?_ ?_;case refine_2=>(intro w _;go_simp;try rfl)
   refine zg 3 ?_ rfl ?_ ?_;case refine_2=>(intro w _;go_simp;try rfl)
   refine zg 4 ?_ rfl ?_ ?_;case refine_2=>(intro w _;go_simp;try rfl)
   refine zz 5 ?_ rfl hS ?_ ?_;case refine_2=>(intro w hSw;(try dsimp only at hSw);go_simp;try rfl)
   refine zg 6 ?_ rfl ?_ ?_;case refine_2=>(intro w _;go_simp;try rfl)
   refine zg 9 ?_ rfl ?_ ?_;case refine_2=>(intro w _;go_simp;try rfl)
   refine zg 10 ?_ rfl ?_ ?_;case refine_2=>(intro w _;go_simp;try rfl)
   refine zg 11 ?_ rfl ?_ ?_;case refine_2=>(intro w _;go_simp;try rfl)
   refine zg 12 ?_ rfl ?_ ?_;case refine_2=>(intro w _;go_simp;try rfl)
   refine zz 13 ?_ rfl hS ?_ ?_;case refine_2=>(intro w hSw;(try dsimp only at hSw);go_simp;try rfl)
   refine zx (i:=7) rfl (by kernel_rfl) ?_
   intro Kq hKq
   go_simp
   refine (up_any g _ _ HBQ.out (by omega)).mono ?_
   rintro e wu ⟨u,rfl,u0,u1,hBu⟩
   have HKu:=Lib.hid (Kb.of_bagged HBQ.out hBu)
   clear hBu
   have hS:wu.cell? ⟨kb,n*4,none⟩=some (.int .i64 room)∧wu.cell? ⟨kb,n*4+1,none⟩=some (.int .i64 res):=⟨HKu.out.cell HBQ.out HHS.out.1 (by simp),HKu.out.cell HBQ.out HHS.out.2 (by simp)⟩
   refine hKq.out _ _ hS (fun _=>?_)
   clear hKq Kq
   have hw:IntKind.i64.wrap (room+u)=room+u:=wrap_of rfl (by omega) (by omega)
   refine zg 8 ?_ rfl ?_ ?_;case refine_2=>(intro w _;go_simp;try rfl)
   refine zx (i:=14) rfl (by kernel_rfl) ?_
   intro Kq hKq
   go_simp
   refine (bfrom_any g _ _ _ HKu.out.bag (by omega) (by omega) (by omega) (by omega)).mono ?_
   rintro e wv ⟨v,rfl,v0,v1,hBv⟩
   have HKv:=Lib.hid (HKu.out.bagged hBv)
   clear hBv
   have hS:wv.cell? ⟨kb,n*4,none⟩=some (.int .i64 room)∧wv.cell? ⟨kb,n*4+1,none⟩=some (.int .i64 res):=⟨HKv.out.cell HBQ.out HHS.out.1 (by simp),HKv.out.cell HBQ.out HHS.out.2 (by simp)⟩
   refine hKq.out _ _ hS (fun _=>?_)
   clear hKq Kq
   refine zg 15 ?_ rfl ?_ ?_;case refine_2=>(intro w _;go_simp;try rfl)
   refine zg 16 ?_ rfl ?_ ?_;case refine_2=>(intro w _;go_simp;try rfl)
   have HYV:=Lib.hid (HYD.out.to HKv.out)
   obtain⟨kb',eh,_,⟨cur,e2⟩,e3,e4⟩:=HYV.out.own.gd (v:=.int .i64 (room+u)) (y:=⟨room+u,res,mel,st⟩) (i:=0) HYN.out (by decide) (fun _ _=>rfl)
   cases eh
   have o1:=e3 0 _ rfl
   have f1:=zk e2 (n*4)
   rw[Nat.add_zero] at o1 e4
   have HFI:=Lib.hid (HYV.out.put hlow e2 (by decide) e4)
   have hyn2:(Y.goods.set n ⟨room+u,res,mel,st⟩)[n]?=some ⟨room+u,res,mel,st⟩:=List.getElem?_set_self (by rw[HE.out.len];exact hnl)
   obtain⟨kb',eh,_,⟨cur2,e5⟩,e6,e7⟩:=HFI.out.own.gd (v:=.int .i64 v) (y:=⟨room+u,v,mel,st⟩) (i:=1) hyn2 (by decide) (fun _ _=>rfl)
   cases eh
   have o2:=e6 1 _ rfl
   have f2:=zk e5 (n*4+1)
   have HF2:=Lib.hid (HFI.out.put hlow e5 (by decide) e7)
   clear e2 e3 e4 e5 e6 e7 hS hyn2
   refine wpAnyL_late (i:=17) rfl (by kernel_rfl) (by rfl) ?_
   intro Kq hKq
   go_simp
   refine hKq.out _ _ ?_
   clear hKq Kq
   refine zg 18 ?_ rfl ?_ ?_;case refine_2=>(intro w _;go_simp;try rfl)
   refine zg 19 ?_ rfl ?_ ?_;case refine_2=>(intro w _;go_simp;try rfl)
   refine wpAnyL_late (i:=20) rfl (by kernel_rfl) (by rfl) ?_
   intro Kq hKq
   go_simp
   refine hKq.out _ _ ?_
   clear hKq Kq
   refine wpAnyL_done (by kernel_rfl) ?_
   try simp only[Act.put,List.getElem_toArray,List.getElem_cons_succ,List.getElem_cons_zero,List.setIfInBounds_toArray,List.set_cons_zero,List.set_cons_succ]
   generalize ((wv.setCell ⟨kb,n*4,none⟩ (.int .i64 (room+u))).setCell ⟨kb,n*4+1,none⟩ (.int .i64 v))=wE at HF2 ⊢
   clear o1 o2 f1 f2 HFI
   simp only[List.set_set] at HF2
   have hyn3:(Y.goods.set n ⟨room+u,v,mel,st⟩)[n]?=some ⟨room+u,v,mel,st⟩:=List.getElem?_set_self (by rw[HE.out.len];exact hnl)
   have HY3:=Lib.hid hyn3
   have o3:wE.cell? ⟨kb,n*4+2,none⟩=some (.int .i64 mel):=by
    obtain⟨kb',eh,_,_,e6,_⟩:=HF2.out.own.gd (v:=.int .i64 0) (y:=⟨room+u,v,0,st⟩) (i:=2) hyn3 (by decide) (fun _ _=>rfl)
    cases eh
    exact e6 2 _ rfl
   clear hyn3
   go_upto_region 12 with fail
   go_cut [69] (fun v W=>(∃ B:Bool,v=.bool B∧(B=true→0<mel))∧Hid (Kb g wE W))
   case first =>
    have HK0:=Lib.hid (Kb.refl HF2.out.kb.bag)
    by_cases hm : 0<mel
    ·go_wp2_with (go_at_call 58;refine (chance_any g _ _ _ HK0.out.bag (by omega) (by omega)).mono ?_;rintro e w8 ⟨B,rfl,hB8⟩;have HK8:=Lib.hid (HK0.out.bagged hB8);clear hB8)
     go_meet
     exact⟨⟨_,rfl,fun _=>hm⟩,HK8⟩
    ·go_wp2_with fail
     go_meet
     exact⟨⟨_,rfl,fun q=>by cases q⟩,HK0⟩
   case rest =>
   obtain⟨⟨B,rfl,hB⟩,HKC⟩:=hcut
   have HFC:=Lib.hid (HF2.out.to HKC.out)
   have o3:=HKC.out.cell HF2.out.kb.bag o3 (by simp)
   cases B with
   | false =>
    have HE2:=Lib.hid (HE.out.step (y:=⟨room+u,v,mel,st⟩) hnl (by rw[HGD.out];exact⟨by simp only;omega,by simp only;omega,.inl rfl,rfl⟩) (by unfold qb outB;simp;omega))
    go_wp2_with fail
    go_roundw
    case rel=>exact⟨n+1,_,by go_num,by omega,HE2,HFC⟩
    case measure=>simp[intOf];omega
   | true =>
    have hm:=hB rfl
    have hw2:IntKind.i64.wrap (mel+1)=mel+1:=wrap_of rfl (by omega) (by omega)
    go_upto_region 9 with (go_at_call 59;refine (one_new (fs:=fs) g 2 [0,mel+1] wc wc rfl (Kb.refl HFC.out.kb.bag) (by simp) (by simp) rfl).mono ?_;rintro e w8 ⟨m2,rfl,hm2,hK8⟩;have HK8:=Lib.hid hK8;have HY8:=Lib.hid (HFC.out.to hK8);obtain⟨kb',eh,_,⟨cur,e2⟩,e6,e7⟩:=HY8.out.own.gd (v:=.int .i64 m2) (y:=⟨room+u,v,m2,st⟩) (i:=2) HY3.out (by decide) (fun _ _=>rfl);cases eh;have o4:=e6 2 _ rfl;have f4:=zk e2 (n*4+2);have HF9:=Lib.hid (HY8.out.put hlow e2 (by decide) e7);clear e2 e6 e7 hK8 o3)
    simp only[List.set_set] at HF9
    have hm3:m2=0∨m2=mel+1:=by simpa using hm2
    have HE2:=Lib.hid (HE.out.step (y:=⟨room+u,v,m2,st⟩) hnl (by rw[HGD.out];exact⟨by simp only;omega,by simp only;omega,.inr (by rcases hm3 with q|q;exact .inl q;exact .inr ⟨hm,by simp only;omega⟩),rfl⟩) (by unfold qb outB;simp;omega))
    clear hm2 o4 f4
    go_wp2_with fail
    go_roundw
    case rel=>exact⟨n+1,_,by go_num,by omega,HE2,HF9⟩
    case measure=>simp[intOf];omega
  ·have i1:¬ (n:Int)<K.goods.length:=by omega
   obtain rfl:n=K.goods.length:=by omega
   have HHE:=Lib.hid (Easy2.start HE.out)
   have HZ:=HY
   go_wp2_with fail
   clear b0 HE HY
   go_loopw [9] (fun i W=>∃ (n:Nat) (Y:Kt),i=.int .i64 n∧n≤K.hauls.length∧Hid (Easy2 K Y n)∧Hid (EzAt wS W K Y g tb gA2 gc2 dA2 dc2 hA2 hc2)) (fun i _=>K.hauls.length-(intOf i).toNat)
   case atStart=>exact⟨0,_,rfl,Nat.zero_le _,HHE,HZ⟩
   case round =>
    obtain⟨n,Y,rfl,hn,HE,HY⟩:=hrel
    clear HHE HZ
    have b2:=za HY.out.box 2
    simp only[List.getElem?_toArray,List.getElem?_cons_zero,List.getElem?_cons_succ] at b2
    by_cases hnl:n<K.hauls.length
    ·have i1:(n:Int)<K.hauls.length:=by omega
     have hyn:Y.hauls[n]?=some (hlAt K.hauls n):=by
      rw[hlAt_get (show n<Y.hauls.length by rw[HE.out.hlen];exact hnl),HE.out.left n (Nat.le_refl _)]
     obtain⟨hb,rfl,hlow,_,e1,_⟩:=HY.out.own.cov (v:=0) hyn
     obtain⟨c0,c9⟩:=HCV.out n hnl
     have HYN:=Lib.hid hyn
     obtain⟨cv,hcv⟩:∃ cv,cv=(hlAt K.hauls n).covers:=⟨_,rfl⟩
     rw[← hcv] at e1 c0 c9
     have HCQ:=Lib.hid hcv
     clear hcv hyn
     go_wp2_with fail
     have hS:wr.drew.cell? ⟨tb,2,none⟩=some (.slice (some ⟨hb,0,none⟩) K.hauls.length hc2)∧wr.drew.cell? ⟨hb,n*3+1,none⟩=some (.int .i64 cv):=⟨b2,e1⟩
     have HHS:=Lib.hid hS
     have HBQ:=Lib.hid (show BagAt wr.drew g from HY.out.kb.bag.drew)
     have HYD:=Lib.hid HY.out.drew
     clear b2 e1
     refine wp_region_L (by kernel_rfl) (fun W=>W.cell? ⟨tb,2,none⟩=some (.slice (some ⟨hb,0,none⟩) K.hauls.length hc2)∧W.cell? ⟨hb,n*3+1,none⟩=some (.int .i64 cv)) [28] ?_
     refine zg 0 ?_ rfl ?_ ?_;case refine_2=>(intro w _;go_simp;try rfl)
     refine zz 1 ?_ rfl hS ?_ ?_;case refine_2=>(intro w hSw;(try dsimp only at hSw);go_simp;try rfl)
     refine zg 2 ?_ rfl ?_ ?_;case refine_2=>(intro w _;go_simp;try rfl)
     refine zg 3 ?_ rfl ?_ ?_;case refine_2=>(intro w _;go_simp;try rfl)
     refine zg 4 ?_ rfl ?_ ?_;case refine_2=>(intro w _;go_simp;try rfl)
     refine zz 5 ?_ rfl hS ?_ ?_;case refine_2=>(intro w hSw;(try dsimp only at hSw);go_simp;try rfl)
     refine zg 6 ?_ rfl ?_ ?_;case refine_2=>(intro w _;go_simp;try rfl)
     refine zg 7 ?_ rfl ?_ ?_;case refine_2=>(intro w _;go_simp;try rfl)
     refine zg 8 ?_ rfl ?_ ?_;case refine_2=>(intro w _;go_simp;try rfl)
     refine zz 9 ?_ rfl hS ?_ ?_;case refine_2=>(intro w hSw;(try dsimp only at hSw);go_simp;try rfl)
     refine zg 10 ?_ rfl ?_ ?_;case refine_2=>(intro w _;go_simp;try rfl)
     refine zg 11 ?_ rfl ?_ ?_;case refine_2=>(intro w _;go_simp;try rfl)
     refine zz 12 ?_ rfl hS ?_ ?_;case refine_2=>(intro w hSw;(try dsimp only at hSw);go_simp;try rfl)
     refine zg 13 ?_ rfl ?_ ?_;case refine_2=>(intro w _;go_simp;try rfl)
     refine zg 14 ?_ rfl ?_ ?_;case refine_2=>(intro w _;go_simp;try rfl)
     refine zg 15 ?_ rfl ?_ ?_;case refine_2=>(intro w _;go_simp;try rfl)
     refine zz 16 ?_ rfl hS ?_ ?_;case refine_2=>(intro w hSw;(try dsimp only at hSw);go_simp;try rfl)
     refine zg 19 ?_ rfl ?_ ?_;case refine_2=>(intro w _;go_simp;try rfl)
     refine zz 20 ?_ rfl hS ?_ ?_;case refine_2=>(intro w hSw;(try dsimp only at hSw);go_simp;try rfl)
     refine zg 21 ?_ rfl ?_ ?_;case refine_2=>(intro w _;go_simp;try rfl)
     refine zg 22 ?_ rfl ?_ ?_;case refine_2=>(intro w _;go_simp;try rfl)
     refine zg 23 ?_ rfl ?_ ?_;case refine_2=>(intro w _;go_simp;try rfl)
     refine zz 24 ?_ rfl hS ?_ ?_;case refine_2=>(intro w hSw;(try dsimp only at hSw);go_simp;try rfl)
     refine zx (i:=17) rfl (by kernel_rfl) ?_
     intro Kq hKq
     go_simp
     refine (up_any g _ _ HBQ.out (by omega)).mono ?_
     rintro e wu ⟨u,rfl,u0,u1,hBu⟩
     have HKu:=Lib.hid (Kb.of_bagged HBQ.out hBu)
     clear hBu
     have hS:wu.cell? ⟨tb,2,none⟩=some (.slice (some ⟨hb,0,none⟩) K.hauls.length hc2)∧wu.cell? ⟨hb,n*3+1,none⟩=some (.int .i64 cv):=⟨HKu.out.cell HBQ.out HHS.out.1 (by simp),HKu.out.cell HBQ.out HHS.out.2 (by simp)⟩
     refine hKq.out _ _ hS (fun _=>?_)
     clear hKq Kq
     have hw:IntKind.i64.wrap (cv-u)=cv-u:=wrap_of rfl (by omega) (by omega)
     refine zg 18 ?_ rfl ?_ ?_;case refine_2=>(intro w _;go_simp;try rfl)
     refine zx (i:=25) rfl (by kernel_rfl) ?_
     intro Kq hKq
     go_simp
     try rw[hw]
     refine (bfrom_any g _ _ _ HKu.out.bag (by omega) (by omega) (by omega) (by omega)).mono ?_
     rintro e wv ⟨v,rfl,v0,v1,hBv⟩
     have HKv:=Lib.hid (HKu.out.bagged hBv)
     clear hBv
     have hS:wv.cell? ⟨tb,2,none⟩=some (.slice (some ⟨hb,0,none⟩) K.hauls.length hc2)∧wv.cell? ⟨hb,n*3+1,none⟩=some (.int .i64 cv):=⟨HKv.out.cell HBQ.out HHS.out.1 (by simp),HKv.out.cell HBQ.out HHS.out.2 (by simp)⟩
     refine hKq.out _ _ hS (fun _=>?_)
     clear hKq Kq
     refine zg 26 ?_ rfl ?_ ?_;case refine_2=>(intro w _;go_simp;try rfl)
     refine zg 27 ?_ rfl ?_ ?_;case refine_2=>(intro w _;go_simp;try rfl)
     have HYV:=Lib.hid (HYD.out.to HKv.out)
     obtain⟨hb',eh,_,⟨cur,e2⟩,e3,e4⟩:=HYV.out.own.cov (v:=v) HYN.out
     cases eh
     rw[← HCQ.out] at e3
     have e5:=zk e2 (n*3+1)
     have HFI:=Lib.hid (HYV.out.put hlow e2 (by decide) e4)
     clear e2 e4 hS
     refine wpAnyL_late (i:=28) rfl (by kernel_rfl) (by rfl) ?_
     intro Kq hKq
     go_simp
     refine hKq.out _ _ ?_
     clear hKq Kq
     refine wpAnyL_done (by kernel_rfl) ?_
     try simp only[Act.put,List.getElem_toArray,List.getElem_cons_succ,List.getElem_cons_zero,List.setIfInBounds_toArray,List.set_cons_zero,List.set_cons_succ]
     go_wp2_with fail
     go_roundw
     case rel=>exact⟨n+1,_,by go_num,by omega,Lib.hid (HE.out.step hnl (by omega) (by rw[← HCQ.out];omega)),HFI⟩
     case measure=>simp[intOf];omega
    ·have i1:¬ (n:Int)<K.hauls.length:=by omega
     obtain rfl:n=K.hauls.length:=by omega
     obtain⟨hE1,hE2,hE3⟩:=zW (HE.out.valid S.out.valid)
     have HKX:=Lib.hid (HY.out.own.kt (fun d hd=>by rw[HE.out.dishes] at hd;rw[S.out.dlen d hd];exact S.out.kt.ng) (fun x hx=>by rw[((haulsE_zero hE3).2.2 x hx).2.2.2.2.1,HE.out.len];exact S.out.kt.ng) (by rw[HE.out.len];exact S.out.kt.ng) (by rw[HE.out.dishes];exact S.out.kt.nd) (by rw[HE.out.hlen];exact S.out.kt.nh))
     have HSA:=Lib.hid (S.out.kb HY.out.kb HBG.out hbxg)
     obtain⟨a0,a1,a2⟩:=HSA.out.cells (Grown.refl _)
     clear hE1 hE2 hE3
     cases hk:noneB K ms with
     | false =>
      have hch:=cheapest_good (fs:=fs) K (some ⟨gb,go,none⟩) dA hA gc dc hc ms mA mc wr HSA.out.kt HSA.out.m S.out.ml S.out.asked hk
      unfold ktV at hch
      have HCH:=Lib.hid hch
      clear hch
      go_upto_region 18 with fail
      go_cut [11,12] (fun a b W=>a=.int .i64 (zT K ms)∧b=.int .i64 0∧Hid (Grown wr W))
      case first =>
       go_wp2_with (go_at_call 29;refine HCH.out.mono ?_;rintro e w8 ⟨M,rfl,g8,_⟩;have HG8:=Lib.hid g8;clear g8)
       go_meet
       exact⟨rfl,rfl,HG8⟩
      case rest =>
      obtain⟨rfl,rfl,HGC⟩:=hcut
      refine (show ∀ (a:Act) (w1:World),Code.wp (Pf fs) (behindN 9 body14) (bodyPost (Pf fs) Try.f14 fun e _=>e=.returned (.bool true)) a w1→_ from by assumption) _ _ ?_
      exact law14c (Lib.hid (HSA.out.grown HGC.out)) HE.out (Lib.hid (HKX.out.grown HGC.out)) (Lib.hid (zi HY.out.box HGC.out)) HRM.out (.inl ⟨hk,rfl,rfl⟩)
     | true =>
      have hch:=cheapest_bad (fs:=fs) K (some ⟨gb,go,none⟩) dA hA gc dc hc ms mA mc wr HSA.out.kt HSA.out.m S.out.ml S.out.asked hk
      unfold ktV at hch
      have HCH:=Lib.hid hch
      clear hch
      go_upto_region 18 with fail
      go_cut [11,12] (fun a b W=>a=.int .i64 0∧b=.int .i64 11∧Hid (Grown wr W))
      case first =>
       go_wp2_with (go_at_call 29;refine HCH.out.mono ?_;rintro e w8 ⟨rfl,g8⟩;have HG8:=Lib.hid g8;clear g8)
       go_meet
       exact⟨rfl,rfl,HG8⟩
      case rest =>
      obtain⟨rfl,rfl,HGC⟩:=hcut
      refine (show ∀ (a:Act) (w1:World),Code.wp (Pf fs) (behindN 9 body14) (bodyPost (Pf fs) Try.f14 fun e _=>e=.returned (.bool true)) a w1→_ from by assumption) _ _ ?_
      exact law14c (Lib.hid (HSA.out.grown HGC.out)) HE.out (Lib.hid (HKX.out.grown HGC.out)) (Lib.hid (zi HY.out.box HGC.out)) HRM.out (.inr ⟨hk,rfl,rfl⟩)
end
end
section
section
variable {fs:Array Func} [LikeS fs]
set_option maxRecDepth 20000 in
set_option maxHeartbeats 8000000 in
theorem law14 (ns:List Int) (A:Option Addr) (c:Nat) (w:World) (hx:Ints w A ns) (hl:ns.length≤9223372036854775807):Calls (Pf fs) 14 #[.slice A ns.length c] w fun e _=>e=.returned (.bool true):=by
 have HB:=Lib.hid (newBag_any (fs:=fs) A c ns w hx.toB hl)
 clear hx
 go_enter LK.func14,Try.ntmps14
 go_wp2_with (go_at_call 17;refine HB.out.mono ?_;rintro e w1 ⟨g,rfl,_,hb1,_⟩;clear HB)
 go_wp2_with (go_at_call 18;refine (kitchenOf_any g 3 12 5 w1 hb1 (by decide) (by decide) (by decide) (by decide) (by decide) (by decide)).mono ?_;rintro e w2 ⟨K,gA,gc,dA,dc,hA,hc,rfl,hK2,hkb2,h1,h2,h3,hcap⟩;have HC:=Lib.hid (dealt_valid h1 h2 h3 (by decide) (by decide) (by decide));have HK2:=Lib.hid hK2;have HB2:=Lib.hid hkb2.bag;have H1:=Lib.hid h1;have H2:=Lib.hid h2;have H3:=Lib.hid h3;have HCAP:=Lib.hid hcap;clear hb1 hK2 hkb2 h1 h2 h3 hcap;unfold ktV)
 have hbx:(w2.alloc (.cells #[.slice gA K.goods.length gc,.slice dA K.dishes.length dc,.slice hA K.hauls.length hc] 29)).heap[w2.heap.size]?=some (.cells #[.slice gA K.goods.length gc,.slice dA K.dishes.length dc,.slice hA K.hauls.length hc] 29 (0,0)):=heap_alloc_new w2 _
 have hS:(w2.alloc (.cells #[.slice gA K.goods.length gc,.slice dA K.dishes.length dc,.slice hA K.hauls.length hc] 29)).cell? ⟨w2.heap.size,0,none⟩=some (.slice gA K.goods.length gc)∧(w2.alloc (.cells #[.slice gA K.goods.length gc,.slice dA K.dishes.length dc,.slice hA K.hauls.length hc] 29)).cell? ⟨w2.heap.size,1,none⟩=some (.slice dA K.dishes.length dc)∧(w2.alloc (.cells #[.slice gA K.goods.length gc,.slice dA K.dishes.length dc,.slice hA K.hauls.length hc] 29)).cell? ⟨w2.heap.size,2,none⟩=some (.slice hA K.hauls.length hc):=⟨za hbx 0,za hbx 1,za hbx 2⟩
 have HBX:=Lib.hid hbx
 have HK3:=Lib.hid (show KtAt (w2.alloc (.cells #[.slice gA K.goods.length gc,.slice dA K.dishes.length dc,.slice hA K.hauls.length hc] 29)) K gA dA hA from HK2.out.grown (Grown.alloc w2 (.cells #[.slice gA K.goods.length gc,.slice dA K.dishes.length dc,.slice hA K.hauls.length hc] 29)))
 have HB3:=Lib.hid (HB2.out.alloc (.cells #[.slice gA K.goods.length gc,.slice dA K.dishes.length dc,.slice hA K.hauls.length hc] 29))
 have hne:=HB2.out.lt
 have hg1:=H1.out.1
 have hg3:=H1.out.2.1
 have hh1:=H3.out.1
 have hh5:=H3.out.2.1
 generalize hw3:(w2.alloc (.cells #[.slice gA K.goods.length gc,.slice dA K.dishes.length dc,.slice hA K.hauls.length hc] 29))=w3 at HBX HK3 HB3 hS
 have HW3:=Lib.hid hw3
 clear hw3 hbx HK2 HB2
 have HHS:=Lib.hid hS
 have key:∀ W,Kb g w3 W→W.cell? ⟨w2.heap.size,0,none⟩=some (.slice gA K.goods.length gc)∧W.cell? ⟨w2.heap.size,1,none⟩=some (.slice dA K.dishes.length dc)∧W.cell? ⟨w2.heap.size,2,none⟩=some (.slice hA K.hauls.length hc):=fun W k=>⟨k.cell HB3.out HHS.out.1 (by simp),k.cell HB3.out HHS.out.2.1 (by simp),k.cell HB3.out HHS.out.2.2 (by simp)⟩
 have KEY:=Lib.hid key
 clear key
 generalize hbxn:w2.heap.size=bx at *
 clear hbxn
 clear HW3 hS
 refine (menuOf_any g K gA dA hA gc dc hc w3 HB3.out (by have:=H2.out.1;omega) (by have:=H2.out.2.1;omega) (by omega)).mono ?_
 rintro e w4 ⟨mA,mc,ms,rfl,hm4,hkb4,hml4,hmt4,hmc4⟩
 have HKB5:=Lib.hid hkb4
 have HMS:=Lib.hid hm4
 have HML:=Lib.hid hml4
 have HMT:=Lib.hid hmt4
 have HMC:=Lib.hid hmc4
 clear hm4 hkb4 hml4 hmt4 hmc4
 go_upto_region 4 with fail
 have hS:=KEY.out w4 HKB5.out
 have HBS:=Lib.hid (HKB5.out.ke.block HBX.out (by omega))
 have HKS:=Lib.hid (HK3.out.kb HKB5.out HB3.out)
 obtain⟨a0,a1,a2⟩:=hS
 have HBGS:=Lib.hid HKB5.out.bag
 clear HKB5 HBX HK3 HB3 HHS KEY
 generalize w4=wS at *
 have hsi:=single_any (fs:=fs) K gA dA hA gc dc hc wS HKS.out
 by_cases hsing:K.dishes.length=1∧1<K.hauls.length
 ·rw[show (decide (K.dishes.length=1)&&decide (1<K.hauls.length))=true by simp[hsing]] at hsi
  have HSI:=Lib.hid hsi
  clear hsi hsing
  go_wp2_with (first|(go_at_call 21;refine HSI.out.mono ?_;rintro e w6 ⟨rfl,g6⟩)|(go_at_call 22;refine (served_any _).mono ?_;rintro e w7 ⟨rfl,g7⟩))
  go_ret
  rfl
 ·rw[show (decide (K.dishes.length=1)&&decide (1<K.hauls.length))=false by simp;omega] at hsi
  have HSI:=Lib.hid hsi
  have HA:=Lib.hid (asked_of HC.out (menuTo_zero HMT.out HML.out H2.out.1 hsing))
  have hml:ms.length≤1000:=by have:=HML.out;omega
  have hne5:bx≠g:=by omega
  obtain⟨gb,go,rfl,_⟩:=HKS.out.goods 0 _ (List.getElem?_eq_getElem (show 0<K.goods.length by omega))
  have HS:=Lib.hid (show Apart5 wS K ms (some ⟨gb,go,none⟩) dA hA mA gc dc hc bx from ⟨HKS.out,HMS.out,HBS.out,HC.out,HA.out,hml,⟨hg1,H2.out.1,hh1⟩,hg3,fun d hd=>(H2.out.2.2 d hd).1,fun x hx=>(H3.out.2.2 x hx).len⟩)
  clear hsi hsing
  go_upto_region 6 with (go_at_call 21;refine HSI.out.mono ?_;rintro e w6 ⟨rfl,g6⟩;have HG6:=Lib.hid g6;clear g6)
  clear a0 a1 a2
  have S6:=Lib.hid (HS.out.grown HG6.out)
  have HB6:=Lib.hid (HBGS.out.of_block (HG6.out.same g HBGS.out.lt))
  obtain⟨a0,a1,a2⟩:=S6.out.cells (Grown.refl _)
  have hcopy:=copyKitchen_any (fs:=fs) K (some ⟨gb,go,none⟩) dA hA gc dc hc w6 S6.out.kt
  unfold ktV at hcopy
  have HCOPY:=Lib.hid hcopy
  clear hcopy
  go_cut [6] (fun v W=>∃ (tb:Nat) (gA2:Option Addr) (gc2:Nat) (dA2:Option Addr) (dc2:Nat) (hA2:Option Addr) (hc2:Nat),v=.pointer (some ⟨tb,0,none⟩)∧Hid (EzAt w6 W K K g tb gA2 gc2 dA2 dc2 hA2 hc2))
  case first =>
   go_wp2_with (go_at_call 26;refine HCOPY.out.mono ?_;rintro e w7 ⟨gA2,gc2,dA2,dc2,hA2,hc2,rfl,hO7,hg7⟩;have HO7:=Lib.hid hO7;have HG7:=Lib.hid hg7;clear hO7 hg7)
   go_meet
   exact⟨_,gA2,gc2,dA2,dc2,hA2,hc2,rfl,Lib.hid ⟨HO7.out.grown (Grown.alloc _ _),heap_alloc_new w7 _,(Kb.refl HB6.out).grown (HG7.out.trans (Grown.alloc _ _)),HG7.out.size,HB6.out.lt⟩⟩
  case rest =>
  obtain⟨tb,gA2,gc2,dA2,dc2,hA2,hc2,rfl,HZ⟩:=hcut
  refine (show ∀ (a:Act) (w1:World),Code.wp (Pf fs) (behindN 6 body14) (bodyPost (Pf fs) Try.f14 fun e _=>e=.returned (.bool true)) a w1→_ from by assumption) _ _ ?_
  exact law14l S6 HZ H1.out.2.2 HB6 hne5
end
end
end Go.Gal
