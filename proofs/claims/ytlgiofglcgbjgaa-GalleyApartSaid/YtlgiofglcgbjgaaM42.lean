/- Walks: GalleyApart, where loads will do not (printed by lawapart.py bad). Walks: GalleyApart, where loads will do (printed by lawapart.py good). -/
import Derived.Test.YtlgiofglcgbjgaaM41
section
namespace Go.Gal
open Go Go.Par Go.Proofs Go.RowKit
noncomputable def body5:Code:=Try.f5.body.getD .skip
structure Apart5 (wS:World) (K:Kt) (ms:List Int) (gA dA hA mA:Option Addr) (gc dc hc bx:Nat):Prop where
 kt:KtAt wS K gA dA hA
 m:Ints wS mA ms
 box:wS.heap[bx]?=some (.cells #[.slice gA K.goods.length gc,.slice dA K.dishes.length dc,.slice hA K.hauls.length hc] 29 (0,0))
 valid:checkE K=0
 asked:askedE K ms=0
 ml:ms.length≤1000
 n : 1≤K.goods.length∧1≤K.dishes.length∧1≤K.hauls.length
 n3:K.goods.length≤3
 dlen:∀ d∈K.dishes,d.length=K.goods.length
 plen:∀ x∈K.hauls,x.prices.length=K.goods.length
theorem Apart5.cells {wS:World} {K:Kt} {ms:List Int} {gA dA hA mA:Option Addr} {gc dc hc bx:Nat} (s:Apart5 wS K ms gA dA hA mA gc dc hc bx) {W:World} (g:Grown wS W):W.cell? ⟨bx,0,none⟩=some (.slice gA K.goods.length gc)∧W.cell? ⟨bx,1,none⟩=some (.slice dA K.dishes.length dc)∧W.cell? ⟨bx,2,none⟩=some (.slice hA K.hauls.length hc):=⟨blk_cell (blk_grown s.box g) 0,blk_cell (blk_grown s.box g) 1,blk_cell (blk_grown s.box g) 2⟩
section
variable {fs:Array Func} [LikeS fs]
set_option maxRecDepth 100000 in
set_option maxHeartbeats 8000000 in
theorem law5b {wS:World} {K:Kt} {ms:List Int} {gA dA hA mA:Option Addr} {gc dc hc mc bx g:Nat} (S:Hid (Apart5 wS K ms gA dA hA mA gc dc hc bx)) {wc:World} (HGC:Hid (Grown wS wc)) (HN:noneB K ms=true) {u0 u1 u2 u9 u10 u11 u12 u13 u14 u15 u16 u17 u18 u19 u20 u21 u22 u23 u24 u25 u26 u27 u28 u29 u30 u31 u32 u33 u34 u35 u36 u37 u38 u39 u40 u41 u42 u43 u44 u45 u46 u47 u48 u49 u50 u51 u52 u53 u54 u55 u56 u57 u58 u59 u60 u61 u62 u63 u64 u65 u66 u67 u68 u69 u70 u71 u72 u73 u74 u75 u76 u77 u78 u79 u80 u81 u82 u83 u84 u85 u86 u87 u88 u89 u90 u91 u92 u93 u94 u95 u96 u97 u98 u99 u100 u101 u102 u103 u104 u105 u106 u107 u108 u109 u110 u111 u112 u113 u114 u115 u116 u117 u118 u119 u120 u121 u122 u123 u124 u125 u126 u127 u128 u129 u130 u131 u132 u133 u134 u135 u136 u137 u138 u139 u140 u141 u142 u143 u144 u145 u146 u147 u148 u149 u150 u151 u152 u153 u154 u155 u156 u157 u158 u159 u160 u161 u162 u163 u164 u165 u166 u167 u168 u169 u170 u171 u172 u173 u174 u175 u176 u177 u178 u179:Value} :
  Code.wp (Pf fs) (behindN 7 body5) (bodyPost (Pf fs) Try.f5 fun e _=>e=.returned (.bool true)) ⟨#[u0,u1,u2,.pointer (some ⟨g,0,none⟩),.pointer (some ⟨bx,0,none⟩),.slice mA ms.length mc,.slice none 0 0,.int .i64 0,.int .i64 11,u9,u10,u11,u12,u13,u14,u15,u16,u17,u18,u19,u20,u21,u22,u23,u24,u25,u26,u27,u28,u29,u30,u31,u32,u33,u34,u35,u36,u37,u38,u39,u40,u41,u42,u43,u44,u45,u46,u47,u48,u49,u50,u51,u52,u53,u54,u55,u56,u57,u58,u59,u60,u61,u62,u63,u64,u65,u66,u67,u68,u69,u70,u71,u72,u73,u74,u75,u76,u77,u78,u79,u80,u81,u82,u83,u84,u85,u86,u87,u88,u89,u90,u91,u92,u93,u94,u95,u96,u97,u98,u99,u100,u101,u102,u103,u104,u105,u106,u107,u108,u109,u110,u111,u112,u113,u114,u115,u116,u117,u118,u119,u120,u121,u122,u123,u124,u125,u126,u127,u128,u129,u130,u131,u132,u133,u134,u135,u136,u137,u138,u139,u140,u141,u142,u143,u144,u145,u146,u147,u148,u149,u150,u151,u152,u153,u154,u155,u156,u157,u158,u159,u160,u161,u162,u163,u164,u165,u166,u167,u168,u169,u170,u171,u172,u173,u174,u175,u176,u177,u178,u179],[]⟩ wc:=by
 conv=>arg 2;whnf
 go_wp2_with fail
 go_loopw [9,10,11] (fun s f i W=>∃ gi:Nat,i=.int .i64 gi∧gi≤K.goods.length∧s=.int .i64 (sumTo K ms gi)∧f=.bool (fineTo K ms gi)∧Hid (Grown wS W)) (fun _ _ i _=>K.goods.length-(intOf i).toNat)
 case atStart=>exact⟨0,rfl,Nat.zero_le _,rfl,rfl,HGC⟩
 case round =>
  obtain⟨gi,rfl,hgi,rfl,rfl,HGW⟩:=hrel
  obtain⟨a0,a1,a2⟩:=S.out.cells HGW.out
  by_cases hlt:gi<K.goods.length
  ·have i1:(gi:Int)<K.goods.length:=by omega
   have hcopy:=copyKitchen_any (fs:=fs) K gA dA hA gc dc hc wr (S.out.kt.grown HGW.out)
   unfold ktV at hcopy
   have HCOPY:=Lib.hid hcopy
   have hB:wS.heap.size≤wr.heap.size:=HGW.out.size
   have HB:=Lib.hid hB
   clear hcopy hB
   go_upto_region 14 with (go_at_call 26;refine HCOPY.out.mono ?_;rintro e w1 ⟨gA2,gc2,dA2,dc2,hA2,hc2,rfl,hO1,hg1⟩;obtain⟨gb,db,hb,nb,nc,pb,pc,rfl,rfl,rfl,q1,q2,q3,q4,q5,q6,q7⟩:=hO1.one S.out.n.1 S.out.n.2.1 S.out.n.2.2 S.out.dlen S.out.plen gi;have HG1:=Lib.hid (HGW.out.trans hg1);have HQ5:=Lib.hid q5;have HQ6:=Lib.hid q6;have HQ7:=Lib.hid q7;clear hO1 hg1 q5 q6 q7)
   have i2:IntKind.i64.wrap ((gi:Int)+1)=(gi:Int)+1:=wrap_of (by omega) (by omega) (by have:=S.out.n3;omega)
   have i3:(gi:Int)+1≤gc2:=by omega
   have i4:¬ gc2-gi=0:=by omega
   go_upto_region 15 with fail
   have hbx:(w1.alloc (.cells #[.slice (some ⟨gb,gi*4,none⟩) 1 (gc2-gi),.slice (some ⟨db,0,none⟩) K.dishes.length dc2,.slice (some ⟨hb,0,none⟩) K.hauls.length hc2] 29)).heap[w1.heap.size]?=some (.cells #[.slice (some ⟨gb,gi*4,none⟩) 1 (gc2-gi),.slice (some ⟨db,0,none⟩) K.dishes.length dc2,.slice (some ⟨hb,0,none⟩) K.hauls.length hc2] 29 (0,0)):=heap_alloc_new w1 _
   have HBX:=Lib.hid hbx
   have HGA:=Lib.hid (HG1.out.trans (Grown.alloc w1 (.cells #[.slice (some ⟨gb,gi*4,none⟩) 1 (gc2-gi),.slice (some ⟨db,0,none⟩) K.dishes.length dc2,.slice (some ⟨hb,0,none⟩) K.hauls.length hc2] 29)))
   have HF:=Lib.hid (HQ6.out.grown (Grown.alloc w1 (.cells #[.slice (some ⟨gb,gi*4,none⟩) 1 (gc2-gi),.slice (some ⟨db,0,none⟩) K.dishes.length dc2,.slice (some ⟨hb,0,none⟩) K.hauls.length hc2] 29)))
   have HJ:=Lib.hid (HQ7.out.refl_grown (Grown.alloc w1 (.cells #[.slice (some ⟨gb,gi*4,none⟩) 1 (gc2-gi),.slice (some ⟨db,0,none⟩) K.dishes.length dc2,.slice (some ⟨hb,0,none⟩) K.hauls.length hc2] 29)))
   have hGd:GdsAt (w1.alloc (.cells #[.slice (some ⟨gb,gi*4,none⟩) 1 (gc2-gi),.slice (some ⟨db,0,none⟩) K.dishes.length dc2,.slice (some ⟨hb,0,none⟩) K.hauls.length hc2] 29)) (some ⟨gb,0,none⟩) K.goods:=fun j x hx=>by
    obtain⟨b,o,e,e1,e2,e3,e4⟩:=HQ5.out j x hx
    have k:=Grown.alloc w1 (.cells #[.slice (some ⟨gb,gi*4,none⟩) 1 (gc2-gi),.slice (some ⟨db,0,none⟩) K.dishes.length dc2,.slice (some ⟨hb,0,none⟩) K.hauls.length hc2] 29)
    exact⟨b,o,e,k.cell e1,k.cell e2,k.cell e3,k.cell e4⟩
   have HGD:=Lib.hid hGd
   have hdlt:db<w1.heap.size:=by
    obtain⟨cur,z,_⟩:=HQ7.out.drow
    exact (Array.getElem?_eq_some_iff.1 z).1
   have hhlt:hb<w1.heap.size:=by
    obtain⟨cur,z,_⟩:=HQ7.out.hrow
    exact (Array.getElem?_eq_some_iff.1 z).1
   generalize w1.alloc (.cells #[.slice (some ⟨gb,gi*4,none⟩) 1 (gc2-gi),.slice (some ⟨db,0,none⟩) K.dishes.length dc2,.slice (some ⟨hb,0,none⟩) K.hauls.length hc2] 29)=w2 at hbx HBX HGA HF HJ HGD ⊢
   generalize w1.heap.size=tb at hbx HBX hdlt hhlt ⊢
   have HTD:=Lib.hid (show tb≠db∧tb≠hb from ⟨by omega,by omega⟩)
   have HNE:=Lib.hid (And.intro q3 q4)
   clear a0 a1 a2 hGd hdlt hhlt HQ5 HQ6 HQ7 HG1 hbx q1 q2 q3 q4
   have hle:∀ W n m,OneJ w2 W K gi db hb n m nb nc pb pc→Grown wS W:=fun W n m J=>⟨by rw[J.size];exact HGA.out.size,fun b hb'=>by
    have:=HF.out.bd
    have:=HB.out
    rw[J.same b (by omega) (by omega)]
    exact HGA.out.same b hb',J.os.trans HGA.out.os⟩
   have HLE:=Lib.hid hle
   clear hle
   go_wp2_with fail
   go_loopw [13] (fun i W=>∃ n:Nat,i=.int .i64 n∧n≤K.dishes.length∧Hid (OneJ w2 W K gi db hb n 0 nb nc pb pc)) (fun i _=>K.dishes.length-(intOf i).toNat)
   case atStart=>exact⟨0,rfl,Nat.zero_le _,HJ⟩
   case round =>
    obtain⟨n,rfl,hn,HJ1⟩:=hrel
    clear HJ
    have hbx:=HJ1.out.keeps HTD.out.1 HTD.out.2 HBX.out
    have b0:=blk_cell hbx 0
    have b1:=blk_cell hbx 1
    have b2:=blk_cell hbx 2
    simp only[List.getElem?_toArray,List.getElem?_cons_zero,List.getElem?_cons_succ] at b0 b1 b2
    clear hbx
    by_cases hnl:n<K.dishes.length
    ·have i5:(n:Int)<K.dishes.length:=by omega
     have hnd:=S.out.kt.nd
     obtain⟨c1,c2,hJ2⟩:=HJ1.out.dish HF.out hnl
     obtain⟨_,_,_,hcap⟩:=HF.out.dish n _ (List.getElem?_eq_getElem hnl)
     have i6:(gi:Int)+1≤nc n:=by omega
     have i7:¬ nc n=gi:=by omega
     have HJ2:=Lib.hid hJ2
     clear hJ2 hcap
     generalize nc n=ncn at c1 i6 i7 HJ2
     generalize nb n=nbn at c1 HJ2
     go_wp2_with fail
     have hS:wr.drew.cell? ⟨tb,1,none⟩=some (.slice (some ⟨db,0,none⟩) K.dishes.length dc2)∧wr.drew.cell? ⟨db,n,none⟩=some (.slice (some ⟨nbn,0,none⟩) K.goods.length ncn):=⟨b1,c1⟩
     have HC2:=Lib.hid c2
     clear b0 b1 b2 c1 c2
     refine wp_region_L (by kernel_rfl) (fun W=>W.cell? ⟨tb,1,none⟩=some (.slice (some ⟨db,0,none⟩) K.dishes.length dc2)∧W.cell? ⟨db,n,none⟩=some (.slice (some ⟨nbn,0,none⟩) K.goods.length ncn)) [15] ?_
     refine wpAnyL_p 0 ?_ rfl ?_ ?_;case refine_2=>(intro w _;go_simp;try rfl)
     refine wpAnyL_t 1 ?_ rfl hS ?_ ?_;case refine_2=>(intro w hSw;(try dsimp only at hSw);go_simp;try rfl)
     refine wpAnyL_p 2 ?_ rfl ?_ ?_;case refine_2=>(intro w _;go_simp;try rfl)
     refine wpAnyL_p 3 ?_ rfl ?_ ?_;case refine_2=>(intro w _;go_simp;try rfl)
     refine wpAnyL_t 4 ?_ rfl hS ?_ ?_;case refine_2=>(intro w hSw;(try dsimp only at hSw);go_simp;try rfl)
     refine wpAnyL_p 5 ?_ rfl ?_ ?_;case refine_2=>(intro w _;go_simp;try rfl)
     refine wpAnyL_p 6 ?_ rfl ?_ ?_;case refine_2=>(intro w _;go_simp;try rfl)
     refine wpAnyL_p 7 ?_ rfl ?_ ?_;case refine_2=>(intro w _;go_simp;try rfl)
     refine wpAnyL_t 8 ?_ rfl hS ?_ ?_;case refine_2=>(intro w hSw;(try dsimp only at hSw);go_simp;try rfl)
     refine wpAnyL_p 9 ?_ rfl ?_ ?_;case refine_2=>(intro w _;go_simp;try rfl)
     refine wpAnyL_p 10 ?_ rfl ?_ ?_;case refine_2=>(intro w _;go_simp;try rfl)
     refine wpAnyL_p 11 ?_ rfl ?_ ?_;case refine_2=>(intro w _;go_simp;try rfl)
     refine wpAnyL_p 12 ?_ rfl ?_ ?_;case refine_2=>(intro w _;go_simp;try rfl)
     refine wpAnyL_p 13 ?_ rfl ?_ ?_;case refine_2=>(intro w _;go_simp;try rfl)
     refine wpAnyL_p 14 ?_ rfl ?_ ?_;case refine_2=>(intro w _;go_simp;try rfl)
     have c2:=HC2.out
     obtain⟨s1,s2⟩:=hS
     refine wpAnyL_late (i:=15) rfl (by kernel_rfl) (by rfl) ?_
     intro Kq hKq
     go_simp
     refine hKq.out _ _ ?_
     clear hKq Kq
     refine wpAnyL_done (by kernel_rfl) ?_
     try simp only[Act.put,List.getElem_toArray,List.getElem_cons_succ,List.getElem_cons_zero,List.setIfInBounds_toArray,List.set_cons_zero,List.set_cons_succ]
     go_wp2_with fail
     go_roundw
     case rel=>exact⟨n+1,by go_num,by omega,Lib.hid (HJ2.out.drewN 1)⟩
     case measure=>simp[intOf];omega
    ·have i5:¬ (n:Int)<K.dishes.length:=by omega
     obtain rfl:n=K.dishes.length:=by omega
     clear hn
     go_wp2_with fail
     go_loopw [14] (fun i W=>∃ m:Nat,i=.int .i64 m∧m≤K.hauls.length∧Hid (OneJ w2 W K gi db hb K.dishes.length m nb nc pb pc)) (fun i _=>K.hauls.length-(intOf i).toNat)
     case atStart=>exact⟨0,rfl,Nat.zero_le _,HJ1⟩
     case round =>
      obtain⟨m,rfl,hm,HJ2⟩:=hrel
      clear HJ1 b0 b1 b2
      have hbx:=HJ2.out.keeps HTD.out.1 HTD.out.2 HBX.out
      have b0:=blk_cell hbx 0
      have b1:=blk_cell hbx 1
      have b2:=blk_cell hbx 2
      simp only[List.getElem?_toArray,List.getElem?_cons_zero,List.getElem?_cons_succ] at b0 b1 b2
      clear hbx
      by_cases hml:m<K.hauls.length
      ·have i6:(m:Int)<K.hauls.length:=by omega
       have hnh:=S.out.kt.nh
       obtain⟨c1,c2,hJ3⟩:=HJ2.out.haul HF.out hml
       obtain⟨_,_,_,hcap⟩:=HF.out.haul m _ (List.getElem?_eq_getElem hml)
       have i7:(gi:Int)+1≤pc m:=by omega
       have i8:¬ pc m=gi:=by omega
       have HJ3:=Lib.hid hJ3
       clear hJ3 hcap
       generalize pc m=ncn at c1 i7 i8 HJ3
       generalize pb m=nbn at c1 HJ3
       go_wp2_with fail
       have hS:wr.drew.cell? ⟨tb,2,none⟩=some (.slice (some ⟨hb,0,none⟩) K.hauls.length hc2)∧wr.drew.cell? ⟨hb,m*3+2,none⟩=some (.slice (some ⟨nbn,0,none⟩) K.goods.length ncn):=⟨b2,c1⟩
       have HC2:=Lib.hid c2
       clear b0 b1 b2 c1 c2
       refine wp_region_L (by kernel_rfl) (fun W=>W.cell? ⟨tb,2,none⟩=some (.slice (some ⟨hb,0,none⟩) K.hauls.length hc2)∧W.cell? ⟨hb,m*3+2,none⟩=some (.slice (some ⟨nbn,0,none⟩) K.goods.length ncn)) [15] ?_
       refine wpAnyL_p 0 ?_ rfl ?_ ?_;case refine_2=>(intro w _;go_simp;try rfl)
       refine wpAnyL_t 1 ?_ rfl hS ?_ ?_;case refine_2=>(intro w hSw;(try dsimp only at hSw);go_simp;try rfl)
       refine wpAnyL_p 2 ?_ rfl ?_ ?_;case refine_2=>(intro w _;go_simp;try rfl)
       refine wpAnyL_p 3 ?_ rfl ?_ ?_;case refine_2=>(intro w _;go_simp;try rfl)
       refine wpAnyL_t 4 ?_ rfl hS ?_ ?_;case refine_2=>(intro w hSw;(try dsimp only at hSw);go_simp;try rfl)
       refine wpAnyL_p 5 ?_ rfl ?_ ?_;case refine_2=>(intro w _;go_simp;try rfl)
       refine wpAnyL_p 6 ?_ rfl ?_ ?_;case refine_2=>(intro w _;go_simp;try rfl)
       refine wpAnyL_p 7 ?_ rfl ?_ ?_;case refine_2=>(intro w _;go_simp;try rfl)
       refine wpAnyL_t 8 ?_ rfl hS ?_ ?_;case refine_2=>(intro w hSw;(try dsimp only at hSw);go_simp;try rfl)
       refine wpAnyL_p 9 ?_ rfl ?_ ?_;case refine_2=>(intro w _;go_simp;try rfl)
       refine wpAnyL_p 10 ?_ rfl ?_ ?_;case refine_2=>(intro w _;go_simp;try rfl)
       refine wpAnyL_p 11 ?_ rfl ?_ ?_;case refine_2=>(intro w _;go_simp;try rfl)
       refine wpAnyL_p 12 ?_ rfl ?_ ?_;case refine_2=>(intro w _;go_simp;try rfl)
       refine wpAnyL_p 13 ?_ rfl ?_ ?_;case refine_2=>(intro w _;go_simp;try rfl)
       refine wpAnyL_p 14 ?_ rfl ?_ ?_;case refine_2=>(intro w _;go_simp;try rfl)
       have c2:=HC2.out
       obtain⟨s1,s2⟩:=hS
       refine wpAnyL_late (i:=15) rfl (by kernel_rfl) (by rfl) ?_
       intro Kq hKq
       go_simp
       refine hKq.out _ _ ?_
       clear hKq Kq
       refine wpAnyL_done (by kernel_rfl) ?_
       try simp only[Act.put,List.getElem_toArray,List.getElem_cons_succ,List.getElem_cons_zero,List.setIfInBounds_toArray,List.set_cons_zero,List.set_cons_succ]
       go_wp2_with fail
       go_roundw
       case rel=>exact⟨m+1,by go_num,by omega,Lib.hid (HJ3.out.drewN 1)⟩
       case measure=>simp[intOf];omega
      ·have i6:¬ (m:Int)<K.hauls.length:=by omega
       obtain rfl:m=K.hauls.length:=by omega
       clear hm
       have HKT:=Lib.hid (HJ2.out.kt HF.out HGD.out HNE.out.1 HNE.out.2 hlt S.out.dlen S.out.plen S.out.kt.nd S.out.kt.nh)
       have HGW2:=Lib.hid (HLE.out _ _ _ HJ2.out)
       have hoa:=oneK_asked (g:=gi) S.out.asked hlt
       have HOA:=Lib.hid hoa
       clear hoa
       obtain⟨c0,c1,c2⟩:=S.out.cells HGW2.out
       have hs1:sumTo K ms gi≤2*(5*65025):=Nat.le_trans (sumTo_le (xs:=ms) S.out.valid hgi) (Nat.mul_le_mul_right _ (by have:=S.out.n3;omega))
       have hcost:=oneG_cost (xs:=ms) S.out.valid hlt
       have HIM:=Lib.hid (S.out.m.grown HGW2.out)
       cases hpn:(planOf (oneG K ms gi)).2.2 with
       | true =>
        cases hf:fineTo K ms gi with
        | true =>
         have HOB:=Lib.hid (one_bad (fs:=fs) K gi _ _ _ (gc2-gi) dc2 hc2 ms mA mc wr HKT.out HIM.out S.out.ml S.out.asked hlt hpn)
         have HES:=Lib.hid (show sumTo K ms (gi+1)=sumTo K ms gi∧fineTo K ms (gi+1)=false from ⟨by show sumTo K ms gi+_=_;rw[if_pos hpn];rfl,by show (fineTo K ms gi&&_)=_;rw[hpn];simp⟩)
         have hw0:IntKind.i64.wrap ((sumTo K ms gi:Nat):Int)=((sumTo K ms gi:Nat):Int):=wrap_of rfl (by omega) (by omega)
         clear hpn hs1 hcost
         go_wp2_with (go_at_call 29;refine HOB.out.mono ?_;rintro e w5 ⟨rfl,g5⟩;have HG5:=Lib.hid (HGW2.out.trans g5);clear g5)
         go_loopw [18] (fun i W=>i=.int .i64 0∧Hid (Grown wS W)) (fun _ _=>0)
         case atStart=>exact⟨rfl,HG5⟩
         case round =>
          obtain⟨rfl,HGX⟩:=hrel
          obtain⟨d0,d1,d2⟩:=S.out.cells HGX.out
          go_wp2_with fail
          go_roundw
          case rel=>exact⟨gi+1,by go_num,by omega,by rw[HES.out.1],by rw[HES.out.2],HGX⟩
          case measure=>simp[intOf];omega
        | false =>
         have HOB:=Lib.hid (one_bad (fs:=fs) K gi _ _ _ (gc2-gi) dc2 hc2 ms mA mc wr HKT.out HIM.out S.out.ml S.out.asked hlt hpn)
         have HES:=Lib.hid (show sumTo K ms (gi+1)=sumTo K ms gi∧fineTo K ms (gi+1)=false from ⟨by show sumTo K ms gi+_=_;rw[if_pos hpn];rfl,by show (fineTo K ms gi&&_)=_;rw[hpn];simp⟩)
         have hw0:IntKind.i64.wrap ((sumTo K ms gi:Nat):Int)=((sumTo K ms gi:Nat):Int):=wrap_of rfl (by omega) (by omega)
         clear hpn hs1 hcost
         go_wp2_with (go_at_call 29;refine HOB.out.mono ?_;rintro e w5 ⟨rfl,g5⟩;have HG5:=Lib.hid (HGW2.out.trans g5);clear g5)
         go_loopw [18] (fun i W=>i=.int .i64 0∧Hid (Grown wS W)) (fun _ _=>0)
         case atStart=>exact⟨rfl,HG5⟩
         case round =>
          obtain⟨rfl,HGX⟩:=hrel
          obtain⟨d0,d1,d2⟩:=S.out.cells HGX.out
          go_wp2_with fail
          go_roundw
          case rel=>exact⟨gi+1,by go_num,by omega,by rw[HES.out.1],by rw[HES.out.2],HGX⟩
          case measure=>simp[intOf];omega
       | false =>
        cases hf:fineTo K ms gi with
        | true =>
         have HOG:=Lib.hid (one_good (fs:=fs) K gi _ _ _ (gc2-gi) dc2 hc2 ms mA mc wr HKT.out HIM.out S.out.ml S.out.asked hlt hpn)
         have HBX2:=Lib.hid (HJ2.out.keeps HTD.out.1 HTD.out.2 HBX.out)
         have HES:=Lib.hid (show sumTo K ms (gi+1)=sumTo K ms gi+(planOf (oneG K ms gi)).2.1∧fineTo K ms (gi+1)=fineTo K ms gi from ⟨by show sumTo K ms gi+_=_;rw[if_neg (by simp[hpn])],by show (fineTo K ms gi&&_)=_;rw[hpn];simp⟩)
         have hw0:IntKind.i64.wrap (((sumTo K ms gi:Nat):Int)+(((planOf (oneG K ms gi)).2.1:Nat):Int))=((sumTo K ms gi+(planOf (oneG K ms gi)).2.1:Nat):Int):=wrap_of (by omega) (by omega) (by omega)
         generalize hcq:(planOf (oneG K ms gi)).2.1=cq at HOG HES hw0 hcost
         generalize hsq:sumTo K ms gi=sq at HES hw0 hs1 ⊢
         obtain⟨sv,hsv⟩:∃ sv,sv=sq+cq:=⟨_,rfl⟩
         rw[← hsv] at hw0 HES
         clear hpn hs1 hcost hcq hsv
         go_upto_region 28 with (first|(go_at_call 29;refine HOG.out.mono ?_;rintro e w5 ⟨M2,rfl,g5,hd5⟩;have HG5:=Lib.hid (HGW2.out.trans g5);have HD5:=Lib.hid hd5;have b5:=blk_cell (blk_grown HBX2.out g5) 0;have b6:=blk_cell (blk_grown HBX2.out g5) 1;have b7:=blk_cell (blk_grown HBX2.out g5) 2;simp only[List.getElem?_toArray,List.getElem?_cons_zero,List.getElem?_cons_succ] at b5 b6 b7;clear g5 hd5)|(go_at_call 31;refine (shaped_one (fs:=fs) K gi ms _ _ _ (gc2-gi) dc2 hc2 _ _ w5 HD5.out S.out.kt.nh).mono ?_;rintro e w6 ⟨rfl,g6⟩;have HG6:=Lib.hid (HG5.out.trans g6);have HD6:=Lib.hid (HD5.out.grown g6);clear g6))
         go_wp2_with fail
         go_loopw [18] (fun i W=>i=.int .i64 0∧Hid (Grown wS W)) (fun _ _=>0)
         case atStart=>exact⟨rfl,HG6⟩
         case round =>
          obtain⟨rfl,HGX⟩:=hrel
          obtain⟨d0,d1,d2⟩:=S.out.cells HGX.out
          go_wp2_with fail
          go_roundw
          case rel=>exact⟨gi+1,by go_num,by omega,by rw[HES.out.1],by rw[HES.out.2,hf],HGX⟩
          case measure=>simp[intOf];omega
        | false =>
         have HOG:=Lib.hid (one_good (fs:=fs) K gi _ _ _ (gc2-gi) dc2 hc2 ms mA mc wr HKT.out HIM.out S.out.ml S.out.asked hlt hpn)
         have HBX2:=Lib.hid (HJ2.out.keeps HTD.out.1 HTD.out.2 HBX.out)
         have HES:=Lib.hid (show sumTo K ms (gi+1)=sumTo K ms gi+(planOf (oneG K ms gi)).2.1∧fineTo K ms (gi+1)=fineTo K ms gi from ⟨by show sumTo K ms gi+_=_;rw[if_neg (by simp[hpn])],by show (fineTo K ms gi&&_)=_;rw[hpn];simp⟩)
         have hw0:IntKind.i64.wrap (((sumTo K ms gi:Nat):Int)+(((planOf (oneG K ms gi)).2.1:Nat):Int))=((sumTo K ms gi+(planOf (oneG K ms gi)).2.1:Nat):Int):=wrap_of (by omega) (by omega) (by omega)
         generalize hcq:(planOf (oneG K ms gi)).2.1=cq at HOG HES hw0 hcost
         generalize hsq:sumTo K ms gi=sq at HES hw0 hs1 ⊢
         obtain⟨sv,hsv⟩:∃ sv,sv=sq+cq:=⟨_,rfl⟩
         rw[← hsv] at hw0 HES
         clear hpn hs1 hcost hcq hsv
         go_upto_region 28 with (first|(go_at_call 29;refine HOG.out.mono ?_;rintro e w5 ⟨M2,rfl,g5,hd5⟩;have HG5:=Lib.hid (HGW2.out.trans g5);have HD5:=Lib.hid hd5;have b5:=blk_cell (blk_grown HBX2.out g5) 0;have b6:=blk_cell (blk_grown HBX2.out g5) 1;have b7:=blk_cell (blk_grown HBX2.out g5) 2;simp only[List.getElem?_toArray,List.getElem?_cons_zero,List.getElem?_cons_succ] at b5 b6 b7;clear g5 hd5)|(go_at_call 31;refine (shaped_one (fs:=fs) K gi ms _ _ _ (gc2-gi) dc2 hc2 _ _ w5 HD5.out S.out.kt.nh).mono ?_;rintro e w6 ⟨rfl,g6⟩;have HG6:=Lib.hid (HG5.out.trans g6);have HD6:=Lib.hid (HD5.out.grown g6);clear g6))
         go_wp2_with fail
         go_loopw [18] (fun i W=>i=.int .i64 0∧Hid (Grown wS W)) (fun _ _=>0)
         case atStart=>exact⟨rfl,HG6⟩
         case round =>
          obtain⟨rfl,HGX⟩:=hrel
          obtain⟨d0,d1,d2⟩:=S.out.cells HGX.out
          go_wp2_with fail
          go_roundw
          case rel=>exact⟨gi+1,by go_num,by omega,by rw[HES.out.1],by rw[HES.out.2,hf],HGX⟩
          case measure=>simp[intOf];omega
  ·have i1:¬ (gi:Int)<K.goods.length:=by omega
   obtain rfl:gi=K.goods.length:=by omega
   clear hgi
   rw[show fineTo K ms K.goods.length=false by rw[fineTo_all,HN];rfl]
   go_wp2_with (go_at_call 22;refine (served_any _).mono ?_;rintro e w9 ⟨rfl,g9⟩)
   go_ret
   rfl
end
end Go.Gal
end
section
namespace Go.Gal
open Go Go.Par Go.Proofs Go.RowKit
section
variable {fs:Array Func} [LikeS fs]
set_option maxRecDepth 100000 in
set_option maxHeartbeats 8000000 in
theorem law5g {wS:World} {K:Kt} {ms:List Int} {gA dA hA mA:Option Addr} {gc dc hc mc bx g:Nat} (S:Hid (Apart5 wS K ms gA dA hA mA gc dc hc bx)) {wc:World} (HGC:Hid (Grown wS wc)) (HN:noneB K ms=false) {M:Nat} (HM:Hid (DishesAt wS (some ⟨M,0,none⟩) (rowsOf K ms))) {u0 u1 u2 u9 u10 u11 u12 u13 u14 u15 u16 u17 u18 u19 u20 u21 u22 u23 u24 u25 u26 u27 u28 u29 u30 u31 u32 u33 u34 u35 u36 u37 u38 u39 u40 u41 u42 u43 u44 u45 u46 u47 u48 u49 u50 u51 u52 u53 u54 u55 u56 u57 u58 u59 u60 u61 u62 u63 u64 u65 u66 u67 u68 u69 u70 u71 u72 u73 u74 u75 u76 u77 u78 u79 u80 u81 u82 u83 u84 u85 u86 u87 u88 u89 u90 u91 u92 u93 u94 u95 u96 u97 u98 u99 u100 u101 u102 u103 u104 u105 u106 u107 u108 u109 u110 u111 u112 u113 u114 u115 u116 u117 u118 u119 u120 u121 u122 u123 u124 u125 u126 u127 u128 u129 u130 u131 u132 u133 u134 u135 u136 u137 u138 u139 u140 u141 u142 u143 u144 u145 u146 u147 u148 u149 u150 u151 u152 u153 u154 u155 u156 u157 u158 u159 u160 u161 u162 u163 u164 u165 u166 u167 u168 u169 u170 u171 u172 u173 u174 u175 u176 u177 u178 u179:Value} :
  Code.wp (Pf fs) (behindN 7 body5) (bodyPost (Pf fs) Try.f5 fun e _=>e=.returned (.bool true)) ⟨#[u0,u1,u2,.pointer (some ⟨g,0,none⟩),.pointer (some ⟨bx,0,none⟩),.slice mA ms.length mc,.slice (some ⟨M,0,none⟩) K.hauls.length K.hauls.length,.int .i64 (costOf K ms),.int .i64 0,u9,u10,u11,u12,u13,u14,u15,u16,u17,u18,u19,u20,u21,u22,u23,u24,u25,u26,u27,u28,u29,u30,u31,u32,u33,u34,u35,u36,u37,u38,u39,u40,u41,u42,u43,u44,u45,u46,u47,u48,u49,u50,u51,u52,u53,u54,u55,u56,u57,u58,u59,u60,u61,u62,u63,u64,u65,u66,u67,u68,u69,u70,u71,u72,u73,u74,u75,u76,u77,u78,u79,u80,u81,u82,u83,u84,u85,u86,u87,u88,u89,u90,u91,u92,u93,u94,u95,u96,u97,u98,u99,u100,u101,u102,u103,u104,u105,u106,u107,u108,u109,u110,u111,u112,u113,u114,u115,u116,u117,u118,u119,u120,u121,u122,u123,u124,u125,u126,u127,u128,u129,u130,u131,u132,u133,u134,u135,u136,u137,u138,u139,u140,u141,u142,u143,u144,u145,u146,u147,u148,u149,u150,u151,u152,u153,u154,u155,u156,u157,u158,u159,u160,u161,u162,u163,u164,u165,u166,u167,u168,u169,u170,u171,u172,u173,u174,u175,u176,u177,u178,u179],[]⟩ wc:=by
 conv=>arg 2;whnf
 go_wp2_with fail
 go_loopw [9,10,11] (fun s f i W=>∃ gi:Nat,i=.int .i64 gi∧gi≤K.goods.length∧s=.int .i64 (sumTo K ms gi)∧f=.bool (fineTo K ms gi)∧Hid (Grown wS W)) (fun _ _ i _=>K.goods.length-(intOf i).toNat)
 case atStart=>exact⟨0,rfl,Nat.zero_le _,rfl,rfl,HGC⟩
 case round =>
  obtain⟨gi,rfl,hgi,rfl,rfl,HGW⟩:=hrel
  obtain⟨a0,a1,a2⟩:=S.out.cells HGW.out
  by_cases hlt:gi<K.goods.length
  ·have i1:(gi:Int)<K.goods.length:=by omega
   have hcopy:=copyKitchen_any (fs:=fs) K gA dA hA gc dc hc wr (S.out.kt.grown HGW.out)
   unfold ktV at hcopy
   have HCOPY:=Lib.hid hcopy
   have hB:wS.heap.size≤wr.heap.size:=HGW.out.size
   have HB:=Lib.hid hB
   clear hcopy hB
   go_upto_region 14 with (go_at_call 26;refine HCOPY.out.mono ?_;rintro e w1 ⟨gA2,gc2,dA2,dc2,hA2,hc2,rfl,hO1,hg1⟩;obtain⟨gb,db,hb,nb,nc,pb,pc,rfl,rfl,rfl,q1,q2,q3,q4,q5,q6,q7⟩:=hO1.one S.out.n.1 S.out.n.2.1 S.out.n.2.2 S.out.dlen S.out.plen gi;have HG1:=Lib.hid (HGW.out.trans hg1);have HQ5:=Lib.hid q5;have HQ6:=Lib.hid q6;have HQ7:=Lib.hid q7;clear hO1 hg1 q5 q6 q7)
   have i2:IntKind.i64.wrap ((gi:Int)+1)=(gi:Int)+1:=wrap_of (by omega) (by omega) (by have:=S.out.n3;omega)
   have i3:(gi:Int)+1≤gc2:=by omega
   have i4:¬ gc2-gi=0:=by omega
   go_upto_region 15 with fail
   have hbx:(w1.alloc (.cells #[.slice (some ⟨gb,gi*4,none⟩) 1 (gc2-gi),.slice (some ⟨db,0,none⟩) K.dishes.length dc2,.slice (some ⟨hb,0,none⟩) K.hauls.length hc2] 29)).heap[w1.heap.size]?=some (.cells #[.slice (some ⟨gb,gi*4,none⟩) 1 (gc2-gi),.slice (some ⟨db,0,none⟩) K.dishes.length dc2,.slice (some ⟨hb,0,none⟩) K.hauls.length hc2] 29 (0,0)):=heap_alloc_new w1 _
   have HBX:=Lib.hid hbx
   have HGA:=Lib.hid (HG1.out.trans (Grown.alloc w1 (.cells #[.slice (some ⟨gb,gi*4,none⟩) 1 (gc2-gi),.slice (some ⟨db,0,none⟩) K.dishes.length dc2,.slice (some ⟨hb,0,none⟩) K.hauls.length hc2] 29)))
   have HF:=Lib.hid (HQ6.out.grown (Grown.alloc w1 (.cells #[.slice (some ⟨gb,gi*4,none⟩) 1 (gc2-gi),.slice (some ⟨db,0,none⟩) K.dishes.length dc2,.slice (some ⟨hb,0,none⟩) K.hauls.length hc2] 29)))
   have HJ:=Lib.hid (HQ7.out.refl_grown (Grown.alloc w1 (.cells #[.slice (some ⟨gb,gi*4,none⟩) 1 (gc2-gi),.slice (some ⟨db,0,none⟩) K.dishes.length dc2,.slice (some ⟨hb,0,none⟩) K.hauls.length hc2] 29)))
   have hGd:GdsAt (w1.alloc (.cells #[.slice (some ⟨gb,gi*4,none⟩) 1 (gc2-gi),.slice (some ⟨db,0,none⟩) K.dishes.length dc2,.slice (some ⟨hb,0,none⟩) K.hauls.length hc2] 29)) (some ⟨gb,0,none⟩) K.goods:=fun j x hx=>by
    obtain⟨b,o,e,e1,e2,e3,e4⟩:=HQ5.out j x hx
    have k:=Grown.alloc w1 (.cells #[.slice (some ⟨gb,gi*4,none⟩) 1 (gc2-gi),.slice (some ⟨db,0,none⟩) K.dishes.length dc2,.slice (some ⟨hb,0,none⟩) K.hauls.length hc2] 29)
    exact⟨b,o,e,k.cell e1,k.cell e2,k.cell e3,k.cell e4⟩
   have HGD:=Lib.hid hGd
   have hdlt:db<w1.heap.size:=by
    obtain⟨cur,z,_⟩:=HQ7.out.drow
    exact (Array.getElem?_eq_some_iff.1 z).1
   have hhlt:hb<w1.heap.size:=by
    obtain⟨cur,z,_⟩:=HQ7.out.hrow
    exact (Array.getElem?_eq_some_iff.1 z).1
   generalize w1.alloc (.cells #[.slice (some ⟨gb,gi*4,none⟩) 1 (gc2-gi),.slice (some ⟨db,0,none⟩) K.dishes.length dc2,.slice (some ⟨hb,0,none⟩) K.hauls.length hc2] 29)=w2 at hbx HBX HGA HF HJ HGD ⊢
   generalize w1.heap.size=tb at hbx HBX hdlt hhlt ⊢
   have HTD:=Lib.hid (show tb≠db∧tb≠hb from ⟨by omega,by omega⟩)
   have HNE:=Lib.hid (And.intro q3 q4)
   clear a0 a1 a2 hGd hdlt hhlt HQ5 HQ6 HQ7 HG1 hbx q1 q2 q3 q4
   have hle:∀ W n m,OneJ w2 W K gi db hb n m nb nc pb pc→Grown wS W:=fun W n m J=>⟨by rw[J.size];exact HGA.out.size,fun b hb'=>by
    have:=HF.out.bd
    have:=HB.out
    rw[J.same b (by omega) (by omega)]
    exact HGA.out.same b hb',J.os.trans HGA.out.os⟩
   have HLE:=Lib.hid hle
   clear hle
   go_wp2_with fail
   go_loopw [13] (fun i W=>∃ n:Nat,i=.int .i64 n∧n≤K.dishes.length∧Hid (OneJ w2 W K gi db hb n 0 nb nc pb pc)) (fun i _=>K.dishes.length-(intOf i).toNat)
   case atStart=>exact⟨0,rfl,Nat.zero_le _,HJ⟩
   case round =>
    obtain⟨n,rfl,hn,HJ1⟩:=hrel
    clear HJ
    have hbx:=HJ1.out.keeps HTD.out.1 HTD.out.2 HBX.out
    have b0:=blk_cell hbx 0
    have b1:=blk_cell hbx 1
    have b2:=blk_cell hbx 2
    simp only[List.getElem?_toArray,List.getElem?_cons_zero,List.getElem?_cons_succ] at b0 b1 b2
    clear hbx
    by_cases hnl:n<K.dishes.length
    ·have i5:(n:Int)<K.dishes.length:=by omega
     have hnd:=S.out.kt.nd
     obtain⟨c1,c2,hJ2⟩:=HJ1.out.dish HF.out hnl
     obtain⟨_,_,_,hcap⟩:=HF.out.dish n _ (List.getElem?_eq_getElem hnl)
     have i6:(gi:Int)+1≤nc n:=by omega
     have i7:¬ nc n=gi:=by omega
     have HJ2:=Lib.hid hJ2
     clear hJ2 hcap
     generalize nc n=ncn at c1 i6 i7 HJ2
     generalize nb n=nbn at c1 HJ2
     go_wp2_with fail
     have hS:wr.drew.cell? ⟨tb,1,none⟩=some (.slice (some ⟨db,0,none⟩) K.dishes.length dc2)∧wr.drew.cell? ⟨db,n,none⟩=some (.slice (some ⟨nbn,0,none⟩) K.goods.length ncn):=⟨b1,c1⟩
     have HC2:=Lib.hid c2
     clear b0 b1 b2 c1 c2
     refine wp_region_L (by kernel_rfl) (fun W=>W.cell? ⟨tb,1,none⟩=some (.slice (some ⟨db,0,none⟩) K.dishes.length dc2)∧W.cell? ⟨db,n,none⟩=some (.slice (some ⟨nbn,0,none⟩) K.goods.length ncn)) [15] ?_
     refine wpAnyL_p 0 ?_ rfl ?_ ?_;case refine_2=>(intro w _;go_simp;try rfl)
     refine wpAnyL_t 1 ?_ rfl hS ?_ ?_;case refine_2=>(intro w hSw;(try dsimp only at hSw);go_simp;try rfl)
     refine wpAnyL_p 2 ?_ rfl ?_ ?_;case refine_2=>(intro w _;go_simp;try rfl)
     refine wpAnyL_p 3 ?_ rfl ?_ ?_;case refine_2=>(intro w _;go_simp;try rfl)
     refine wpAnyL_t 4 ?_ rfl hS ?_ ?_;case refine_2=>(intro w hSw;(try dsimp only at hSw);go_simp;try rfl)
     refine wpAnyL_p 5 ?_ rfl ?_ ?_;case refine_2=>(intro w _;go_simp;try rfl)
     refine wpAnyL_p 6 ?_ rfl ?_ ?_;case refine_2=>(intro w _;go_simp;try rfl)
     refine wpAnyL_p 7 ?_ rfl ?_ ?_;case refine_2=>(intro w _;go_simp;try rfl)
     refine wpAnyL_t 8 ?_ rfl hS ?_ ?_;case refine_2=>(intro w hSw;(try dsimp only at hSw);go_simp;try rfl)
     refine wpAnyL_p 9 ?_ rfl ?_ ?_;case refine_2=>(intro w _;go_simp;try rfl)
     refine wpAnyL_p 10 ?_ rfl ?_ ?_;case refine_2=>(intro w _;go_simp;try rfl)
     refine wpAnyL_p 11 ?_ rfl ?_ ?_;case refine_2=>(intro w _;go_simp;try rfl)
     refine wpAnyL_p 12 ?_ rfl ?_ ?_;case refine_2=>(intro w _;go_simp;try rfl)
     refine wpAnyL_p 13 ?_ rfl ?_ ?_;case refine_2=>(intro w _;go_simp;try rfl)
     refine wpAnyL_p 14 ?_ rfl ?_ ?_;case refine_2=>(intro w _;go_simp;try rfl)
     have c2:=HC2.out
     obtain⟨s1,s2⟩:=hS
     refine wpAnyL_late (i:=15) rfl (by kernel_rfl) (by rfl) ?_
     intro Kq hKq
     go_simp
     refine hKq.out _ _ ?_
     clear hKq Kq
     refine wpAnyL_done (by kernel_rfl) ?_
     try simp only[Act.put,List.getElem_toArray,List.getElem_cons_succ,List.getElem_cons_zero,List.setIfInBounds_toArray,List.set_cons_zero,List.set_cons_succ]
     go_wp2_with fail
     go_roundw
     case rel=>exact⟨n+1,by go_num,by omega,Lib.hid (HJ2.out.drewN 1)⟩
     case measure=>simp[intOf];omega
    ·have i5:¬ (n:Int)<K.dishes.length:=by omega
     obtain rfl:n=K.dishes.length:=by omega
     clear hn
     go_wp2_with fail
     go_loopw [14] (fun i W=>∃ m:Nat,i=.int .i64 m∧m≤K.hauls.length∧Hid (OneJ w2 W K gi db hb K.dishes.length m nb nc pb pc)) (fun i _=>K.hauls.length-(intOf i).toNat)
     case atStart=>exact⟨0,rfl,Nat.zero_le _,HJ1⟩
     case round =>
      obtain⟨m,rfl,hm,HJ2⟩:=hrel
      clear HJ1 b0 b1 b2
      have hbx:=HJ2.out.keeps HTD.out.1 HTD.out.2 HBX.out
      have b0:=blk_cell hbx 0
      have b1:=blk_cell hbx 1
      have b2:=blk_cell hbx 2
      simp only[List.getElem?_toArray,List.getElem?_cons_zero,List.getElem?_cons_succ] at b0 b1 b2
      clear hbx
      by_cases hml:m<K.hauls.length
      ·have i6:(m:Int)<K.hauls.length:=by omega
       have hnh:=S.out.kt.nh
       obtain⟨c1,c2,hJ3⟩:=HJ2.out.haul HF.out hml
       obtain⟨_,_,_,hcap⟩:=HF.out.haul m _ (List.getElem?_eq_getElem hml)
       have i7:(gi:Int)+1≤pc m:=by omega
       have i8:¬ pc m=gi:=by omega
       have HJ3:=Lib.hid hJ3
       clear hJ3 hcap
       generalize pc m=ncn at c1 i7 i8 HJ3
       generalize pb m=nbn at c1 HJ3
       go_wp2_with fail
       have hS:wr.drew.cell? ⟨tb,2,none⟩=some (.slice (some ⟨hb,0,none⟩) K.hauls.length hc2)∧wr.drew.cell? ⟨hb,m*3+2,none⟩=some (.slice (some ⟨nbn,0,none⟩) K.goods.length ncn):=⟨b2,c1⟩
       have HC2:=Lib.hid c2
       clear b0 b1 b2 c1 c2
       refine wp_region_L (by kernel_rfl) (fun W=>W.cell? ⟨tb,2,none⟩=some (.slice (some ⟨hb,0,none⟩) K.hauls.length hc2)∧W.cell? ⟨hb,m*3+2,none⟩=some (.slice (some ⟨nbn,0,none⟩) K.goods.length ncn)) [15] ?_
       refine wpAnyL_p 0 ?_ rfl ?_ ?_;case refine_2=>(intro w _;go_simp;try rfl)
       refine wpAnyL_t 1 ?_ rfl hS ?_ ?_;case refine_2=>(intro w hSw;(try dsimp only at hSw);go_simp;try rfl)
       refine wpAnyL_p 2 ?_ rfl ?_ ?_;case refine_2=>(intro w _;go_simp;try rfl)
       refine wpAnyL_p 3 ?_ rfl ?_ ?_;case refine_2=>(intro w _;go_simp;try rfl)
       refine wpAnyL_t 4 ?_ rfl hS ?_ ?_;case refine_2=>(intro w hSw;(try dsimp only at hSw);go_simp;try rfl)
       refine wpAnyL_p 5 ?_ rfl ?_ ?_;case refine_2=>(intro w _;go_simp;try rfl)
       refine wpAnyL_p 6 ?_ rfl ?_ ?_;case refine_2=>(intro w _;go_simp;try rfl)
       refine wpAnyL_p 7 ?_ rfl ?_ ?_;case refine_2=>(intro w _;go_simp;try rfl)
       refine wpAnyL_t 8 ?_ rfl hS ?_ ?_;case refine_2=>(intro w hSw;(try dsimp only at hSw);go_simp;try rfl)
       refine wpAnyL_p 9 ?_ rfl ?_ ?_;case refine_2=>(intro w _;go_simp;try rfl)
       refine wpAnyL_p 10 ?_ rfl ?_ ?_;case refine_2=>(intro w _;go_simp;try rfl)
       refine wpAnyL_p 11 ?_ rfl ?_ ?_;case refine_2=>(intro w _;go_simp;try rfl)
       refine wpAnyL_p 12 ?_ rfl ?_ ?_;case refine_2=>(intro w _;go_simp;try rfl)
       refine wpAnyL_p 13 ?_ rfl ?_ ?_;case refine_2=>(intro w _;go_simp;try rfl)
       refine wpAnyL_p 14 ?_ rfl ?_ ?_;case refine_2=>(intro w _;go_simp;try rfl)
       have c2:=HC2.out
       obtain⟨s1,s2⟩:=hS
       refine wpAnyL_late (i:=15) rfl (by kernel_rfl) (by rfl) ?_
       intro Kq hKq
       go_simp
       refine hKq.out _ _ ?_
       clear hKq Kq
       refine wpAnyL_done (by kernel_rfl) ?_
       try simp only[Act.put,List.getElem_toArray,List.getElem_cons_succ,List.getElem_cons_zero,List.setIfInBounds_toArray,List.set_cons_zero,List.set_cons_succ]
       go_wp2_with fail
       go_roundw
       case rel=>exact⟨m+1,by go_num,by omega,Lib.hid (HJ3.out.drewN 1)⟩
       case measure=>simp[intOf];omega
      ·have i6:¬ (m:Int)<K.hauls.length:=by omega
       obtain rfl:m=K.hauls.length:=by omega
       clear hm
       have HKT:=Lib.hid (HJ2.out.kt HF.out HGD.out HNE.out.1 HNE.out.2 hlt S.out.dlen S.out.plen S.out.kt.nd S.out.kt.nh)
       have HGW2:=Lib.hid (HLE.out _ _ _ HJ2.out)
       have hoa:=oneK_asked (g:=gi) S.out.asked hlt
       have HOA:=Lib.hid hoa
       clear hoa
       obtain⟨c0,c1,c2⟩:=S.out.cells HGW2.out
       have hs1:sumTo K ms gi≤2*(5*65025):=Nat.le_trans (sumTo_le (xs:=ms) S.out.valid hgi) (Nat.mul_le_mul_right _ (by have:=S.out.n3;omega))
       have hcost:=oneG_cost (xs:=ms) S.out.valid hlt
       have HIM:=Lib.hid (S.out.m.grown HGW2.out)
       have hpn:(planOf (oneG K ms gi)).2.2=false:=fineTo_iff.1 (by rw[fineTo_all,HN];rfl) gi hlt
       have hf:fineTo K ms gi=true:=fineTo_iff.2 fun j hj=>fineTo_iff.1 (show fineTo K ms K.goods.length=true by rw[fineTo_all,HN];rfl) j (by omega)
       rw[hf]
       have HOG:=Lib.hid (one_good (fs:=fs) K gi _ _ _ (gc2-gi) dc2 hc2 ms mA mc wr HKT.out HIM.out S.out.ml S.out.asked hlt hpn)
       have HBX2:=Lib.hid (HJ2.out.keeps HTD.out.1 HTD.out.2 HBX.out)
       have HES:=Lib.hid (show sumTo K ms (gi+1)=sumTo K ms gi+(planOf (oneG K ms gi)).2.1∧fineTo K ms (gi+1)=fineTo K ms gi from ⟨by show sumTo K ms gi+_=_;rw[if_neg (by simp[hpn])],by show (fineTo K ms gi&&_)=_;rw[hpn];simp⟩)
       have hw0:IntKind.i64.wrap (((sumTo K ms gi:Nat):Int)+(((planOf (oneG K ms gi)).2.1:Nat):Int))=((sumTo K ms gi+(planOf (oneG K ms gi)).2.1:Nat):Int):=wrap_of (by omega) (by omega) (by omega)
       generalize hcq:(planOf (oneG K ms gi)).2.1=cq at HOG HES hw0 hcost
       generalize hsq:sumTo K ms gi=sq at HES hw0 hs1 ⊢
       obtain⟨sv,hsv⟩:∃ sv,sv=sq+cq:=⟨_,rfl⟩
       rw[← hsv] at hw0 HES
       clear hpn hs1 hcost hcq hsv
       go_upto_region 28 with (first|(go_at_call 29;refine HOG.out.mono ?_;rintro e w5 ⟨M2,rfl,g5,hd5⟩;have HG5:=Lib.hid (HGW2.out.trans g5);have HD5:=Lib.hid hd5;have b5:=blk_cell (blk_grown HBX2.out g5) 0;have b6:=blk_cell (blk_grown HBX2.out g5) 1;have b7:=blk_cell (blk_grown HBX2.out g5) 2;simp only[List.getElem?_toArray,List.getElem?_cons_zero,List.getElem?_cons_succ] at b5 b6 b7;clear g5 hd5)|(go_at_call 31;refine (shaped_one (fs:=fs) K gi ms _ _ _ (gc2-gi) dc2 hc2 _ _ w5 HD5.out S.out.kt.nh).mono ?_;rintro e w6 ⟨rfl,g6⟩;have HG6:=Lib.hid (HG5.out.trans g6);have HD6:=Lib.hid (HD5.out.grown g6);clear g6))
       go_wp2_with fail
       go_loopw [18] (fun i W=>∃ k:Nat,i=.int .i64 k∧k≤K.hauls.length∧Hid (Grown w6 W)) (fun i _=>K.hauls.length-(intOf i).toNat)
       case atStart=>exact⟨0,rfl,Nat.zero_le _,Lib.hid (Grown.refl _)⟩
       case round =>
        obtain⟨k,rfl,hk,HGX⟩:=hrel
        have HGY:=Lib.hid (HG6.out.trans HGX.out)
        obtain⟨d0,d1,d2⟩:=S.out.cells HGY.out
        by_cases hkl:k<K.hauls.length
        ·have j1:(k:Int)<K.hauls.length:=by omega
         have hnh:=S.out.kt.nh
         obtain⟨qb,qo,qc,e1,e2⟩:=one_row (HD6.out.grown HGX.out) hkl
         obtain⟨rb,ro,rc,e3,e4⟩:=all_row (g:=gi) (HM.out.grown HGY.out) hkl hlt
         generalize ldAt k (oneG K ms gi)=x at e2 e4
         go_wp2_with fail
         go_quiet (fail)
         go_wp2_with fail
         go_roundw
         case rel=>exact⟨k+1,by go_num,by omega,Lib.hid (HGX.out.trans ((Grown.refl _).drewN _))⟩
         case measure=>simp[intOf];omega
        ·have j1:¬ (k:Int)<K.hauls.length:=by omega
         go_wp2_with fail
         go_roundw
         case rel=>exact⟨gi+1,by go_num,by omega,by rw[HES.out.1],by rw[HES.out.2,hf],HGY⟩
         case measure=>simp[intOf];omega
  ·have i1:¬ (gi:Int)<K.goods.length:=by omega
   obtain rfl:gi=K.goods.length:=by omega
   clear hgi
   rw[show fineTo K ms K.goods.length=true by rw[fineTo_all,HN];rfl,sumTo_full HN]
   go_wp2_with (go_at_call 22;refine (served_any _).mono ?_;rintro e w9 ⟨rfl,g9⟩)
   go_ret
   rfl
end
end Go.Gal
end
