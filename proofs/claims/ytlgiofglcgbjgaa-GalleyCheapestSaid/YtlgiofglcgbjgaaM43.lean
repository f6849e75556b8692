/- Walks: GalleyCheapest, behind its loop (printed by lawcheap.py c). Walks: GalleyCheapest, all loads (printed by lawcheap.py b). -/
import Derived.Test.YtlgiofglcgbjgaaM41
import Derived.Test.YtlgiofglcgbjgaaM42
namespace Go.Gal
open Go Go.Par Go.Proofs Go.RowKit
section
noncomputable def body9:Code:=Try.f9.body.getD .skip
theorem all_given {K:Kt} {xs:List Int} {ls:List (List Int)} (hA:qn K xs=0) (hl:ls∈(allL K K.hauls.length)):qh K xs ls=0:=by
 obtain⟨e1,e2⟩:=allL_mem.1 hl
 refine given_of hA e1 fun l hm=>?_
 obtain⟨h,hh⟩:=List.getElem?_of_mem hm
 have hlt:h<K.hauls.length:=by have:=(List.getElem?_eq_some_iff.1 hh).1;omega
 obtain⟨r,h1,h2⟩:=e2 h hlt
 rw[hh] at h1
 cases h1
 obtain⟨f1,f2⟩:=rowsL_mem.1 h2
 refine⟨f1,fun x hx=>?_⟩
 obtain⟨i,hi⟩:=List.getElem?_of_mem hx
 have hil:i<K.goods.length:=by have:=(List.getElem?_eq_some_iff.1 hi).1;omega
 obtain⟨m,hm,he⟩:=f2 i hil
 rw[hi] at he
 cases he
 obtain⟨r1,r2,_⟩:=jK ((qP (qb (jd hA).1).1).2.2 _ (List.mem_of_getElem? (gdAt_get hil)))
 have hmo:mostN K h i≤(gdAt K.goods i).room.toNat:=by unfold mostN;split<;>omega
 omega
section
variable {fs:Array Func} [LikeS fs]
theorem out_stops (K:Kt) (gA dA hA:Option Addr) (gc dc hc:Nat) (xs:List Int) (mA:Option Addr) (mc:Nat) (ls:List (List Int)) (lA:Option Addr) (lc:Nat) (w:World) (k:KtAt w K gA dA hA) (m:Ints w mA xs) (hlen:xs.length≤1000) (hl:DishesAt w lA ls) (hll:ls.length≤1000) (hG:qh K xs ls=0) (hs:(runK K xs ls).stop≠none) :
  Calls (Pf fs) 23 #[ktV K gA dA hA gc dc hc,.slice mA xs.length mc,.slice lA ls.length lc] w fun e w'=>(∃ a b j:Int,e=.returned (.tuple #[.int .i64 a,.int .i64 b,.int .i64 j])∧(j=9∨(0≤a∧j=0)))∧Grown w w':=by
 cases hq:(runK K xs ls).stop with
 | none=>exact absurd hq hs
 | some p =>
  obtain⟨h,i,er⟩:=p
  obtain⟨_,_,_,h4⟩:=runK_ends hq
  rcases h4 with ⟨rfl,_⟩|⟨rfl,_⟩
  ·exact (out_bar (fs:=fs) K gA dA hA gc dc hc xs mA mc ls lA lc w k m hlen hl hll hG hq).mono fun e w' ⟨e1,g1⟩=>⟨⟨_,_,_,e1,.inl rfl⟩,g1⟩
  ·exact (out_short (fs:=fs) K gA dA hA gc dc hc xs mA mc ls lA lc w k m hlen hl hll hG hq).mono fun e w' ⟨e1,g1⟩=>⟨⟨_,_,_,e1,.inr ⟨by omega,rfl⟩⟩,g1⟩
end
end
section
section
variable {fs:Array Func} [LikeS fs]
set_option maxRecDepth 100000 in
set_option maxHeartbeats 4000000 in
theorem law9b {wS:World} {K:Kt} {ms:List Int} {gA dA mA lA:Option Addr} {gc dc hc mc bx hb ho lc base:Nat} (S:Hid (Apart5 wS K ms gA dA (some ⟨hb,ho,none⟩) mA gc dc hc bx)) (HR:Hid (Row3 wS base lA lc (allL K K.hauls.length))) (hcnt:(allL K K.hauls.length).length≤100000) {u0 u1 u2 u3 u7 u8 u9 u10 u11 u12 u13 u14 u15 u16 u17 u18 u19 u20 u21 u22 u23 u24 u25 u26 u27 u28 u29 u30 u31 u32 u33 u34 u35 u36 u37 u38 u39 u40 u41 u42 u43 u44 u45 u46 u47 u48 u49 u50 u51 u52 u53 u54 u55 u56 u57 u58 u59 u60 u61 u62 u63 u64 u65 u66 u67 u68 u69 u70 u71 u72 u73 u74 u75 u76 u77 u78 u79 u80 u81 u82 u83 u84 u85 u86 u87 u88 u89 u90 u91 u92 u93 u94 u95 u96 u97 u98 u99 u100 u101 u102 u103 u104 u105 u106 u107 u108 u109 u110 u111 u112 u113 u114 u115:Value} :
  Code.wp (Pf fs) (behindN 6 body9) (bodyPost (Pf fs) Try.f9 fun e _=>e=.returned (.bool true)) ⟨#[u0,u1,u2,u3,.pointer (some ⟨bx,0,none⟩),.slice mA ms.length mc,.slice lA (allL K K.hauls.length).length lc,u7,u8,u9,u10,u11,u12,u13,u14,u15,u16,u17,u18,u19,u20,u21,u22,u23,u24,u25,u26,u27,u28,u29,u30,u31,u32,u33,u34,u35,u36,u37,u38,u39,u40,u41,u42,u43,u44,u45,u46,u47,u48,u49,u50,u51,u52,u53,u54,u55,u56,u57,u58,u59,u60,u61,u62,u63,u64,u65,u66,u67,u68,u69,u70,u71,u72,u73,u74,u75,u76,u77,u78,u79,u80,u81,u82,u83,u84,u85,u86,u87,u88,u89,u90,u91,u92,u93,u94,u95,u96,u97,u98,u99,u100,u101,u102,u103,u104,u105,u106,u107,u108,u109,u110,u111,u112,u113,u114,u115],[]⟩ wS:=by
 have hnh:=S.out.kt.nh
 have hml:=S.out.ml
 have HG0:=Lib.hid (Grown.refl wS)
 conv=>arg 2;whnf
 go_wp2_with fail
 go_loopw [7,8,9] (fun b c i W=>∃ (n:Nat) (bi ci:Int),i=.int .i64 n∧n≤(allL K K.hauls.length).length∧b=.int .i64 bi∧c=.int .i64 ci∧Hid (bestL K ms n bi ci)∧Hid (Grown wS W)) (fun _ _ i _=>(allL K K.hauls.length).length-(intOf i).toNat)
 case atStart=>exact⟨0,-1,0,rfl,Nat.zero_le _,rfl,rfl,Lib.hid bestL_zero,HG0⟩
 case round =>
  obtain⟨n,bi,ci,rfl,hn,rfl,rfl,HBI,HGW⟩:=hrel
  clear HG0
  generalize wr=wq at *
  obtain⟨a0,a1,a2⟩:=S.out.cells HGW.out
  by_cases hnl:n<(allL K K.hauls.length).length
  ·have i1:(n:Int)<(allL K K.hauls.length).length:=by omega
   obtain⟨ls,hx⟩:∃ ls,(allL K K.hauls.length)[n]?=some ls:=⟨_,List.getElem?_eq_getElem hnl⟩
   have hmem:=List.mem_of_getElem? hx
   have hxl:=allL_len ls hmem
   have hG:=all_given S.out.asked hmem
   obtain⟨lb,xA,xc,rfl,e1,_,e2⟩:=HR.out.at_ hx
   have e1:=HGW.out.cell e1
   rw[hxl] at e1
   have HX:=Lib.hid hx
   have HE2:=Lib.hid (e2.at_.grown HGW.out)
   clear hx hmem e2
   generalize (allL K K.hauls.length).length=LN at *
   go_upto_region 11 with fail
   by_cases hst:(runK K ms ls).stop=none
   ·have hcl:=fun W (g:Grown wq W)=>out_none (fs:=fs) K gA dA (some ⟨hb,ho,none⟩) gc dc hc ms mA mc ls xA xc W (S.out.kt.grown (HGW.out.trans g)) (S.out.m.grown (HGW.out.trans g)) hml (HE2.out.grown g) (by omega) hG hst
    unfold ktV at hcl
    simp only[hxl] at hcl
    have HCL:=Lib.hid hcl
    have HST:=Lib.hid hst
    clear hcl hst
    go_cut [10,11,12] (fun a b c W=>a=.int .i64 (-1)∧b=.int .i64 (-1)∧c=.int .i64 0∧Hid (Grown wq W))
    case first =>
     have hS:wq.drew.cell? ⟨bx,0,none⟩=some (.slice gA K.goods.length gc)∧wq.drew.cell? ⟨bx,1,none⟩=some (.slice dA K.dishes.length dc)∧wq.drew.cell? ⟨bx,2,none⟩=some (.slice (some ⟨hb,ho,none⟩) K.hauls.length hc)∧wq.drew.cell? ⟨lb,n,none⟩=some (.slice xA K.hauls.length xc):=⟨a0,a1,a2,e1⟩
     refine qe (by kernel_rfl) (fun W_=>W_.cell? ⟨bx,0,none⟩=some (.slice gA K.goods.length gc)∧W_.cell? ⟨bx,1,none⟩=some (.slice dA K.dishes.length dc)∧W_.cell? ⟨bx,2,none⟩=some (.slice (some ⟨hb,ho,none⟩) K.hauls.length hc)∧W_.cell? ⟨lb,n,none⟩=some (.slice xA K.hauls.length xc)) [] ?_
     refine zB 0 ?_ rfl hS ?_ ?_;case refine_2=>(intro w hSw;(try dsimp only at hSw);go_simp;try rfl)
     refine zg 1 ?_ rfl ?_ ?_;case refine_2=>(intro w _;go_simp;try rfl)
     refine zg 2 ?_ rfl ?_ ?_;case refine_2=>(intro w _;go_simp;try rfl)
     refine zg 3 ?_ rfl ?_ ?_;case refine_2=>(intro w _;go_simp;try rfl)
     refine zg 4 ?_ rfl ?_ ?_;case refine_2=>(intro w _;go_simp;try rfl)
     refine zB 5 ?_ rfl hS ?_ ?_;case refine_2=>(intro w hSw;(try dsimp only at hSw);go_simp;try rfl)
     refine zt (i:=6) rfl (by kernel_rfl) ?_
     intro Kq hKq
     go_simp
     refine (HCL.out wq.drew (show Grown wq wq.drew from (Grown.refl _).drewN 1)).mono ?_
     rintro e w5 ⟨rfl,g5⟩
     have HG5:=Lib.hid ((show Grown wq wq.drew from (Grown.refl _).drewN 1).trans g5)
     have hS:w5.cell? ⟨bx,0,none⟩=some (.slice gA K.goods.length gc)∧w5.cell? ⟨bx,1,none⟩=some (.slice dA K.dishes.length dc)∧w5.cell? ⟨bx,2,none⟩=some (.slice (some ⟨hb,ho,none⟩) K.hauls.length hc)∧w5.cell? ⟨lb,n,none⟩=some (.slice xA K.hauls.length xc):=⟨g5.cell hS.1,g5.cell hS.2.1,g5.cell hS.2.2.1,g5.cell hS.2.2.2⟩
     refine hKq.out _ _ hS (fun _=>?_)
     clear hKq Kq g5
     refine zg 7 ?_ rfl ?_ ?_;case refine_2=>(intro w _;go_simp;try rfl)
     refine zg 8 ?_ rfl ?_ ?_;case refine_2=>(intro w _;go_simp;try rfl)
     refine zg 9 ?_ rfl ?_ ?_;case refine_2=>(intro w _;go_simp;try rfl)
     refine zg 10 ?_ rfl ?_ ?_;case refine_2=>(intro w _;go_simp;try rfl)
     refine zg 11 ?_ rfl ?_ ?_;case refine_2=>(intro w _;go_simp;try rfl)
     refine zg 12 ?_ rfl ?_ ?_;case refine_2=>(intro w _;go_simp;try rfl)
     refine zg 13 ?_ rfl ?_ ?_;case refine_2=>(intro w _;go_simp;try rfl)
     refine zU (by kernel_rfl) ?_
     try simp only[Act.put,List.getElem_toArray,List.getElem_cons_succ,List.getElem_cons_zero,List.setIfInBounds_toArray,List.set_cons_zero,List.set_cons_succ]
     go_wp2_with fail
     go_meet
     exact⟨rfl,rfl,rfl,HG5⟩
    case rest =>
    obtain⟨rfl,rfl,rfl,HGX⟩:=hcut
    clear HCL
    have HGA:=Lib.hid (HGW.out.trans HGX.out)
    have HE3:=Lib.hid (HE2.out.grown HGX.out)
    have e1:=HGX.out.cell e1
    clear HE2 HGX HGW a0 a1 a2
    generalize wc=wq at *
    obtain⟨a0,a1,a2⟩:=S.out.cells HGA.out
    have hcl:=fun W (g:Grown wq W)=>cost_ok (fs:=fs) K gA dA hb ho gc dc hc ls xA xc W (S.out.kt.grown (HGA.out.trans g)) S.out.valid (HE3.out.grown g) (givenE_zero hG).2
    unfold ktV at hcl
    simp only[hxl] at hcl
    have HCL:=Lib.hid hcl
    clear hcl
    go_upto_region 15 with fail
    go_cut [13,14] (fun a b W=>a=.int .i64 (costR K ls K.hauls.length)∧b=.int .i64 0∧Hid (Grown wq W))
    case first =>
     have hS:wq.drew.cell? ⟨bx,0,none⟩=some (.slice gA K.goods.length gc)∧wq.drew.cell? ⟨bx,1,none⟩=some (.slice dA K.dishes.length dc)∧wq.drew.cell? ⟨bx,2,none⟩=some (.slice (some ⟨hb,ho,none⟩) K.hauls.length hc)∧wq.drew.cell? ⟨lb,n,none⟩=some (.slice xA K.hauls.length xc):=⟨a0,a1,a2,e1⟩
     refine qe (by kernel_rfl) (fun W_=>W_.cell? ⟨bx,0,none⟩=some (.slice gA K.goods.length gc)∧W_.cell? ⟨bx,1,none⟩=some (.slice dA K.dishes.length dc)∧W_.cell? ⟨bx,2,none⟩=some (.slice (some ⟨hb,ho,none⟩) K.hauls.length hc)∧W_.cell? ⟨lb,n,none⟩=some (.slice xA K.hauls.length xc)) [] ?_
     refine zB 0 ?_ rfl hS ?_ ?_;case refine_2=>(intro w hSw;(try dsimp only at hSw);go_simp;try rfl)
     refine zg 1 ?_ rfl ?_ ?_;case refine_2=>(intro w _;go_simp;try rfl)
     refine zg 2 ?_ rfl ?_ ?_;case refine_2=>(intro w _;go_simp;try rfl)
     refine zg 3 ?_ rfl ?_ ?_;case refine_2=>(intro w _;go_simp;try rfl)
     refine zB 4 ?_ rfl hS ?_ ?_;case refine_2=>(intro w hSw;(try dsimp only at hSw);go_simp;try rfl)
     refine zt (i:=5) rfl (by kernel_rfl) ?_
     intro Kq hKq
     go_simp
     refine (HCL.out wq.drew (show Grown wq wq.drew from (Grown.refl _).drewN 1)).mono ?_
     rintro e w5 ⟨rfl,g5⟩
     have HG5:=Lib.hid ((show Grown wq wq.drew from (Grown.refl _).drewN 1).trans g5)
     have hS:w5.cell? ⟨bx,0,none⟩=some (.slice gA K.goods.length gc)∧w5.cell? ⟨bx,1,none⟩=some (.slice dA K.dishes.length dc)∧w5.cell? ⟨bx,2,none⟩=some (.slice (some ⟨hb,ho,none⟩) K.hauls.length hc)∧w5.cell? ⟨lb,n,none⟩=some (.slice xA K.hauls.length xc):=⟨g5.cell hS.1,g5.cell hS.2.1,g5.cell hS.2.2.1,g5.cell hS.2.2.2⟩
     refine hKq.out _ _ hS (fun _=>?_)
     clear hKq Kq g5
     refine zg 6 ?_ rfl ?_ ?_;case refine_2=>(intro w _;go_simp;try rfl)
     refine zg 7 ?_ rfl ?_ ?_;case refine_2=>(intro w _;go_simp;try rfl)
     refine zg 8 ?_ rfl ?_ ?_;case refine_2=>(intro w _;go_simp;try rfl)
     refine zg 9 ?_ rfl ?_ ?_;case refine_2=>(intro w _;go_simp;try rfl)
     refine zg 10 ?_ rfl ?_ ?_;case refine_2=>(intro w _;go_simp;try rfl)
     refine zU (by kernel_rfl) ?_
     try simp only[Act.put,List.getElem_toArray,List.getElem_cons_succ,List.getElem_cons_zero,List.setIfInBounds_toArray,List.set_cons_zero,List.set_cons_succ]
     go_wp2_with fail
     go_meet
     exact⟨rfl,rfl,HG5⟩
    case rest =>
    obtain⟨rfl,rfl,HGX⟩:=hcut
    clear HCL a0 a1 a2 e1
    have HGB:=Lib.hid (HGA.out.trans HGX.out)
    clear HGX HGA HE3
    generalize wc=wq2 at *
    by_cases hbn:bi<0
    ·have d1:decide (bi<0)=true:=decide_eq_true hbn
     go_wp2_with fail
     go_roundw
     case rel=>exact⟨n+1,_,_,by go_num,by omega,rfl,rfl,Lib.hid (bestL_new HBI.out HX.out HST.out (.inl hbn)),HGB⟩
     case measure=>simp[intOf];omega
    ·have d1:decide (bi<0)=false:=decide_eq_false hbn
     by_cases hcl:costR K ls K.hauls.length<ci
     ·have d2:decide (costR K ls K.hauls.length<ci)=true:=decide_eq_true hcl
      go_wp2_with fail
      go_roundw
      case rel=>exact⟨n+1,_,_,by go_num,by omega,rfl,rfl,Lib.hid (bestL_new HBI.out HX.out HST.out (.inr hcl)),HGB⟩
      case measure=>simp[intOf];omega
     ·have d2:decide (costR K ls K.hauls.length<ci)=false:=decide_eq_false hcl
      go_wp2_with fail
      go_roundw
      case rel=>exact⟨n+1,_,_,by go_num,by omega,rfl,rfl,Lib.hid (bestL_keep HBI.out (by omega) HX.out (by omega)),HGB⟩
      case measure=>simp[intOf];omega
   ·have hcl:=fun W (g:Grown wq W)=>out_stops (fs:=fs) K gA dA (some ⟨hb,ho,none⟩) gc dc hc ms mA mc ls xA xc W (S.out.kt.grown (HGW.out.trans g)) (S.out.m.grown (HGW.out.trans g)) hml (HE2.out.grown g) (by omega) hG hst
    unfold ktV at hcl
    simp only[hxl] at hcl
    have HCL:=Lib.hid hcl
    have HST:=Lib.hid hst
    clear hcl hst
    go_cut [10,11,12] (fun a b c W=>∃ a' b' j:Int,a=.int .i64 a'∧b=.int .i64 b'∧c=.int .i64 j∧Hid (j=9∨(0≤a'∧j=0))∧Hid (Grown wq W))
    case first =>
     have hS:wq.drew.cell? ⟨bx,0,none⟩=some (.slice gA K.goods.length gc)∧wq.drew.cell? ⟨bx,1,none⟩=some (.slice dA K.dishes.length dc)∧wq.drew.cell? ⟨bx,2,none⟩=some (.slice (some ⟨hb,ho,none⟩) K.hauls.length hc)∧wq.drew.cell? ⟨lb,n,none⟩=some (.slice xA K.hauls.length xc):=⟨a0,a1,a2,e1⟩
     refine qe (by kernel_rfl) (fun W_=>W_.cell? ⟨bx,0,none⟩=some (.slice gA K.goods.length gc)∧W_.cell? ⟨bx,1,none⟩=some (.slice dA K.dishes.length dc)∧W_.cell? ⟨bx,2,none⟩=some (.slice (some ⟨hb,ho,none⟩) K.hauls.length hc)∧W_.cell? ⟨lb,n,none⟩=some (.slice xA K.hauls.length xc)) [] ?_
     refine zB 0 ?_ rfl hS ?_ ?_;case refine_2=>(intro w hSw;(try dsimp only at hSw);go_simp;try rfl)
     refine zg 1 ?_ rfl ?_ ?_;case refine_2=>(intro w _;go_simp;try rfl)
     refine zg 2 ?_ rfl ?_ ?_;case refine_2=>(intro w _;go_simp;try rfl)
     refine zg 3 ?_ rfl ?_ ?_;case refine_2=>(intro w _;go_simp;try rfl)
     refine zg 4 ?_ rfl ?_ ?_;case refine_2=>(intro w _;go_simp;try rfl)
     refine zB 5 ?_ rfl hS ?_ ?_;case refine_2=>(intro w hSw;(try dsimp only at hSw);go_simp;try rfl)
     refine zt (i:=6) rfl (by kernel_rfl) ?_
     intro Kq hKq
     go_simp
     refine (HCL.out wq.drew (show Grown wq wq.drew from (Grown.refl _).drewN 1)).mono ?_
     rintro e w5 ⟨⟨a',b',j,rfl,hj⟩,g5⟩
     have HG5:=Lib.hid ((show Grown wq wq.drew from (Grown.refl _).drewN 1).trans g5)
     have hS:w5.cell? ⟨bx,0,none⟩=some (.slice gA K.goods.length gc)∧w5.cell? ⟨bx,1,none⟩=some (.slice dA K.dishes.length dc)∧w5.cell? ⟨bx,2,none⟩=some (.slice (some ⟨hb,ho,none⟩) K.hauls.length hc)∧w5.cell? ⟨lb,n,none⟩=some (.slice xA K.hauls.length xc):=⟨g5.cell hS.1,g5.cell hS.2.1,g5.cell hS.2.2.1,g5.cell hS.2.2.2⟩
     refine hKq.out _ _ hS (fun _=>?_)
     clear hKq Kq g5
     refine zg 7 ?_ rfl ?_ ?_;case refine_2=>(intro w _;go_simp;try rfl)
     refine zg 8 ?_ rfl ?_ ?_;case refine_2=>(intro w _;go_simp;try rfl)
     refine zg 9 ?_ rfl ?_ ?_;case refine_2=>(intro w _;go_simp;try rfl)
     refine zg 10 ?_ rfl ?_ ?_;case refine_2=>(intro w _;go_simp;try rfl)
     refine zg 11 ?_ rfl ?_ ?_;case refine_2=>(intro w _;go_simp;try rfl)
     refine zg 12 ?_ rfl ?_ ?_;case refine_2=>(intro w _;go_simp;try rfl)
     refine zg 13 ?_ rfl ?_ ?_;case refine_2=>(intro w _;go_simp;try rfl)
     refine zU (by kernel_rfl) ?_
     try simp only[Act.put,List.getElem_toArray,List.getElem_cons_succ,List.getElem_cons_zero,List.setIfInBounds_toArray,List.set_cons_zero,List.set_cons_succ]
     go_wp2_with fail
     go_meet
     exact⟨a',b',j,rfl,rfl,rfl,hj,HG5⟩
    case rest =>
    obtain⟨a',b',j,rfl,rfl,rfl,HJ,HGX⟩:=hcut
    clear HCL a0 a1 a2 e1
    have HGB:=Lib.hid (HGW.out.trans HGX.out)
    clear HGX HGW HE2
    generalize wc=wq2 at *
    rcases HJ.out with rfl|⟨ha,rfl⟩
    ·go_wp2_with fail
     go_roundw
     case rel=>exact⟨n+1,_,_,by go_num,by omega,rfl,rfl,Lib.hid (bestL_bad HBI.out HX.out HST.out),HGB⟩
     case measure=>simp[intOf];omega
    ·have d1:decide (0≤a')=true:=decide_eq_true ha
     go_wp2_with fail
     go_roundw
     case rel=>exact⟨n+1,_,_,by go_num,by omega,rfl,rfl,Lib.hid (bestL_bad HBI.out HX.out HST.out),HGB⟩
     case measure=>simp[intOf];omega
  ·have i1:¬ (n:Int)<(allL K K.hauls.length).length:=by omega
   obtain rfl:n=(allL K K.hauls.length).length:=by omega
   rcases bestL_end S.out.asked HBI.out with ⟨rfl,hno⟩|⟨hno,rfl,j,rfl,hj⟩
   ·have hch:=cheapest_bad (fs:=fs) K gA dA (some ⟨hb,ho,none⟩) gc dc hc ms mA mc wq (S.out.kt.grown HGW.out) (S.out.m.grown HGW.out) S.out.ml S.out.asked hno
    unfold ktV at hch
    have HCH:=Lib.hid hch
    clear hch
    go_wp2_with (first|(go_at_call 29;refine HCH.out.mono ?_;rintro e w1 ⟨rfl,g1⟩)|(go_at_call 22;refine (served_any _).mono ?_;rintro e w9 ⟨rfl,g9⟩))
    go_ret
    rfl
   ·have hjl:j<(allL K K.hauls.length).length:=(List.getElem?_eq_some_iff.1 hj).1
    obtain⟨lb,xA,xc,rfl,e1,e2,e3⟩:=HR.out.at_ hj
    rw[rowsOf_len] at e1
    have hnh:=S.out.kt.nh
    have hch:=cheapest_good (fs:=fs) K gA dA (some ⟨hb,ho,none⟩) gc dc hc ms mA mc wq (S.out.kt.grown HGW.out) (S.out.m.grown HGW.out) S.out.ml S.out.asked hno
    unfold ktV at hch
    have heq:=fun W M (hM:DishesAt W (some ⟨M,0,none⟩) (qD K ms)) (g:Grown wS W)=>equalRows_any (fs:=fs) (some ⟨M,0,none⟩) xA K.hauls.length xc (qD K ms) (qD K ms) W hM (e3.at_.grown g) (by rw[rowsOf_len];omega) (by rw[rowsOf_len];omega)
    simp only[rowsOf_len,decide_true] at heq
    have HEQ:=Lib.hid heq
    have HCH:=Lib.hid hch
    have HE1:=Lib.hid e1
    have i1:(j:Int)<(allL K K.hauls.length).length:=by omega
    have i2:¬ (j:Int)<0:=by omega
    have i3:(0:Int)≤j:=by omega
    clear hch heq hj e1 e2 e3
    go_wp2_with (first|(go_at_call 29;refine HCH.out.mono ?_;rintro e w1 ⟨M,rfl,g1,hd1⟩;have HG1:=Lib.hid (HGW.out.trans g1);have HD1:=Lib.hid hd1;have e1:=(HGW.out.trans g1).cell HE1.out;clear g1 hd1)|(go_at_call 38;refine (HEQ.out _ _ HD1.out HG1.out).mono ?_;rintro e w2 ⟨rfl,q,rfl⟩)|(go_at_call 22;refine (served_any _).mono ?_;rintro e w9 ⟨rfl,g9⟩))
    go_ret
    rfl
end
end
end Go.Gal
