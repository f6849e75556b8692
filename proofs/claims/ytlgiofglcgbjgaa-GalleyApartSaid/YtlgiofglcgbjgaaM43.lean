/- Walks: GalleyApart (printed by lawapart.py a). -/
import Derived.Test.YtlgiofglcgbjgaaM42
namespace Go.Gal
open Go Go.Par Go.Proofs Go.RowKit
section
variable {fs:Array Func} [LikeS fs]
set_option maxRecDepth 20000 in
set_option maxHeartbeats 8000000 in
theorem law5 (ns:List Int) (A:Option Addr) (c:Nat) (w:World) (hx:Ints w A ns) (hl:ns.length≤9223372036854775807):Calls (Pf fs) 5 #[.slice A ns.length c] w fun e _=>e=.returned (.bool true):=by
 have HB:=Lib.hid (newBag_any (fs:=fs) A c ns w hx.toB hl)
 clear hx
 go_enter LK.func5,Try.ntmps5
 go_wp2_with (go_at_call 17;refine HB.out.mono ?_;rintro e w1 ⟨g,rfl,_,hb1,_⟩;clear HB)
 go_wp2_with (go_at_call 18;refine (kitchenOf_any g 3 12 5 w1 hb1 (by decide) (by decide) (by decide) (by decide) (by decide) (by decide)).mono ?_;rintro e w2 ⟨K,gA,gc,dA,dc,hA,hc,rfl,hK2,hkb2,h1,h2,h3,hcap⟩;have HC:=Lib.hid (dealt_valid h1 h2 h3 (by decide) (by decide) (by decide));have HK2:=Lib.hid hK2;have HB2:=Lib.hid hkb2.bag;have H1:=Lib.hid h1;have H2:=Lib.hid h2;have H3:=Lib.hid h3;have HCAP:=Lib.hid hcap;clear hb1 hK2 hkb2 h1 h2 h3 hcap;unfold ktV)
 have hbx:(w2.alloc (.cells #[.slice gA K.goods.length gc,.slice dA K.dishes.length dc,.slice hA K.hauls.length hc] 29)).heap[w2.heap.size]?=some (.cells #[.slice gA K.goods.length gc,.slice dA K.dishes.length dc,.slice hA K.hauls.length hc] 29 (0,0)):=heap_alloc_new w2 _
 have hS:(w2.alloc (.cells #[.slice gA K.goods.length gc,.slice dA K.dishes.length dc,.slice hA K.hauls.length hc] 29)).cell? ⟨w2.heap.size,0,none⟩=some (.slice gA K.goods.length gc)∧(w2.alloc (.cells #[.slice gA K.goods.length gc,.slice dA K.dishes.length dc,.slice hA K.hauls.length hc] 29)).cell? ⟨w2.heap.size,1,none⟩=some (.slice dA K.dishes.length dc)∧(w2.alloc (.cells #[.slice gA K.goods.length gc,.slice dA K.dishes.length dc,.slice hA K.hauls.length hc] 29)).cell? ⟨w2.heap.size,2,none⟩=some (.slice hA K.hauls.length hc):=⟨blk_cell hbx 0,blk_cell hbx 1,blk_cell hbx 2⟩
 have HBX:=Lib.hid hbx
 have HK3:=Lib.hid (show KtAt (w2.alloc (.cells #[.slice gA K.goods.length gc,.slice dA K.dishes.length dc,.slice hA K.hauls.length hc] 29)) K gA dA hA from HK2.out.grown (Grown.alloc w2 (.cells #[.slice gA K.goods.length gc,.slice dA K.dishes.length dc,.slice hA K.hauls.length hc] 29)))
 have HB3:=Lib.hid (HB2.out.alloc (.cells #[.slice gA K.goods.length gc,.slice dA K.dishes.length dc,.slice hA K.hauls.length hc] 29))
 have hne:=HB2.out.lt
 have hg1:=H1.out.1
 have hg3:=H1.out.2.1
 have hh1:=H3.out.1
 have hh5:=H3.out.2.1
 generalize hw3:(w2.alloc (.cells #[.slice gA K.goods.length gc,.slice dA K.dishes.length dc,.slice hA K.hauls.length hc] 29))=w3 at HBX HK3 HB3 hS
 have HW3:=Lib.hid hw3
 clear hw3 hbx HK2 HB2
 have HHS:=Lib.hid hS
 have key:∀ W,Kb g w3 W→W.cell? ⟨w2.heap.size,0,none⟩=some (.slice gA K.goods.length gc)∧W.cell? ⟨w2.heap.size,1,none⟩=some (.slice dA K.dishes.length dc)∧W.cell? ⟨w2.heap.size,2,none⟩=some (.slice hA K.hauls.length hc):=fun W k=>⟨k.cell HB3.out HHS.out.1 (by simp),k.cell HB3.out HHS.out.2.1 (by simp),k.cell HB3.out HHS.out.2.2 (by simp)⟩
 have KEY:=Lib.hid key
 clear key
 generalize hbxn:w2.heap.size=bx at *
 clear hbxn
 clear HW3 hS
 refine (menuOf_any g K gA dA hA gc dc hc w3 HB3.out (by have:=H2.out.1;omega) (by have:=H2.out.2.1;omega) (by omega)).mono ?_
 rintro e w4 ⟨mA,mc,ms,rfl,hm4,hkb4,hml4,hmt4,hmc4⟩
 have HKB5:=Lib.hid hkb4
 have HMS:=Lib.hid hm4
 have HML:=Lib.hid hml4
 have HMT:=Lib.hid hmt4
 have HMC:=Lib.hid hmc4
 clear hm4 hkb4 hml4 hmt4 hmc4
 go_upto_region 4 with fail
 have hS:=KEY.out w4 HKB5.out
 have HBS:=Lib.hid (HKB5.out.ke.block HBX.out (by omega))
 have HKS:=Lib.hid (HK3.out.kb HKB5.out HB3.out)
 obtain⟨a0,a1,a2⟩:=hS
 clear HKB5 HBX HK3 HB3 HHS KEY
 generalize w4=wS at *
 have hsi:=single_any (fs:=fs) K gA dA hA gc dc hc wS HKS.out
 by_cases hsing:K.dishes.length=1∧1<K.hauls.length
 ·rw[show (decide (K.dishes.length=1)&&decide (1<K.hauls.length))=true by simp[hsing]] at hsi
  have HSI:=Lib.hid hsi
  clear hsi hsing
  go_wp2_with (first|(go_at_call 21;refine HSI.out.mono ?_;rintro e w6 ⟨rfl,g6⟩)|(go_at_call 22;refine (served_any _).mono ?_;rintro e w7 ⟨rfl,g7⟩))
  go_ret
  rfl
 ·rw[show (decide (K.dishes.length=1)&&decide (1<K.hauls.length))=false by simp;omega] at hsi
  have HSI:=Lib.hid hsi
  have HA:=Lib.hid (asked_of HC.out (menuTo_zero HMT.out HML.out H2.out.1 hsing))
  have hml:ms.length≤1000:=by have:=HML.out;omega
  have HS:=Lib.hid (show ∀ W,Grown wS W→Apart5 W K ms gA dA hA mA gc dc hc bx from fun W g=>⟨HKS.out.grown g,HMS.out.grown g,blk_grown HBS.out g,HC.out,HA.out,hml,⟨hg1,H2.out.1,hh1⟩,hg3,fun d hd=>(H2.out.2.2 d hd).1,fun x hx=>(H3.out.2.2 x hx).len⟩)
  clear hsi hsing
  go_upto_region 6 with (go_at_call 21;refine HSI.out.mono ?_;rintro e w6 ⟨rfl,g6⟩;have HG6:=Lib.hid g6;clear g6)
  have S6:=Lib.hid (HS.out w6 HG6.out)
  clear a0 a1 a2
  obtain⟨a0,a1,a2⟩:=S6.out.cells (Grown.refl _)
  cases hnb:noneB K ms with
  | true =>
   have HCH:=Lib.hid (cheapest_bad (fs:=fs) K gA dA hA gc dc hc ms mA mc w6 S6.out.kt S6.out.m hml HA.out hnb)
   go_upto_if 43 with (go_at_call 29;refine HCH.out.mono ?_;rintro e w7 ⟨rfl,g7⟩;have HG7:=Lib.hid g7;clear g7)
   go_cut [2] (fun _ W=>Hid (Grown w7 W))
   case first =>
    go_wp2_with fail
    go_meet
    exact Lib.hid (Grown.refl _)
   case rest =>
   refine (show ∀ (a:Act) (w1:World),Code.wp (Pf fs) (behindN 7 body5) (bodyPost (Pf fs) Try.f5 fun e _=>e=.returned (.bool true)) a w1→_ from by assumption) _ _ ?_
   exact law5b S6 (Lib.hid (HG7.out.trans hcut.out)) hnb
  | false =>
   have HCH:=Lib.hid (cheapest_good (fs:=fs) K gA dA hA gc dc hc ms mA mc w6 S6.out.kt S6.out.m hml HA.out hnb)
   go_upto_if 43 with (first|(go_at_call 29;refine HCH.out.mono ?_;rintro e w7 ⟨M,rfl,g7,hd7⟩;have HG7:=Lib.hid g7;have HD7:=Lib.hid hd7;have S7:=Lib.hid (HS.out w7 (HG6.out.trans g7));obtain⟨b0,b1,b2⟩:=S7.out.cells (Grown.refl _);clear g7 hd7)|(go_at_call 31;refine (shaped_rows (fs:=fs) K ms gA dA hA gc dc hc _ _ w7 HD7.out S7.out.kt.nh).mono ?_;rintro e w8 ⟨rfl,g8⟩;have HG8:=Lib.hid g8;clear g8))
   go_cut [2] (fun _ W=>Hid (Grown w8 W))
   case first =>
    go_wp2_with fail
    go_meet
    exact Lib.hid (Grown.refl _)
   case rest =>
   refine (show ∀ (a:Act) (w1:World),Code.wp (Pf fs) (behindN 7 body5) (bodyPost (Pf fs) Try.f5 fun e _=>e=.returned (.bool true)) a w1→_ from by assumption) _ _ ?_
   exact law5g S7 (Lib.hid (HG8.out.trans hcut.out)) hnb HD7
end
end Go.Gal
