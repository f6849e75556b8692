/- Walks: GalleyCheapest (printed by lawcheap.py a). -/
import Derived.Test.YtlgiofglcgbjgaaM43
import Derived.Test.YtlgiofglcgbjgaaM44
namespace Go.Gal
open Go Go.Par Go.Proofs Go.RowKit
section
variable {fs:Array Func} [LikeS fs]
set_option maxRecDepth 20000 in
set_option maxHeartbeats 8000000 in
theorem law9 (ns:List Int) (A:Option Addr) (c:Nat) (w:World) (hx:Ints w A ns) (hl:ns.length≤9223372036854775807):Calls (Pf fs) 9 #[.slice A ns.length c] w fun e _=>e=.returned (.bool true):=by
 have HB:=Lib.hid (newBag_any (fs:=fs) A c ns w hx.toB hl)
 clear hx
 go_enter LK.func9,Try.ntmps9
 go_wp2_with (go_at_call 17;refine HB.out.mono ?_;rintro e w1 ⟨g,rfl,_,hb1,_⟩;clear HB)
 go_wp2_with (go_at_call 18;refine (kitchenOf_3 g 2 3 3 w1 hb1 (by decide) (by decide) rfl (by decide) (by decide)).mono ?_;rintro e w2 ⟨K,gA,gc,dA,dc,hA,hc,rfl,hK2,hkb2,h1,h2,h3,hcap⟩;have HC:=Lib.hid (dealt_valid h1 h2 h3 (by decide) (by decide) (by decide));have HK2:=Lib.hid hK2;have HB2:=Lib.hid hkb2.bag;have H1:=Lib.hid h1;have H2:=Lib.hid h2;have H3:=Lib.hid h3;have HCAP:=Lib.hid hcap;clear hb1 hK2 hkb2 h1 h2 h3 hcap;unfold ktV)
 have hbx:(w2.alloc (.cells #[.slice gA K.goods.length gc,.slice dA K.dishes.length dc,.slice hA K.hauls.length hc] 29)).heap[w2.heap.size]?=some (.cells #[.slice gA K.goods.length gc,.slice dA K.dishes.length dc,.slice hA K.hauls.length hc] 29 (0,0)):=heap_alloc_new w2 _
 have hS:(w2.alloc (.cells #[.slice gA K.goods.length gc,.slice dA K.dishes.length dc,.slice hA K.hauls.length hc] 29)).cell? ⟨w2.heap.size,0,none⟩=some (.slice gA K.goods.length gc)∧(w2.alloc (.cells #[.slice gA K.goods.length gc,.slice dA K.dishes.length dc,.slice hA K.hauls.length hc] 29)).cell? ⟨w2.heap.size,1,none⟩=some (.slice dA K.dishes.length dc)∧(w2.alloc (.cells #[.slice gA K.goods.length gc,.slice dA K.dishes.length dc,.slice hA K.hauls.length hc] 29)).cell? ⟨w2.heap.size,2,none⟩=some (.slice hA K.hauls.length hc):=⟨za hbx 0,za hbx 1,za hbx 2⟩
 have HBX:=Lib.hid hbx
 have HK3:=Lib.hid (show KtAt (w2.alloc (.cells #[.slice gA K.goods.length gc,.slice dA K.dishes.length dc,.slice hA K.hauls.length hc] 29)) K gA dA hA from HK2.out.grown (Grown.alloc w2 (.cells #[.slice gA K.goods.length gc,.slice dA K.dishes.length dc,.slice hA K.hauls.length hc] 29)))
 have HB3:=Lib.hid (HB2.out.alloc (.cells #[.slice gA K.goods.length gc,.slice dA K.dishes.length dc,.slice hA K.hauls.length hc] 29))
 have hne:=HB2.out.lt
 have hg1:=H1.out.1
 have hg3:=H1.out.2.1
 have hh1:=H3.out.1
 have hh5:=H3.out.2.1
 generalize hw3:(w2.alloc (.cells #[.slice gA K.goods.length gc,.slice dA K.dishes.length dc,.slice hA K.hauls.length hc] 29))=w3 at HBX HK3 HB3 hS
 have HW3:=Lib.hid hw3
 clear hw3 hbx HK2 HB2
 have HHS:=Lib.hid hS
 have key:∀ W,Kb g w3 W→W.cell? ⟨w2.heap.size,0,none⟩=some (.slice gA K.goods.length gc)∧W.cell? ⟨w2.heap.size,1,none⟩=some (.slice dA K.dishes.length dc)∧W.cell? ⟨w2.heap.size,2,none⟩=some (.slice hA K.hauls.length hc):=fun W k=>⟨k.cell HB3.out HHS.out.1 (by simp),k.cell HB3.out HHS.out.2.1 (by simp),k.cell HB3.out HHS.out.2.2 (by simp)⟩
 have KEY:=Lib.hid key
 clear key
 generalize hbxn:w2.heap.size=bx at *
 clear hbxn
 clear HW3 hS
 refine (menuOf_any g K gA dA hA gc dc hc w3 HB3.out (by have:=H2.out.1;omega) (by have:=H2.out.2.1;omega) (by omega)).mono ?_
 rintro e w4 ⟨mA,mc,ms,rfl,hm4,hkb4,hml4,hmt4,hmc4⟩
 have HKB5:=Lib.hid hkb4
 have HMS:=Lib.hid hm4
 have HML:=Lib.hid hml4
 have HMT:=Lib.hid hmt4
 have HMC:=Lib.hid hmc4
 clear hm4 hkb4 hml4 hmt4 hmc4
 go_upto_region 4 with fail
 have hS:=KEY.out w4 HKB5.out
 have HBS:=Lib.hid (HKB5.out.ke.block HBX.out (by omega))
 have HKS:=Lib.hid (HK3.out.kb HKB5.out HB3.out)
 obtain⟨a0,a1,a2⟩:=hS
 clear HKB5 HBX HK3 HB3 HHS KEY
 generalize w4=wS at *
 have hsi:=single_any (fs:=fs) K gA dA hA gc dc hc wS HKS.out
 by_cases hsing:K.dishes.length=1∧1<K.hauls.length
 ·rw[show (decide (K.dishes.length=1)&&decide (1<K.hauls.length))=true by simp[hsing]] at hsi
  have HSI:=Lib.hid hsi
  clear hsi hsing
  go_wp2_with (first|(go_at_call 21;refine HSI.out.mono ?_;rintro e w6 ⟨rfl,g6⟩)|(go_at_call 22;refine (served_any _).mono ?_;rintro e w7 ⟨rfl,g7⟩))
  go_ret
  rfl
 ·rw[show (decide (K.dishes.length=1)&&decide (1<K.hauls.length))=false by simp;omega] at hsi
  have HSI:=Lib.hid hsi
  have HA:=Lib.hid (asked_of HC.out (menuTo_zero HMT.out HML.out H2.out.1 hsing))
  have hml:ms.length≤1000:=by have:=HML.out;omega
  obtain⟨hb,ho,rfl,_⟩:=HKS.out.hauls 0 _ (List.getElem?_eq_getElem (show 0<K.hauls.length by omega))
  obtain⟨gb,go,rfl,_⟩:=HKS.out.goods 0 _ (List.getElem?_eq_getElem (show 0<K.goods.length by omega))
  have HS:=Lib.hid (show ∀ W,Grown wS W→Apart5 W K ms (some ⟨gb,go,none⟩) dA (some ⟨hb,ho,none⟩) mA gc dc hc bx from fun W g=>⟨HKS.out.grown g,HMS.out.grown g,zk HBS.out g,HC.out,HA.out,hml,⟨hg1,H2.out.1,hh1⟩,by omega,fun d hd=>(H2.out.2.2 d hd).1,fun x hx=>(H3.out.2.2 x hx).len⟩)
  have HRM:=Lib.hid (show ∀ g,g<K.goods.length→0≤(gdAt K.goods g).room∧(gdAt K.goods g).room≤3 from fun g hg=>by have:=(H1.out.2.2 _ (List.mem_of_getElem? (gdAt_get hg))).room;omega)
  have HPL:=Lib.hid (show ∀ h,h<K.hauls.length→(hlAt K.hauls h).prices.length=K.goods.length from fun h hh=>(H3.out.2.2 _ (List.mem_of_getElem? (jG hh))).len)
  have hcnt:(allL K K.hauls.length).length≤100000:=by
   have h1:=allL_count (K:=K) (fun h g=>by
    unfold mostN
    split
    ·omega
    ·rcases Nat.lt_or_ge g K.goods.length with q|q
     ·have:=HRM.out g q;omega
     ·unfold gdAt
      rw[List.getD_eq_getElem?_getD,List.getElem?_eq_none (by omega)]
      simp) hg3 K.hauls.length
   have h2 : 16 ^ K.hauls.length≤16 ^ 3:=Nat.pow_le_pow_right (by decide) hh5
   have h3:(16:Nat) ^ 3=4096:=by decide
   omega
  have hal:=fun W (g:Grown wS W)=>all_ref (fs:=fs) K gb go gc dA dc hb ho hc W (HKS.out.grown g) hg3 hh5 HRM.out HPL.out
  have HAL:=Lib.hid hal
  clear hsi hsing hal
  go_upto_region 6 with (go_at_call 21;refine HSI.out.mono ?_;rintro e w6 ⟨rfl,g6⟩;have HG6:=Lib.hid g6;obtain⟨b0,b1,b2⟩:=(HS.out _ g6).cells (Grown.refl _);clear g6)
  go_cut [6] (fun v W=>∃ (lA:Option Addr) (lc:Nat),v=.slice lA (allL K K.hauls.length).length lc∧Hid (Grown wS W)∧Hid (Row3 W w6.heap.size lA lc (allL K K.hauls.length)))
  case first =>
   go_wp2_with (go_at_call 49;refine (HAL.out _ HG6.out).mono ?_;rintro e w7 ⟨lA,lc,rfl,g7,hr7⟩;have HG7:=Lib.hid (HG6.out.trans g7);have HR7:=Lib.hid hr7;clear g7 hr7)
   go_meet
   exact⟨lA,lc,rfl,HG7,HR7⟩
  case rest =>
  obtain⟨lA,lc,rfl,HG7,HR7⟩:=hcut
  refine (show ∀ (a:Act) (w1:World),Code.wp (Pf fs) (behindN 6 body9) (bodyPost (Pf fs) Try.f9 fun e _=>e=.returned (.bool true)) a w1→_ from by assumption) _ _ ?_
  exact law9b (Lib.hid (HS.out _ HG7.out)) HR7 hcnt
end
end Go.Gal
