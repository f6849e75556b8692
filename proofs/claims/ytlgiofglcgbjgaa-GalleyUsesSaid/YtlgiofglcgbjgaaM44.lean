/- The law GalleyUses, walked (printed by law6.py). -/
import Derived.Test.YtlgiofglcgbjgaaM43
namespace Go.Gal
open Go Go.Par Go.Proofs Go.RowKit
section
variable {fs:Array Func} [LikeS fs]
set_option maxRecDepth 20000 in
set_option maxHeartbeats 8000000 in
theorem law6 (K0:Kt) (gA0 dA0 hA0:Option Addr) (gc0 dc0 hc0:Nat) (xs0:List Int) (mA0:Option Addr) (mc0:Nat) (ns:List Int) (A:Option Addr) (c:Nat) (w:World)
  (hk:KtRaw w K0 gA0 dA0 hA0) (hm:Ints w mA0 xs0) (hx:Ints w A ns) (hl:ns.length≤9223372036854775807) :
  Calls (Pf fs) 6 #[ktV K0 gA0 dA0 hA0 gc0 dc0 hc0,.slice mA0 xs0.length mc0,.slice A ns.length c] w fun e _=>e=.returned (.bool true):=by
 have HF:=Lib.hid (fun W (g:Grown w W)=>full_any (fs:=fs) K0 gA0 dA0 hA0 gc0 dc0 hc0 W (hk.grown g))
 have HR:=Lib.hid hk
 have HM:=Lib.hid hm
 have HX:=Lib.hid hx
 have HG0:=Lib.hid (Grown.alloc w (.cells #[.slice gA0 K0.goods.length gc0,.slice dA0 K0.dishes.length dc0,.slice hA0 K0.hauls.length hc0] 29))
 have HB0:=Lib.hid (heap_alloc_new w (.cells #[.slice gA0 K0.goods.length gc0,.slice dA0 K0.dishes.length dc0,.slice hA0 K0.hauls.length hc0] 29))
 clear hk hm hx
 unfold ktV at *
 cases hf:fullB K0
 rotate_left
 ·rw[hf] at HF
  go_enter LK.func6,Try.ntmps6
  go_wp2_with (first|(go_at_call 32;refine (HF.out _ HG0.out).mono ?_;rintro e w1 ⟨rfl,hg1⟩)|(go_at_call 22;refine (Jq _).mono ?_;rintro e w2 ⟨rfl,hg2⟩))
  go_ret
  rfl
 rw[hf] at HF
 have HSM:=Lib.hid (fullB_false hf)
 clear hf
 by_cases hx20 : 20<xs0.length
 ·have i20:(20:Int)<xs0.length:=by omega
  go_enter LK.func6,Try.ntmps6
  go_wp2_with (first|(go_at_call 32;refine (HF.out _ HG0.out).mono ?_;rintro e w1 ⟨rfl,hg1⟩)|(go_at_call 22;refine (Jq _).mono ?_;rintro e w2 ⟨rfl,hg2⟩))
  go_ret
  rfl
 have i20:¬ (20:Int)<xs0.length:=by omega
 have u20:decide (20<xs0.length)=false:=by simpa using hx20
 go_enter LK.func6,Try.ntmps6
 go_upto_region 4 with (first|(go_at_call 32;refine (HF.out _ HG0.out).mono ?_;rintro e w1 ⟨rfl,hg1⟩;have HG1:=Lib.hid (HG0.out.trans hg1);have HBA:=Lib.hid (zf HB0.out hg1);clear hg1)|(go_at_call 17;refine (newBag_any (fs:=fs) A c ns _ (HX.out.grown HG1.out).toB hl).mono ?_;rintro e w2 ⟨g,rfl,_,hb2,hw2⟩;have HG2:=Lib.hid (HG1.out.trans (Grown.below hw2));have HBB:=Lib.hid (zf HBA.out (Grown.below hw2));have HB2:=Lib.hid hb2;clear hb2 hw2))
 go_upto_region 5 with (go_at_call 18;refine (kitchenOf_any g 3 20 5 w2 HB2.out (by decide) (by decide) (by decide) (by decide) (by decide) (by decide)).mono ?_;rintro e w3 ⟨K,gA,gc,dA,dc,hA,hc,rfl,hK3,hkb3,h1,h2,h3,hcap⟩;have HK3:=Lib.hid hK3;have HKB3:=Lib.hid hkb3;have H2:=Lib.hid h2;have H3:=Lib.hid h3;clear hK3 hkb3 h1 h2 h3 hcap;unfold ktV)
 have hdr:∃ V,V=(w3.alloc (.cells #[.slice gA K.goods.length gc,.slice dA K.dishes.length dc,.slice hA K.hauls.length hc] 29)).drew∧Kb g w2 V∧BagAt V g∧KtAt V K gA dA hA∧KtAt V K0 gA0 dA0 hA0∧Ints V mA0 xs0∧V.heap[w3.heap.size]?=some (.cells #[.slice gA K.goods.length gc,.slice dA K.dishes.length dc,.slice hA K.hauls.length hc] 29 (0,0))∧V.heap[w.heap.size]?=some (.cells #[.slice gA0 K0.goods.length gc0,.slice dA0 K0.dishes.length dc0,.slice hA0 K0.hauls.length hc0] 29 (0,0))∧w3.heap.size≠g∧w.heap.size≠g:=by
  have a1:Kb g w2 (w3.alloc (.cells #[.slice gA K.goods.length gc,.slice dA K.dishes.length dc,.slice hA K.hauls.length hc] 29)).drew:=⟨(HKB3.out.bag.alloc _).drew,(HKB3.out.ke.alloc _).drew⟩
  have a2:BagAt (w3.alloc (.cells #[.slice gA K.goods.length gc,.slice dA K.dishes.length dc,.slice hA K.hauls.length hc] 29)).drew g:=a1.bag
  refine⟨_,rfl,a1,a2,(HK3.out.grown (Grown.alloc w3 _)).grown ((Grown.refl _).drewN 1),((HR.out.at_ HSM.out).grown HG2.out).kb a1 HB2.out,(HM.out.grown HG2.out).kb a1 HB2.out,heap_alloc_new w3 _,?_,fun e=>?_,fun e=>?_⟩
  ·refine a1.ke.block HBB.out fun e=>?_
   rw[e] at HBB
   exact HB2.out.tag HBB.out (by decide) rfl
  ·have:=HKB3.out.bag.lt
   omega
  ·have h:=HBB.out
   rw[e] at h
   exact HB2.out.tag h (by decide) rfl
 obtain⟨V,hV,hkb,hbag,hkt,hkt0,hms0,hbx,hbx0,hne,hne0⟩:=hdr
 have hkey:∀ W,Kb g V W→(W.cell? ⟨w.heap.size,0,none⟩=some (.slice gA0 K0.goods.length gc0)∧W.cell? ⟨w.heap.size,1,none⟩=some (.slice dA0 K0.dishes.length dc0)∧W.cell? ⟨w.heap.size,2,none⟩=some (.slice hA0 K0.hauls.length hc0))∧W.cell? ⟨w3.heap.size,0,none⟩=some (.slice gA K.goods.length gc)∧W.cell? ⟨w3.heap.size,1,none⟩=some (.slice dA K.dishes.length dc)∧W.cell? ⟨w3.heap.size,2,none⟩=some (.slice hA K.hauls.length hc):=fun W k =>
  ⟨⟨k.cell hbag (za hbx0 0) (by simp),k.cell hbag (za hbx0 1) (by simp),k.cell hbag (za hbx0 2) (by simp)⟩,k.cell hbag (za hbx 0) (by simp),k.cell hbag (za hbx 1) (by simp),k.cell hbag (za hbx 2) (by simp)⟩
 have HBAG:=Lib.hid hbag
 have HKT:=Lib.hid hkt
 have HKT0:=Lib.hid hkt0
 have HMS0:=Lib.hid hms0
 have HKEY:=Lib.hid hkey
 have hS:=hkey V (Kb.refl hbag)
 have hG5:=Kb.refl hbag
 have hd1:=H2.out.1
 have hd3:=H2.out.2.1
 have hh5:=H3.out.2.1
 refine qh (by kernel_rfl) (fun W=>(W.cell? ⟨w.heap.size,0,none⟩=some (.slice gA0 K0.goods.length gc0)∧W.cell? ⟨w.heap.size,1,none⟩=some (.slice dA0 K0.dishes.length dc0)∧W.cell? ⟨w.heap.size,2,none⟩=some (.slice hA0 K0.hauls.length hc0))∧W.cell? ⟨w3.heap.size,0,none⟩=some (.slice gA K.goods.length gc)∧W.cell? ⟨w3.heap.size,1,none⟩=some (.slice dA K.dishes.length dc)∧W.cell? ⟨w3.heap.size,2,none⟩=some (.slice hA K.hauls.length hc)) [] ?_
 rw[← hV]
 clear hV hkb hbag hkt hkt0 hms0 hbx hbx0 hkey i20 u20 hx20
 refine zx 0 ?_ rfl hS ?_ ?_;case refine_2=>(intro w hSw;(try dsimp only at hSw);go_simp;try rfl)
 refine zx 1 ?_ rfl hS ?_ ?_;case refine_2=>(intro w hSw;(try dsimp only at hSw);go_simp;try rfl)
 refine zx 2 ?_ rfl hS ?_ ?_;case refine_2=>(intro w hSw;(try dsimp only at hSw);go_simp;try rfl)
 refine zh 4 ?_ rfl ?_ ?_;case refine_2=>(intro w _;go_simp;try rfl)
 refine zh 5 ?_ rfl ?_ ?_;case refine_2=>(intro w _;go_simp;try rfl)
 refine zx 6 ?_ rfl hS ?_ ?_;case refine_2=>(intro w hSw;(try dsimp only at hSw);go_simp;try rfl)
 refine zh 8 ?_ rfl ?_ ?_;case refine_2=>(intro w _;go_simp;try rfl)
 try simp only[Act.put,List.getElem_toArray,List.getElem_cons_succ,List.getElem_cons_zero,List.setIfInBounds_toArray,List.set_cons_zero,List.set_cons_succ]
 refine ZN [⟨3,33,[]⟩,⟨7,37,[]⟩,⟨9,39,[7]⟩,⟨10,9,[3]⟩] (fun i v W=>(i=3→Lit g #[.slice gA0 K0.goods.length gc0,.slice dA0 K0.dishes.length dc0,.slice hA0 K0.hauls.length hc0,.slice gA K.goods.length gc,.slice dA K.dishes.length dc,.slice hA K.hauls.length hc,.slice gA K.goods.length gc,.slice dA K.dishes.length dc,.slice hA K.hauls.length hc] 29 3 v W)∧(i=7→DtM K v W)∧(i=9→MsL g K (.slice mA0 xs0.length mc0) (.slice mA0 xs0.length mc0) v W)∧(i=10→Lit g #[.slice gA0 K0.goods.length gc0,.slice dA0 K0.dishes.length dc0,.slice hA0 K0.hauls.length hc0,.slice gA K.goods.length gc,.slice dA K.dishes.length dc,.slice hA K.hauls.length hc,.slice gA K.goods.length gc,.slice dA K.dishes.length dc,.slice hA K.hauls.length hc] 29 3 v W)) (fun W=>Kb g V W) (fun _ W W'=>Kb g W W'∧BagAt W g) _ (target:=#[true,true,true,true,true,true,true,true,true,true,true,false]) (fuel0:=1) (by decide) (by decide) (by simp) (fun W k=>HKEY.out W k)
  (fun e _ f _ v W W' h hf=>⟨fun q=>(hf.1 q).kb h.1,fun q=>(hf.2.1 q).kb h.1 h.2,fun q=>(hf.2.2.1 q).kb h.1 h.2,fun q=>(hf.2.2.2 q).kb h.1⟩) ?hop ?hfin 4 [3,7,9,10] _ _ _ (by kernel_rfl) (by decide) (fun _ _=>rfl) rfl rfl hG5 (by intro f hf;simp only[List.mem_cons,List.not_mem_nil,or_false] at hf;rcases hf with rfl|rfl|rfl|rfl<;>(intro h;simp at h))
 case hop =>
  intro e he a' w' K' hag hdf hG hD hK
  clear hdf
  simp only[List.mem_cons,List.not_mem_nil,or_false] at he
  rcases he with rfl|rfl|rfl|rfl
  ·have h30:=(hag 30 (by simp)).trans (show _=some (.agg #[.slice gA0 K0.goods.length gc0,.slice dA0 K0.dishes.length dc0,.slice hA0 K0.hauls.length hc0]) from rfl)
   have h31:=(hag 31 (by simp)).trans (show _=some (.agg #[.slice gA K.goods.length gc,.slice dA K.dishes.length dc,.slice hA K.hauls.length hc]) from rfl)
   have h32:=(hag 32 (by simp)).trans (show _=some (.agg #[.slice gA K.goods.length gc,.slice dA K.dishes.length dc,.slice hA K.hauls.length hc]) from rfl)
   have k30:=jt h30
   have k31:=jt h31
   have k32:=jt h32
   refine wpOp_step rfl ?_
   intro K2 hK2
   have HK2:=Lib.hid hK2
   clear hK2 hag
   go_simp
   exact HK2.out _ _ (hK.out _ _ ⟨⟨hG.bag.alloc _,(Ke.refl _).alloc _⟩,hG.bag⟩ (hG.grown (Grown.alloc _ _)) ⟨fun _=>Lit.new hG.bag,by intro q;simp at q,by intro q;simp at q,by intro q;simp at q⟩)
  ·have h35:=(hag 35 (by simp)).trans (show _=some (.pointer (some ⟨g,0,none⟩)) from rfl)
   have h36:=(hag 36 (by simp)).trans (show _=some (.agg #[.slice gA K.goods.length gc,.slice dA K.dishes.length dc,.slice hA K.hauls.length hc]) from rfl)
   have k35:=jt h35
   have k36:=jt h36
   refine wpOp_step rfl ?_
   intro K2 hK2
   have HK2:=Lib.hid hK2
   clear hK2 hag
   go_simp
   refine (menuOf_any g K gA dA hA gc dc hc w' hG.bag hd1 (by omega) (by omega)).mono ?_
   rintro e w4 ⟨mA,mc,ms,rfl,hm4,hkb4,hml4,hmt4,hmc4⟩
   exact HK2.out _ _ (hK.out _ _ ⟨hkb4,hG.bag⟩ (hG.trans hkb4) ⟨by intro q;simp at q,fun _=>⟨mA,mc,ms,rfl,hm4,hml4⟩,by intro q;simp at q,by intro q;simp at q⟩)
  ·obtain⟨v7,h7,f7⟩:=hD ⟨7,37,[]⟩ (by simp) (by simp)
   obtain⟨mA,mc,ms,rfl,hm7,hl7⟩:=f7.2.1 rfl
   have k37:=jt h7
   have HL7:=Lib.hid hl7
   clear hl7
   have h34:=(hag 34 (by simp)).trans (show _=some (.slice mA0 xs0.length mc0) from rfl)
   have h38:=(hag 38 (by simp)).trans (show _=some (.slice mA0 xs0.length mc0) from rfl)
   have k34:=jt h34
   have k38:=jt h38
   refine wpOp_step rfl ?_
   intro K2 hK2
   have HK2:=Lib.hid hK2
   clear hK2 hag
   go_simp
   exact HK2.out _ _ (hK.out _ _ ⟨⟨hG.bag.alloc _,(Ke.refl _).alloc _⟩,hG.bag⟩ (hG.grown (Grown.alloc _ _)) ⟨by intro q;simp at q,by intro q;simp at q,fun _=>⟨mA,mc,ms,Lit.new hG.bag,hm7.grown (Grown.alloc _ _),HL7.out⟩,by intro q;simp at q⟩)
  ·obtain⟨v3,h3,f3⟩:=hD ⟨3,33,[]⟩ (by simp) (by simp)
   have k33:=jt h3
   refine wpOp_step rfl ?_
   intro K2 hK2
   have HK2:=Lib.hid hK2
   clear hK2 hag
   go_simp
   exact HK2.out _ _ (hK.out _ _ ⟨Kb.refl hG.bag,hG.bag⟩ hG ⟨by intro q;simp at q,by intro q;simp at q,by intro q;simp at q,fun _=>f3.1 rfl⟩)
 case hfin =>
  intro a' w' hag hdf hsz hG hF
  obtain⟨v0,g0,F0⟩:=hF ⟨3,33,[]⟩ (by simp)
  obtain⟨v1,g1,F1⟩:=hF ⟨7,37,[]⟩ (by simp)
  obtain⟨v2,g2,F2⟩:=hF ⟨9,39,[7]⟩ (by simp)
  obtain⟨v3,g3,F3⟩:=hF ⟨10,9,[3]⟩ (by simp)
  have ha:=zeH [(33,v0),(37,v1),(39,v2),(9,v3)] hdf hsz (fun s hs=>hag s (by simpa using hs)) (show ([33,37,39,9]:List Nat).Nodup by decide) (fun x hx=>by simp only[List.mem_cons,List.not_mem_nil,or_false] at hx;rcases hx with rfl|rfl|rfl|rfl<;>first|exact g0|exact g1|exact g2|exact g3)
  obtain⟨_,rfl,_,_⟩:=F0.1 rfl
  obtain⟨mA7,mc7,ms7,rfl,hx7,hl7⟩:=F1.2.1 rfl
  clear hx7 hl7
  obtain⟨mA,mc,ms,⟨b2,rfl,hb2,hr2⟩,hm2,hml⟩:=F2.2.2.1 rfl
  obtain⟨b1,rfl,hb1,hr1⟩:=F3.2.2.2 rfl
  have HKB:=Lib.hid hG
  subst ha
  clear hag hdf hsz hS hG
  simp only[List.foldl_cons,List.foldl_nil,Act.put,List.setIfInBounds_toArray,List.set_cons_zero,List.set_cons_succ]
  refine zh 11 ?_ rfl ?_ ?_;case refine_2=>(intro w _;go_simp;try rfl)
  refine qd (by kernel_rfl) ?_
  try simp only[Act.put,List.getElem_toArray,List.getElem_cons_succ,List.getElem_cons_zero,List.setIfInBounds_toArray,List.set_cons_zero,List.set_cons_succ]
  have hk0:=HKT0.out.kb HKB.out HBAG.out
  have hk1:=HKT.out.kb HKB.out HBAG.out
  have hm0:=HMS0.out.kb HKB.out HBAG.out
  have HR:Hid (∀ k,k<3→∃ K1 gA1 dA1 hA1 gc1 dc1 hc1 xs1 mA1 mc1,KtAt w' K1 gA1 dA1 hA1∧Ints w' mA1 xs1∧xs1.length≤1000∧w'.cell? ⟨b1,k*3,none⟩=some (.slice gA1 K1.goods.length gc1)∧w'.cell? ⟨b1,k*3+1,none⟩=some (.slice dA1 K1.dishes.length dc1)∧w'.cell? ⟨b1,k*3+2,none⟩=some (.slice hA1 K1.hauls.length hc1)∧w'.cell? ⟨b2,k,none⟩=some (.slice mA1 xs1.length mc1)):=fun k hk3=>by
   rcases (by omega:k=0∨k=1∨k=2) with rfl|rfl|rfl
   ·exact⟨K0,gA0,dA0,hA0,gc0,dc0,hc0,xs0,mA0,mc0,hk0,hm0,by omega,za hr1 0,za hr1 1,za hr1 2,za hr2 0⟩
   ·exact⟨K,gA,dA,hA,gc,dc,hc,ms,mA,mc,hk1,hm2,by have:=H3.out.2.1;omega,za hr1 3,za hr1 4,za hr1 5,za hr2 1⟩
   ·exact⟨K,gA,dA,hA,gc,dc,hc,xs0,mA0,mc0,hk1,hm0,by omega,za hr1 6,za hr1 7,za hr1 8,za hr2 2⟩
  clear hk0 hk1 hm0 hr1 hr2 hm2 hml F0 F1 F2 F3 g0 g1 g2 g3
  obtain⟨wS,rfl⟩:∃ wS,wS=w':=⟨_,rfl⟩
  go_wp2_with fail
  go_loopw [11] (fun i wr=>∃ k:Nat,k≤3∧i=.int .i64 k∧Hid (Grown wS wr)) (fun i _=>3-(intOf i).toNat)
  case atStart=>exact⟨0,by decide,rfl,Lib.hid (Grown.refl _)⟩
  case round =>
   obtain⟨k,hk,rfl,hgr⟩:=hrel
   by_cases hlt:k<3
   ·have hki:(k:Int)<3:=by omega
    obtain⟨K1,gA1,dA1,hA1,gc1,dc1,hc1,xs1,mA1,mc1,hK1,hM1,hX1,hcl⟩:=HR.out k hlt
    have HK1:=Lib.hid hK1
    have HM1:=Lib.hid hM1
    have HX1:=Lib.hid hX1
    have hkey:∀ W,Grown wS W→W.cell? ⟨b1,k*3,none⟩=some (.slice gA1 K1.goods.length gc1)∧W.cell? ⟨b1,k*3+1,none⟩=some (.slice dA1 K1.dishes.length dc1)∧W.cell? ⟨b1,k*3+2,none⟩=some (.slice hA1 K1.hauls.length hc1)∧W.cell? ⟨b2,k,none⟩=some (.slice mA1 xs1.length mc1):=fun W g=>⟨g.cell hcl.1,g.cell hcl.2.1,g.cell hcl.2.2.1,g.cell hcl.2.2.2⟩
    have HKEY:=Lib.hid hkey
    clear hK1 hM1 hX1 hcl hkey
    go_upto_region 9 with fail
    have hG9:Grown wr wr.drew:=(Grown.refl wr).drewN 1
    have hS:wr.drew.cell? ⟨b1,k*3,none⟩=some (.slice gA1 K1.goods.length gc1)∧wr.drew.cell? ⟨b1,k*3+1,none⟩=some (.slice dA1 K1.dishes.length dc1)∧wr.drew.cell? ⟨b1,k*3+2,none⟩=some (.slice hA1 K1.hauls.length hc1)∧wr.drew.cell? ⟨b2,k,none⟩=some (.slice mA1 xs1.length mc1):=HKEY.out _ (hgr.out.trans hG9)
    refine qh (by kernel_rfl) (fun W=>W.cell? ⟨b1,k*3,none⟩=some (.slice gA1 K1.goods.length gc1)∧W.cell? ⟨b1,k*3+1,none⟩=some (.slice dA1 K1.dishes.length dc1)∧W.cell? ⟨b1,k*3+2,none⟩=some (.slice hA1 K1.hauls.length hc1)∧W.cell? ⟨b2,k,none⟩=some (.slice mA1 xs1.length mc1)) [] ?_
    refine zh 0 ?_ rfl ?_ ?_;case refine_2=>(intro w _;go_simp;try rfl)
    refine zh 1 ?_ rfl ?_ ?_;case refine_2=>(intro w _;go_simp;try rfl)
    refine zh 2 ?_ rfl ?_ ?_;case refine_2=>(intro w _;go_simp;try rfl)
    refine zx 3 ?_ rfl hS ?_ ?_;case refine_2=>(intro w hSw;(try dsimp only at hSw);go_simp;try rfl)
    refine zh 5 ?_ rfl ?_ ?_;case refine_2=>(intro w _;go_simp;try rfl)
    refine zh 6 ?_ rfl ?_ ?_;case refine_2=>(intro w _;go_simp;try rfl)
    refine zh 7 ?_ rfl ?_ ?_;case refine_2=>(intro w _;go_simp;try rfl)
    refine zx 8 ?_ rfl hS ?_ ?_;case refine_2=>(intro w hSw;(try dsimp only at hSw);go_simp;try rfl)
    try simp only[Act.put,List.getElem_toArray,List.getElem_cons_succ,List.getElem_cons_zero,List.setIfInBounds_toArray,List.set_cons_zero,List.set_cons_succ]
    refine ZN [⟨4,50,[]⟩,⟨9,55,[]⟩,⟨10,12,[]⟩] (fun i v W=>(i=4→CpK wr K1 v W)∧(i=9→CpI wr xs1 v W)∧(i=10→Bx0 wr v W)) (fun W=>Grown wr W) (fun _ W W'=>Grown W W') _ (target:=#[true,true,true,true,true,true,true,true,true,true,true,false,false]) (fuel0:=2) (by decide) (by decide) (by simp) (fun W g=>HKEY.out W (hgr.out.trans g))
     (fun e _ f _ v W W' h hf=>⟨fun q=>(hf.1 q).grown h,fun q=>(hf.2.1 q).grown h,fun q=>(hf.2.2 q).grown h⟩) ?hop ?hfin 3 [4,9,10] _ _ _ (by kernel_rfl) (by decide) (fun _ _=>rfl) rfl rfl hG9 (by intro f hf;simp only[List.mem_cons,List.not_mem_nil,or_false] at hf;rcases hf with rfl|rfl|rfl<;>(intro h;simp at h))
    case hop =>
     intro e he a' w' K' hag hdf hG hD hK
     clear hdf
     simp only[List.mem_cons,List.not_mem_nil,or_false] at he
     rcases he with rfl|rfl|rfl
     ·have h49:=(hag 49 (by simp)).trans (show _=some (.agg #[.slice gA1 K1.goods.length gc1,.slice dA1 K1.dishes.length dc1,.slice hA1 K1.hauls.length hc1]) from rfl)
      have k49:=jt h49
      refine wpOp_step rfl ?_
      intro K2 hK2
      have HK2:=Lib.hid hK2
      clear hK2 hag
      go_simp
      refine (copyKitchen_any K1 gA1 dA1 hA1 gc1 dc1 hc1 w' (HK1.out.grown (hgr.out.trans hG))).mono ?_
      rintro e w4 ⟨gAo,gco,dAo,dco,hAo,hco,rfl,ko,g4⟩
      exact HK2.out _ _ (hK.out _ _ g4 (hG.trans g4) ⟨fun _=>CpK.new hG ko,by intro q;simp at q,by intro q;simp at q⟩)
     ·have h54:=(hag 54 (by simp)).trans (show _=some (.slice mA1 xs1.length mc1) from rfl)
      have k54:=jt h54
      refine wpOp_step rfl ?_
      intro K2 hK2
      have HK2:=Lib.hid hK2
      clear hK2 hag
      go_simp
      refine (Qh xs1 mA1 mc1 w' (HM1.out.grown (hgr.out.trans hG)) HX1.out).mono ?_
      rintro e w4 ⟨Ao,co,rfl,g4,o4⟩
      exact HK2.out _ _ (hK.out _ _ g4 (hG.trans g4) ⟨by intro q;simp at q,fun _=>CpI.new hG o4,by intro q;simp at q⟩)
     ·refine wpOp_step rfl ?_
      intro K2 hK2
      have HK2:=Lib.hid hK2
      clear hK2 hag
      go_simp
      exact HK2.out _ _ (hK.out _ _ (Grown.alloc _ _) (hG.trans (Grown.alloc _ _)) ⟨by intro q;simp at q,by intro q;simp at q,fun _=>⟨_,rfl,hG.size,heap_alloc_new _ _⟩⟩)
    case hfin =>
     intro a' w' hag hdf hsz hG hF
     obtain⟨v0,g0,F0⟩:=hF ⟨4,50,[]⟩ (by simp)
     obtain⟨v1,g1,F1⟩:=hF ⟨9,55,[]⟩ (by simp)
     obtain⟨v2,g2,F2⟩:=hF ⟨10,12,[]⟩ (by simp)
     have ha:=zeH [(50,v0),(55,v1),(12,v2)] hdf hsz (fun s hs=>hag s (by simpa using hs)) (show ([50,55,12]:List Nat).Nodup by decide) (fun x hx=>by simp only[List.mem_cons,List.not_mem_nil,or_false] at hx;rcases hx with rfl|rfl|rfl<;>first|exact g0|exact g1|exact g2)
     obtain⟨gAo,dAo,hAo,gco,dco,hco,rfl,hko⟩:=F0.1 rfl
     obtain⟨Ao,co,rfl,hio⟩:=F1.2.1 rfl
     obtain⟨bo,rfl,hbo,hbb⟩:=F2.2.2 rfl
     have hG5:Grown wr (((w'.setCell ⟨bo,0,none⟩ (.slice gAo K1.goods.length gco)).setCell ⟨bo,1,none⟩ (.slice dAo K1.dishes.length dco)).setCell ⟨bo,2,none⟩ (.slice hAo K1.hauls.length hco)):=Zc hG hbo _ _ _
     have hB5:(((w'.setCell ⟨bo,0,none⟩ (.slice gAo K1.goods.length gco)).setCell ⟨bo,1,none⟩ (.slice dAo K1.dishes.length dco)).setCell ⟨bo,2,none⟩ (.slice hAo K1.hauls.length hco)).heap[bo]?=some (.cells #[.slice gAo K1.goods.length gco,.slice dAo K1.dishes.length dco,.slice hAo K1.hauls.length hco] 29 (0,0)):=qP hbb _ _ _
     have hK5:KtAt (((w'.setCell ⟨bo,0,none⟩ (.slice gAo K1.goods.length gco)).setCell ⟨bo,1,none⟩ (.slice dAo K1.dishes.length dco)).setCell ⟨bo,2,none⟩ (.slice hAo K1.hauls.length hco)) K1 gAo dAo hAo:=(hko.box3 hbb _ _ _).kt HK1.out.ds HK1.out.hs HK1.out.ng HK1.out.nd HK1.out.nh
     have hI5:Ints (((w'.setCell ⟨bo,0,none⟩ (.slice gAo K1.goods.length gco)).setCell ⟨bo,1,none⟩ (.slice dAo K1.dishes.length dco)).setCell ⟨bo,2,none⟩ (.slice hAo K1.hauls.length hco)) Ao xs1:=ints_box3 hio hbb _ _ _
     have p0:=za hbb 0
     have p1:=za hbb 1
     have p2:=za hbb 2
     have f0:=zk hbb 0
     have f1:=zk hbb 1
     have f2:=zk hbb 2
     simp only[List.getElem?_toArray,List.getElem?_cons_zero,List.getElem?_cons_succ] at p0 p1 p2
     have HG5:=Lib.hid (hgr.out.trans hG5)
     have HB5:=Lib.hid hB5
     have HK5:=Lib.hid hK5
     have HI5:=Lib.hid hI5
     subst ha
     unfold ktV
     clear hag hdf hsz hS hG9 hG F0 F1 F2 g0 g1 g2 hko hio hbo hbb hG5 hB5 hK5 hI5
     simp only[List.foldl_cons,List.foldl_nil,Act.put,List.setIfInBounds_toArray,List.set_cons_zero,List.set_cons_succ]
     refine zw (i:=11) rfl (by kernel_rfl) ?_
     intro Kq hKq
     go_simp
     obtain⟨W5,hW5⟩:∃ W5,W5=(((w'.setCell ⟨bo,0,none⟩ (.slice gAo K1.goods.length gco)).setCell ⟨bo,1,none⟩ (.slice dAo K1.dishes.length dco)).setCell ⟨bo,2,none⟩ (.slice hAo K1.hauls.length hco)):=⟨_,rfl⟩
     rw[← hW5] at HG5 HB5 HK5 HI5
     rw[← hW5]
     refine hKq.out _ _ (HKEY.out _ HG5.out) (fun _=>?_)
     clear hKq Kq hW5 p0 p1 p2 f0 f1 f2
     refine zh 12 ?_ rfl ?_ ?_;case refine_2=>(intro w _;go_simp;try rfl)
     refine qd (by kernel_rfl) ?_
     try simp only[Act.put,List.getElem_toArray,List.getElem_cons_succ,List.getElem_cons_zero,List.setIfInBounds_toArray,List.set_cons_zero,List.set_cons_succ]
     have hkey2:∀ W,Grown W5 W→(W.cell? ⟨b1,k*3,none⟩=some (.slice gA1 K1.goods.length gc1)∧W.cell? ⟨b1,k*3+1,none⟩=some (.slice dA1 K1.dishes.length dc1)∧W.cell? ⟨b1,k*3+2,none⟩=some (.slice hA1 K1.hauls.length hc1)∧W.cell? ⟨b2,k,none⟩=some (.slice mA1 xs1.length mc1))∧W.cell? ⟨bo,0,none⟩=some (.slice gAo K1.goods.length gco)∧W.cell? ⟨bo,1,none⟩=some (.slice dAo K1.dishes.length dco)∧W.cell? ⟨bo,2,none⟩=some (.slice hAo K1.hauls.length hco):=fun W g=>⟨HKEY.out W (HG5.out.trans g),za (zf HB5.out g) 0,za (zf HB5.out g) 1,za (zf HB5.out g) 2⟩
     have HKEY2:=Lib.hid hkey2
     have HK6:=Lib.hid (fun W (g:Grown W5 W)=>HK1.out.grown (HG5.out.trans g))
     have HM6:=Lib.hid (fun W (g:Grown W5 W)=>HM1.out.grown (HG5.out.trans g))
     obtain⟨⟨q0,q1,q2,q3⟩,o0,o1,o2⟩:=hkey2 W5 (Grown.refl _)
     have hlen:(usesR K1 xs1).length≤1000:=by
      unfold usesR
      split
      ·rw[ZA];exact HK1.out.nh
      ·simp
     have HLEN:=Lib.hid hlen
     clear hkey2 hlen
     go_upto_region 11 with (go_at_call 34;refine (usesP_any K1 gAo dAo hAo gco dco hco xs1 Ao co W5 HK5.out HI5.out HX1.out).mono ?_;rintro e w6 ⟨A1,c1,rfl,hg6,hd6⟩;have HG6:=Lib.hid hg6;have HD6:=Lib.hid hd6;clear hg6 hd6)
     clear q0 q1 q2 q3 o0 o1 o2
     have HG6d:=Lib.hid (HG6.out.drewN 1)
     have hS:(w6.drew.cell? ⟨b1,k*3,none⟩=some (.slice gA1 K1.goods.length gc1)∧w6.drew.cell? ⟨b1,k*3+1,none⟩=some (.slice dA1 K1.dishes.length dc1)∧w6.drew.cell? ⟨b1,k*3+2,none⟩=some (.slice hA1 K1.hauls.length hc1)∧w6.drew.cell? ⟨b2,k,none⟩=some (.slice mA1 xs1.length mc1))∧w6.drew.cell? ⟨bo,0,none⟩=some (.slice gAo K1.goods.length gco)∧w6.drew.cell? ⟨bo,1,none⟩=some (.slice dAo K1.dishes.length dco)∧w6.drew.cell? ⟨bo,2,none⟩=some (.slice hAo K1.hauls.length hco):=HKEY2.out _ HG6d.out
     go_region_held3 (fun W=>(W.cell? ⟨b1,k*3,none⟩=some (.slice gA1 K1.goods.length gc1)∧W.cell? ⟨b1,k*3+1,none⟩=some (.slice dA1 K1.dishes.length dc1)∧W.cell? ⟨b1,k*3+2,none⟩=some (.slice hA1 K1.hauls.length hc1)∧W.cell? ⟨b2,k,none⟩=some (.slice mA1 xs1.length mc1))∧W.cell? ⟨bo,0,none⟩=some (.slice gAo K1.goods.length gco)∧W.cell? ⟨bo,1,none⟩=some (.slice dAo K1.dishes.length dco)∧W.cell? ⟨bo,2,none⟩=some (.slice hAo K1.hauls.length hco))
      (first|(with_reducible exact hS)|go_keep)
      (first|(go_at_call 35;refine (ruses_any K1 gA1 dA1 hA1 gc1 dc1 hc1 xs1 mA1 mc1 _ (HK6.out _ HG6d.out) (HM6.out _ HG6d.out) HX1.out).mono ?_;rintro e w7 ⟨A2,c2,rfl,hg7,hd7⟩;have hS:=HKEY2.out w7 (HG6d.out.trans hg7);have HG7:=Lib.hid (HG6d.out.trans hg7);have HD7:=Lib.hid (And.intro ((HD6.out.grown ((Grown.refl w6).drewN 1)).grown hg7) hd7);clear hg7 hd7))
     clear hS
     have HG7d:=Lib.hid (HG7.out.drewN 1)
     have HD7d:=Lib.hid (And.intro (HD7.out.1.grown ((Grown.refl w7).drewN 1)) (HD7.out.2.grown ((Grown.refl w7).drewN 1)))
     have hS:(w7.drew.cell? ⟨b1,k*3,none⟩=some (.slice gA1 K1.goods.length gc1)∧w7.drew.cell? ⟨b1,k*3+1,none⟩=some (.slice dA1 K1.dishes.length dc1)∧w7.drew.cell? ⟨b1,k*3+2,none⟩=some (.slice hA1 K1.hauls.length hc1)∧w7.drew.cell? ⟨b2,k,none⟩=some (.slice mA1 xs1.length mc1))∧w7.drew.cell? ⟨bo,0,none⟩=some (.slice gAo K1.goods.length gco)∧w7.drew.cell? ⟨bo,1,none⟩=some (.slice dAo K1.dishes.length dco)∧w7.drew.cell? ⟨bo,2,none⟩=some (.slice hAo K1.hauls.length hco):=HKEY2.out _ HG7d.out
     go_upto_region 12 with fail
     go_region_held3 (fun W=>(W.cell? ⟨b1,k*3,none⟩=some (.slice gA1 K1.goods.length gc1)∧W.cell? ⟨b1,k*3+1,none⟩=some (.slice dA1 K1.dishes.length dc1)∧W.cell? ⟨b1,k*3+2,none⟩=some (.slice hA1 K1.hauls.length hc1)∧W.cell? ⟨b2,k,none⟩=some (.slice mA1 xs1.length mc1))∧W.cell? ⟨bo,0,none⟩=some (.slice gAo K1.goods.length gco)∧W.cell? ⟨bo,1,none⟩=some (.slice dAo K1.dishes.length dco)∧W.cell? ⟨bo,2,none⟩=some (.slice hAo K1.hauls.length hco))
      (first|(with_reducible exact hS)|go_keep)
      (first
       | (go_at_call 36;refine (YC K1 gAo dAo hAo gco dco hco _ (HK5.out.grown HG7d.out)).mono ?_;rintro e w8 ⟨rfl,hg8⟩;have hS:=HKEY2.out w8 (HG7d.out.trans hg8);have HG8:=Lib.hid hg8;clear hg8)
       | (go_at_call 37;refine (zau K1 gA1 dA1 hA1 gc1 dc1 hc1 _ (HK6.out _ (HG7d.out.trans HG8.out))).mono ?_;rintro e w9 ⟨rfl,hg9⟩;have hS:=HKEY2.out w9 (HG7d.out.trans (HG8.out.trans hg9));have HG9:=Lib.hid (HG8.out.trans hg9);clear hg9)
       | (go_at_call 38;refine (eqRows_grown A1 A2 c1 c2 (usesR K1 xs1) _ (HD7d.out.1.grown HG9.out) (HD7d.out.2.grown HG9.out) HLEN.out).mono ?_;rintro e wa ⟨rfl,hga⟩;have hS:=HKEY2.out wa (HG7d.out.trans (HG9.out.trans hga));have HGA:=Lib.hid (HG9.out.trans hga);clear hga)
       | (go_at_call 39;refine (equalK_same K1 gAo dAo hAo gA1 dA1 hA1 gco dco hco gc1 dc1 hc1 _ (HK5.out.grown (HG7d.out.trans HGA.out)) (HK6.out _ (HG7d.out.trans HGA.out))).mono ?_;rintro e wb ⟨rfl,hgb⟩;have hS:=HKEY2.out wb (HG7d.out.trans (HGA.out.trans hgb));have HGB:=Lib.hid (HGA.out.trans hgb);clear hgb)
       | (go_at_call 40;refine (eqInts_grown Ao mA1 co mc1 xs1 _ (HI5.out.grown (HG7d.out.trans HGB.out)) (HM6.out _ (HG7d.out.trans HGB.out)) HX1.out).mono ?_;rintro e wz ⟨rfl,hgc⟩;have hS:=HKEY2.out wz (HG7d.out.trans (HGB.out.trans hgc));have HGC:=Lib.hid (HG5.out.trans (HG7d.out.trans (HGB.out.trans hgc)));clear hgc))
     go_wp2_with fail
     go_roundw
     case rel=>exact⟨k+1,by omega,by go_num,HGC⟩
     case measure=>simp[intOf];omega
   ·have hki:¬ (k:Int)<3:=by omega
    have u3:decide (k<3)=false:=by simpa using hlt
    go_wp2_with (go_at_call 22;refine (Jq _).mono ?_;rintro e w2 ⟨rfl,hg2⟩)
    go_ret
    rfl
end
end Go.Gal
