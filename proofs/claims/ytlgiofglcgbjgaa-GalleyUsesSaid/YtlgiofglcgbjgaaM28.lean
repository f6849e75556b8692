/- Walks: Check. Walks: asked. Walks: loaded, given. What it means that a kitchen, a menu, loads have no error. From a kitchen and a menu without error to what 'cheapest' asks for. -/
import Derived.Test.YtlgiofglcgbjgaaM27
namespace Go.Gal
open Go Go.Par Go.Proofs Go.RowKit
section
section
variable {fs:Array Func} [Like fs]
set_option maxRecDepth 20000 in
set_option maxHeartbeats 4000000 in
theorem YC (K:Kt) (gA dA hA:Option Addr) (gc dc hc:Nat) (w:World) (h:KtAt w K gA dA hA) :
  Calls (Pf fs) 36 #[ktV K gA dA hA gc dc hc] w fun e w'=>e=.returned (.int .i64 (zC K))∧Grown w w':=by
 obtain⟨W1,hW1⟩:∃ W1,W1=w.alloc (.cells #[.slice gA K.goods.length gc,.slice dA K.dishes.length dc,.slice hA K.hauls.length hc] 29):=⟨_,rfl⟩
 have hb:W1.heap[w.heap.size]?=some (.cells #[.slice gA K.goods.length gc,.slice dA K.dishes.length dc,.slice hA K.hauls.length hc] 29 (0,0)):=by rw[hW1];exact heap_alloc_new w _
 have hg:Grown w W1:=by rw[hW1];exact .alloc _ _
 have HB:=Lib.hid hb
 have HG:=Lib.hid hg
 have HK:=Lib.hid (h.grown hg)
 have z0:∀ W,Grown W1 W→W.cell? ⟨w.heap.size,0,none⟩=some (.slice gA K.goods.length gc)∧W.cell? ⟨w.heap.size,1,none⟩=some (.slice dA K.dishes.length dc)∧W.cell? ⟨w.heap.size,2,none⟩=some (.slice hA K.hauls.length hc):=fun W g =>
  ⟨za (zf hb g) 0,za (zf hb g) 1,za (zf hb g) 2⟩
 have HZ:=Lib.hid z0
 obtain⟨y0,y1,y2⟩:=z0 W1 (Grown.refl _)
 have hwl:=K.goods.length
 have hng:=h.ng
 have hnd:=h.nd
 have hnh:=h.nh
 clear h hb hg z0
 by_cases h1:manyE K.goods.length 1 3=0
 ·have hM:∀ W,Calls (Pf fs) 78 #[.int .i64 K.goods.length,.int .i64 1,.int .i64 3] W fun e w'=>e=.returned (.int .i64 0)∧w'=W:=fun W=>by
   have:=jd (fs:=fs) K.goods.length 1 3 W
   rw[h1] at this
   exact this
  have hgE:js K.goods=if K.goods.any zB then 1 else 0:=by unfold js;rw[if_neg (by simp[h1])]
  have HM:=Lib.hid hM
  have HGE:=Lib.hid hgE
  have HF:=Lib.hid HK.out.goods.form
  have hR0:Hid (K.goods.any zB=(K.goods.drop 0).any zB):=rfl
  clear hM hgE h1
  unfold ktV
  go_enter LK.func36,Try.ntmps36
  rw[hW1] at y0
  go_wp2_with (go_at_call 78;refine (HM.out _).mono ?_;rintro e w' ⟨rfl,rfl⟩)
  rw[← hW1] at y0 ⊢
  clear hW1
  go_loopw [24] (fun i wr=>∃ k:Nat,k≤K.goods.length∧i=.int .i64 k∧Hid (Grown W1 wr)∧Hid (K.goods.any zB=(K.goods.drop k).any zB)) (fun i _=>K.goods.length-(intOf i).toNat)
  case atStart=>exact⟨0,Nat.zero_le _,rfl,Grown.refl _,hR0⟩
  case round =>
   obtain⟨k,hk,rfl,hgr,hRk⟩:=hrel
   clear hR0
   by_cases hlt:k<K.goods.length
   ·rcases HF.out with hnil|⟨b,off,rfl,hcell⟩
    ·rw[hnil] at hlt
     exact absurd hlt (by simp)
    ·obtain⟨c1,c2,c3,c4⟩:=hcell k _ (List.getElem?_eq_getElem hlt)
     have d1:=hgr.out.cell c1
     have d2:=hgr.out.cell c2
     have d3:=hgr.out.cell c3
     have d4:=hgr.out.cell c4
     have hst:(K.goods.drop k).any zB=(zB K.goods[k]||(K.goods.drop (k+1)).any zB):=by
      rw[List.drop_eq_getElem_cons hlt,List.any_cons]
     have hN:=Lib.hid (hRk.out.trans hst)
     clear hcell hst hRk c1 c2 c3 c4
     generalize K.goods[k]=x at d1 d2 d3 d4 hN
     go_upto_region 7 with fail
     go_cut [49] (fun v wy=>v=.bool (zB x)∧wy=wr.alloc (.cells #[.int .i64 x.room,.int .i64 x.reserve,.int .i64 x.melts,.int .i64 x.start] 42))
     case first =>
      clear d1 d2 d3 d4
      cases o1:outB x.room 1 20
      ·cases o2:outB x.reserve 0 x.room
       ·cases o3:outB x.melts 0 12
        ·cases o4:outB x.start 0 x.room
         ·skip
          have hbd:zB x=false:=by simp[zB,o1,o2,o3,o4]
          have HBD:=Lib.hid hbd
          clear hbd
          go_wp2_with (go_at_call 70;refine (qV _ _ _ _).mono ?_;rintro e w1 ⟨rfl,rfl⟩)
          go_meet
          exact⟨by rw[HBD.out],rfl⟩
         ·skip
          have hbd:zB x=true:=by simp[zB,o1,o2,o3,o4]
          have HBD:=Lib.hid hbd
          clear hbd
          go_wp2_with (go_at_call 70;refine (qV _ _ _ _).mono ?_;rintro e w1 ⟨rfl,rfl⟩)
          go_meet
          exact⟨by rw[HBD.out],rfl⟩
        ·skip
         have hbd:zB x=true:=by simp[zB,o1,o2,o3]
         have HBD:=Lib.hid hbd
         clear hbd
         go_wp2_with (go_at_call 70;refine (qV _ _ _ _).mono ?_;rintro e w1 ⟨rfl,rfl⟩)
         go_meet
         exact⟨by rw[HBD.out],rfl⟩
       ·skip
        have hbd:zB x=true:=by simp[zB,o1,o2]
        have HBD:=Lib.hid hbd
        clear hbd
        go_wp2_with (go_at_call 70;refine (qV _ _ _ _).mono ?_;rintro e w1 ⟨rfl,rfl⟩)
        go_meet
        exact⟨by rw[HBD.out],rfl⟩
      ·skip
       have hbd:zB x=true:=by simp[zB,o1]
       have HBD:=Lib.hid hbd
       clear hbd
       go_wp2_with (go_at_call 70;refine (qV _ _ _ _).mono ?_;rintro e w1 ⟨rfl,rfl⟩)
       go_meet
       exact⟨by rw[HBD.out],rfl⟩
     case rest =>
     obtain⟨rfl,rfl⟩:=hcut
     have HGA:=Lib.hid (hgr.out.trans (Grown.alloc wr (.cells #[.int .i64 x.room,.int .i64 x.reserve,.int .i64 x.melts,.int .i64 x.start] 42)))
     cases hbx:zB x
     ·rw[hbx] at hN
      have HN2:=Lib.hid hN
      clear hN hbx
      go_wp2_with fail
      go_roundw
      case rel=>exact⟨k+1,by omega,by go_num,HGA.out,by have h2:=HN2.out.out;rw[Bool.false_or] at h2;exact h2⟩
      case measure=>simp[intOf];omega
     ·rw[hbx] at hN
      have hE:zC K=1:=by
       have h2:=hN.out
       rw[Bool.true_or] at h2
       have h3:js K.goods=1:=by rw[HGE.out,h2];rfl
       unfold zC
       rw[h3]
       rfl
      have HE:=Lib.hid hE
      clear hE hN hbx
      go_wp2_with fail
      go_ret
      exact⟨by rw[HE.out];rfl,HG.out.trans HGA.out⟩
   ·have hke:k=K.goods.length:=by omega
    have hE0:js K.goods=0:=by
     have h2:=hRk.out
     rw[hke,List.drop_length] at h2
     rw[HGE.out,h2]
     rfl
    have hC0:zC K=if qj K.goods.length K.dishes≠0 then qj K.goods.length K.dishes else qF K.goods.length K.hauls:=by
     unfold zC
     rw[hE0]
     rfl
    have HC0:=Lib.hid hC0
    obtain⟨x0,x1,x2⟩:=HZ.out wr hgr.out
    clear hke hRk hE0 HM y0 y1 y2 hC0
    by_cases h2:manyE K.dishes.length 1 3=0
    ·have hM:∀ W,Calls (Pf fs) 78 #[.int .i64 K.dishes.length,.int .i64 1,.int .i64 3] W fun e w'=>e=.returned (.int .i64 0)∧w'=W:=fun W=>by
      have:=jd (fs:=fs) K.dishes.length 1 3 W
      rw[h2] at this
      exact this
     have hdE:qj K.goods.length K.dishes=qp (fun d=>eachE d K.goods.length 0 3) K.dishes:=by unfold qj;rw[if_neg (by simp[h2])]
     have HM:=Lib.hid hM
     have HDE:=Lib.hid hdE
     clear hM hdE h2
     have hgr':=hgr
     go_wp2_with (go_at_call 78;refine (HM.out _).mono ?_;rintro e w' ⟨rfl,rfl⟩)
     clear hgr HM x1
     have HGR0:=Lib.hid (Grown.refl W1)
     have hgr1:Hid (Grown W1 w'):=hgr'
     have hR1:Hid (qj K.goods.length K.dishes=qp (fun d=>eachE d K.goods.length 0 3) (K.dishes.drop 0)):=HDE.out
     go_loopw [61] (fun i wr=>∃ k:Nat,k≤K.dishes.length∧i=.int .i64 k∧Hid (Grown W1 wr)∧Hid (qj K.goods.length K.dishes=qp (fun d=>eachE d K.goods.length 0 3) (K.dishes.drop k))) (fun i _=>K.dishes.length-(intOf i).toNat)
     case atStart=>exact⟨0,Nat.zero_le _,rfl,hgr1,hR1⟩
     case round =>
      obtain⟨j,hj,rfl,hgr,hRk⟩:=hrel
      clear hR1 hgr1 x0 x2
      by_cases hlt:j<K.dishes.length
      ·obtain⟨b,off,rfl,eA,ec,c1,c2,c3⟩:=HK.out.dishes j _ (List.getElem?_eq_getElem hlt)
       have d1:=hgr.out.cell c1
       have hIn:=c2.grown hgr.out
       have hN:=Lib.hid (hRk.out.trans (yF (fun d=>eachE d K.goods.length 0 3) hlt))
       clear c1 c2 hRk
       generalize K.dishes[j]=x at d1 hIn hN c3
       have hga:Grown W1 (wr.alloc (.cells #[.slice eA x.length ec] 48)):=hgr.out.trans (.alloc _ _)
       obtain⟨v0,_,_⟩:=HZ.out _ hga
       have hEa:Calls (Pf fs) 79 #[.slice eA x.length ec,.int .i64 K.goods.length,.int .i64 0,.int .i64 3] (wr.alloc (.cells #[.slice eA x.length ec] 48)) fun e w'=>e=.returned (.int .i64 (eachE x K.goods.length 0 3))∧w'=(wr.alloc (.cells #[.slice eA x.length ec] 48)):=zbk x eA ec _ 0 3 _ (hIn.grown (.alloc _ _)) (by omega)
       have HEA:=Lib.hid hEa
       have HGA:=Lib.hid hga
       clear hEa hga hIn
       by_cases hz:eachE x K.goods.length 0 3=0
       ·have HN2:Hid (qj K.goods.length K.dishes=qp (fun d=>eachE d K.goods.length 0 3) (K.dishes.drop (j+1))):=by
         have h2:=hN.out
         rw[if_neg (by simp[hz])] at h2
         exact h2
        rw[hz] at HEA
        clear hN hz
        go_wp2_with (go_at_call 79;refine HEA.out.mono ?_;rintro e w1 ⟨rfl,rfl⟩)
        go_roundw
        case rel=>exact⟨j+1,by omega,by go_num,HGA.out,HN2⟩
        case measure=>simp[intOf];omega
       ·have hE:zC K=eachE x K.goods.length 0 3:=by
         have h2:=hN.out
         rw[if_pos hz] at h2
         rw[HC0.out,h2,if_pos hz]
        have HE:=Lib.hid hE
        generalize eachE x K.goods.length 0 3=m at hz HE HEA
        clear hN hE
        go_wp2_with (go_at_call 79;refine HEA.out.mono ?_;rintro e w1 ⟨rfl,rfl⟩)
        go_ret
        exact⟨by rw[HE.out];rfl,HG.out.trans HGA.out⟩
      ·have hke:j=K.dishes.length:=by omega
       have hE0:qj K.goods.length K.dishes=0:=by
        have h2:=hRk.out
        rw[hke,List.drop_length] at h2
        exact h2
       have hC1:zC K=qF K.goods.length K.hauls:=by
        rw[HC0.out,hE0]
        rfl
       have HC1:=Lib.hid hC1
       obtain⟨x0,x1,x2⟩:=HZ.out wr hgr.out
       clear hke hRk hE0 hC1
       by_cases h3:manyE K.hauls.length 1 5=0
       ·have hM:∀ W,Calls (Pf fs) 78 #[.int .i64 K.hauls.length,.int .i64 1,.int .i64 5] W fun e w'=>e=.returned (.int .i64 0)∧w'=W:=fun W=>by
         have:=jd (fs:=fs) K.hauls.length 1 5 W
         rw[h3] at this
         exact this
        have hdE:qF K.goods.length K.hauls=qp (haulE K.goods.length) K.hauls:=by unfold qF;rw[if_neg (by simp[h3])]
        have HM:=Lib.hid hM
        have HHE:=Lib.hid hdE
        clear hM hdE h3
        have hgr':=hgr
        go_wp2_with (go_at_call 78;refine (HM.out _).mono ?_;rintro e w2 ⟨rfl,rfl⟩)
        clear hgr HM x1
        have hgr1:Hid (Grown W1 w2):=hgr'
        have hR1:Hid (qF K.goods.length K.hauls=qp (haulE K.goods.length) (K.hauls.drop 0)):=HHE.out
        go_loopw [85] (fun i wr=>∃ k:Nat,k≤K.hauls.length∧i=.int .i64 k∧Hid (Grown W1 wr)∧Hid (qF K.goods.length K.hauls=qp (haulE K.goods.length) (K.hauls.drop k))) (fun i _=>K.hauls.length-(intOf i).toNat)
        case atStart=>exact⟨0,Nat.zero_le _,rfl,hgr1,hR1⟩
        case round =>
         obtain⟨l,hl,rfl,hgr,hRk⟩:=hrel
         clear hR1 hgr1 x0 x2
         by_cases hlt:l<K.hauls.length
         ·obtain⟨b,off,rfl,eA,ec,c1,c2,c3,c4,c5⟩:=HK.out.hauls l _ (List.getElem?_eq_getElem hlt)
          have d1:=hgr.out.cell c1
          have d2:=hgr.out.cell c2
          have d3:=hgr.out.cell c3
          have hIn:=c4.grown hgr.out
          have hN:=Lib.hid (hRk.out.trans (yF (haulE K.goods.length) hlt))
          clear c1 c2 c3 c4 hRk
          generalize K.hauls[l]=x at d1 d2 d3 hIn hN c5
          have hga:Grown W1 (wr.alloc (.cells #[.int .i64 x.hours,.int .i64 x.covers,.slice eA x.prices.length ec] 46)):=hgr.out.trans (.alloc _ _)
          obtain⟨v0,_,_⟩:=HZ.out _ hga
          have hEa:Calls (Pf fs) 79 #[.slice eA x.prices.length ec,.int .i64 K.goods.length,.int .i64 0,.int .i64 50] (wr.alloc (.cells #[.int .i64 x.hours,.int .i64 x.covers,.slice eA x.prices.length ec] 46)) fun e w'=>e=.returned (.int .i64 (eachE x.prices K.goods.length 0 50))∧w'=(wr.alloc (.cells #[.int .i64 x.hours,.int .i64 x.covers,.slice eA x.prices.length ec] 46)):=zbk x.prices eA ec _ 0 50 _ (hIn.grown (.alloc _ _)) (by omega)
          have HEA:=Lib.hid hEa
          have HGA:=Lib.hid hga
          clear hEa hga hIn
          cases o1:outB x.hours 0 24
          ·cases o2:outB x.covers 0 9
           ·have hx1:haulE K.goods.length x=eachE x.prices K.goods.length 0 50:=by simp[haulE,o1,o2]
            by_cases hz:eachE x.prices K.goods.length 0 50=0
            ·have HN2:Hid (qF K.goods.length K.hauls=qp (haulE K.goods.length) (K.hauls.drop (l+1))):=by
              have h2:=hN.out
              rw[hx1,if_neg (by simp[hz])] at h2
              exact h2
             rw[hz] at HEA
             clear hN hz hx1
             go_wp2_with (first|(go_at_call 70;refine (qV _ _ _ _).mono ?_;rintro e w1 ⟨rfl,rfl⟩)|(go_at_call 79;refine HEA.out.mono ?_;rintro e w1 ⟨rfl,rfl⟩))
             go_roundw
             case rel=>exact⟨l+1,by omega,by go_num,HGA.out,HN2⟩
             case measure=>simp[intOf];omega
            ·have hE:zC K=eachE x.prices K.goods.length 0 50:=by
              have h2:=hN.out
              rw[hx1,if_pos hz] at h2
              rw[HC1.out,h2]
             have HE:=Lib.hid hE
             clear hx1 hN hE
             generalize eachE x.prices K.goods.length 0 50=m at hz HE HEA
             go_wp2_with (first|(go_at_call 70;refine (qV _ _ _ _).mono ?_;rintro e w1 ⟨rfl,rfl⟩)|(go_at_call 79;refine HEA.out.mono ?_;rintro e w1 ⟨rfl,rfl⟩))
             go_ret
             exact⟨by rw[HE.out];rfl,HG.out.trans HGA.out⟩
           ·have hx1:haulE K.goods.length x=1:=by simp[haulE,o1,o2]
            have hE:zC K=1:=by
             have h2:=hN.out
             rw[hx1,if_pos (by decide)] at h2
             rw[HC1.out,h2]
            have HE:=Lib.hid hE
            clear hE hN hx1
            go_wp2_with (go_at_call 70;refine (qV _ _ _ _).mono ?_;rintro e w1 ⟨rfl,rfl⟩)
            go_ret
            exact⟨by rw[HE.out];rfl,HG.out.trans HGA.out⟩
          ·have hx1:haulE K.goods.length x=1:=by simp[haulE,o1]
           have hE:zC K=1:=by
            have h2:=hN.out
            rw[hx1,if_pos (by decide)] at h2
            rw[HC1.out,h2]
           have HE:=Lib.hid hE
           clear hE hN hx1
           go_wp2_with (go_at_call 70;refine (qV _ _ _ _).mono ?_;rintro e w1 ⟨rfl,rfl⟩)
           go_ret
           exact⟨by rw[HE.out];rfl,HG.out.trans HGA.out⟩
         ·have hke:l=K.hauls.length:=by omega
          have hE:zC K=0:=by
           have h2:=hRk.out
           rw[hke,List.drop_length] at h2
           rw[HC1.out,h2]
           rfl
          have HE:=Lib.hid hE
          clear hke hRk hE
          go_wp2_with fail
          go_ret
          exact⟨by rw[HE.out];rfl,HG.out.trans hgr.out⟩
       ·have hE:zC K=manyE K.hauls.length 1 5:=by
         have hd:qF K.goods.length K.hauls=manyE K.hauls.length 1 5:=by unfold qF;rw[if_pos h3]
         rw[HC1.out,hd]
        have HE:=Lib.hid hE
        have hM:=fun W=>jd (fs:=fs) K.hauls.length 1 5 W
        generalize manyE K.hauls.length 1 5=m at h3 HE hM
        have HM:=Lib.hid hM
        clear hM hE
        go_wp2_with (go_at_call 78;refine (HM.out _).mono ?_;rintro e w2 ⟨rfl,rfl⟩)
        go_ret
        exact⟨by rw[HE.out];rfl,HG.out.trans hgr.out⟩
    ·have hE:zC K=manyE K.dishes.length 1 3:=by
      have hd:qj K.goods.length K.dishes=manyE K.dishes.length 1 3:=by unfold qj;rw[if_pos h2]
      rw[HC0.out,hd,if_pos h2]
     have HE:=Lib.hid hE
     have hM:=fun W=>jd (fs:=fs) K.dishes.length 1 3 W
     generalize manyE K.dishes.length 1 3=m at h2 HE hM
     have HM:=Lib.hid hM
     clear hM hE
     go_wp2_with (go_at_call 78;refine (HM.out _).mono ?_;rintro e w' ⟨rfl,rfl⟩)
     go_ret
     exact⟨by rw[HE.out];rfl,HG.out.trans hgr.out⟩
 ·have hE:zC K=manyE K.goods.length 1 3:=by
   have hd:js K.goods=manyE K.goods.length 1 3:=by unfold js;rw[if_pos h1]
   unfold zC
   rw[hd,if_pos h1]
  have HE:=Lib.hid hE
  have hM:=fun W=>jd (fs:=fs) K.goods.length 1 3 W
  generalize manyE K.goods.length 1 3=m at h1 HE hM
  have HM:=Lib.hid hM
  clear hM hE
  unfold ktV
  go_enter LK.func36,Try.ntmps36
  rw[hW1] at y0
  go_wp2_with (go_at_call 78;refine (HM.out _).mono ?_;rintro e w' ⟨rfl,rfl⟩)
  go_ret
  refine⟨by rw[HE.out];rfl,?_⟩
  rw[← hW1]
  exact HG.out
end
end
section
def zW (K:Kt) (xs:List Int):Int:=if zC K≠0 then zC K else qk K.dishes.length K.hauls.length xs
section
variable {fs:Array Func} [Like fs]
set_option maxRecDepth 20000 in
theorem ZH (K:Kt) (gA dA hA:Option Addr) (gc dc hc:Nat) (xs:List Int) (A:Option Addr) (c:Nat) (w:World) (h:KtAt w K gA dA hA) (hm:Ints w A xs) (hlen:xs.length≤1000) :
  Calls (Pf fs) 69 #[ktV K gA dA hA gc dc hc,.slice A xs.length c] w fun e w'=>e=.returned (.int .i64 (zW K xs))∧Grown w w':=by
 have hC:=fun W (g:Grown w W)=>YC (fs:=fs) K gA dA hA gc dc hc W (h.grown g)
 have hR:=fun W (g:Grown w W)=>zbP (fs:=fs) xs A c gA dA hA K.goods.length gc K.dishes.length dc K.hauls.length hc W (hm.grown g) hlen h.nd
 have HC:=Lib.hid hC
 have HR:=Lib.hid hR
 clear hC hR h hm
 have HB:=Lib.hid (heap_alloc_new w (.cells #[.slice gA K.goods.length gc,.slice dA K.dishes.length dc,.slice hA K.hauls.length hc] 29))
 have HGB:=Lib.hid (Grown.alloc w (.cells #[.slice gA K.goods.length gc,.slice dA K.dishes.length dc,.slice hA K.hauls.length hc] 29))
 have hY:∀ W,Grown (w.alloc (.cells #[.slice gA K.goods.length gc,.slice dA K.dishes.length dc,.slice hA K.hauls.length hc] 29)) W→W.cell? ⟨w.heap.size,0,none⟩=some (.slice gA K.goods.length gc)∧W.cell? ⟨w.heap.size,1,none⟩=some (.slice dA K.dishes.length dc)∧W.cell? ⟨w.heap.size,2,none⟩=some (.slice hA K.hauls.length hc):=fun W g =>
  ⟨za (zf HB.out g) 0,za (zf HB.out g) 1,za (zf HB.out g) 2⟩
 have HY:=Lib.hid hY
 clear hY
 unfold ktV at *
 by_cases h1:zC K=0
 ·have hE:zW K xs=qk K.dishes.length K.hauls.length xs:=by unfold zW;rw[if_neg (by simp[h1])]
  have HE:=Lib.hid hE
  rw[h1] at HC
  clear hE h1
  generalize qk K.dishes.length K.hauls.length xs=m at HE HR
  go_enter LK.func69,Try.ntmps69
  go_wp2_with (first|(go_at_call 36;refine (HC.out _ HGB.out).mono ?_;rintro e w1 ⟨rfl,hg1⟩;have hy:=HY.out w1 hg1;have HG1:=Lib.hid (HGB.out.trans hg1);clear hg1)|(go_at_call 102;refine (HR.out _ HG1.out).mono ?_;rintro e w2 ⟨rfl,hg2⟩))
  go_ret
  exact⟨by rw[HE.out];rfl,HG1.out.trans hg2⟩
 ·have hE:zW K xs=zC K:=by unfold zW;rw[if_pos h1]
  have HE:=Lib.hid hE
  clear hE
  generalize zC K=m at h1 HE HC
  go_enter LK.func69,Try.ntmps69
  go_wp2_with (go_at_call 36;refine (HC.out _ HGB.out).mono ?_;rintro e w1 ⟨rfl,hg1⟩)
  go_ret
  exact⟨by rw[HE.out];rfl,HGB.out.trans hg1⟩
end
end
section
def jb (K:Kt) (ls:List (List Int)):Int:=if manyE ls.length K.hauls.length K.hauls.length≠0 then manyE ls.length K.hauls.length K.hauls.length else qp (fun l=>eachE l K.goods.length 0 20) ls
section
variable {fs:Array Func} [Like fs]
set_option maxRecDepth 20000 in
set_option maxHeartbeats 1000000 in
theorem loaded_any (K:Kt) (gA dA hA:Option Addr) (gc dc hc:Nat) (ls:List (List Int)) (A:Option Addr) (c:Nat) (w:World) (hl:DishesAt w A ls) (hlen:ls.length≤1000) :
  Calls (Pf fs) 83 #[ktV K gA dA hA gc dc hc,.slice A ls.length c] w fun e w'=>e=.returned (.int .i64 (jb K ls))∧Grown w w':=by
 obtain⟨W1,hW1⟩:∃ W1,W1=w.alloc (.cells #[.slice gA K.goods.length gc,.slice dA K.dishes.length dc,.slice hA K.hauls.length hc] 29):=⟨_,rfl⟩
 have hg:Grown w W1:=by rw[hW1];exact .alloc _ _
 have hb:W1.heap[w.heap.size]?=some (.cells #[.slice gA K.goods.length gc,.slice dA K.dishes.length dc,.slice hA K.hauls.length hc] 29 (0,0)):=by rw[hW1];exact heap_alloc_new w _
 have z0:W1.cell? ⟨w.heap.size,0,none⟩=some (.slice gA K.goods.length gc):=za hb 0
 have HG:=Lib.hid hg
 have HL:=Lib.hid hl
 have HZ0:=Lib.hid z0
 clear hg hb hl z0
 by_cases h1:manyE ls.length K.hauls.length K.hauls.length=0
 ·have hM:∀ W,Calls (Pf fs) 78 #[.int .i64 ls.length,.int .i64 K.hauls.length,.int .i64 K.hauls.length] W fun e w'=>e=.returned (.int .i64 0)∧w'=W:=fun W=>by
   have:=jd (fs:=fs) ls.length K.hauls.length K.hauls.length W
   rw[h1] at this
   exact this
  have hR0:Hid (jb K ls=qp (fun l=>eachE l K.goods.length 0 20) (ls.drop 0)):=by show _=_;unfold jb;rw[if_neg (by simp[h1])];rfl
  have HM:=Lib.hid hM
  clear hM h1
  unfold ktV
  go_enter LK.func83,Try.ntmps83
  go_wp2_with (go_at_call 78;refine (HM.out _).mono ?_;rintro e w' ⟨rfl,rfl⟩)
  rw[← hW1]
  clear hW1
  go_loopw [23] (fun i wr=>∃ k:Nat,k≤ls.length∧i=.int .i64 k∧wr=W1∧Hid (jb K ls=qp (fun l=>eachE l K.goods.length 0 20) (ls.drop k))) (fun i _=>ls.length-(intOf i).toNat)
  case atStart=>exact⟨0,Nat.zero_le _,rfl,rfl,hR0⟩
  case round =>
   obtain⟨k,hk,rfl,rfl,hRk⟩:=hrel
   clear hR0
   by_cases hlt:k<ls.length
   ·obtain⟨b,off,rfl,eA,ec,c1,c2,c3⟩:=HL.out k _ (List.getElem?_eq_getElem hlt)
    have d1:=HG.out.cell c1
    have hIn:=c2.grown HG.out
    have hN:=Lib.hid (hRk.out.trans (yF (fun l=>eachE l K.goods.length 0 20) hlt))
    clear c1 c2 hRk HL
    generalize ls[k]=x at d1 hIn hN c3
    have v0:=HZ0.out
    have hEa:Calls (Pf fs) 79 #[.slice eA x.length ec,.int .i64 K.goods.length,.int .i64 0,.int .i64 20] wr fun e w'=>e=.returned (.int .i64 (eachE x K.goods.length 0 20))∧w'=wr:=zbk x eA ec _ 0 20 _ hIn (by omega)
    have HEA:=Lib.hid hEa
    clear hEa hIn
    by_cases hz:eachE x K.goods.length 0 20=0
    ·have HN2:Hid (jb K ls=qp (fun l=>eachE l K.goods.length 0 20) (ls.drop (k+1))):=by
      have h2:=hN.out
      rw[if_neg (by simp[hz])] at h2
      exact h2
     rw[hz] at HEA
     clear hN hz
     go_wp2_with (go_at_call 79;refine HEA.out.mono ?_;rintro e w1 ⟨rfl,rfl⟩)
     go_roundw
     case rel=>exact⟨k+1,by omega,by go_num,(by first|rfl|trivial),HN2⟩
     case measure=>simp[intOf];omega
    ·have hE:jb K ls=eachE x K.goods.length 0 20:=by
      have h2:=hN.out
      rw[if_pos hz] at h2
      exact h2
     have HE:=Lib.hid hE
     clear hN hE
     generalize eachE x K.goods.length 0 20=m at hz HE HEA
     go_wp2_with (go_at_call 79;refine HEA.out.mono ?_;rintro e w1 ⟨rfl,rfl⟩)
     go_ret
     exact⟨by rw[HE.out];rfl,HG.out⟩
   ·have hke:k=ls.length:=by omega
    have hE:jb K ls=0:=by
     have h2:=hRk.out
     rw[hke,List.drop_length] at h2
     exact h2
    have HE:=Lib.hid hE
    clear hke hRk hE
    go_wp2_with fail
    go_ret
    exact⟨by rw[HE.out];rfl,HG.out⟩
 ·have hE:jb K ls=manyE ls.length K.hauls.length K.hauls.length:=by unfold jb;rw[if_pos h1]
  have HE:=Lib.hid hE
  have hM:=fun W=>jd (fs:=fs) ls.length K.hauls.length K.hauls.length W
  generalize manyE ls.length K.hauls.length K.hauls.length=m at h1 HE hM
  have HM:=Lib.hid hM
  clear hM hE
  unfold ktV
  go_enter LK.func83,Try.ntmps83
  go_wp2_with (go_at_call 78;refine (HM.out _).mono ?_;rintro e w' ⟨rfl,rfl⟩)
  go_ret
  refine⟨by rw[HE.out];rfl,?_⟩
  rw[← hW1]
  exact HG.out
def qm (K:Kt) (xs:List Int) (ls:List (List Int)):Int:=if zW K xs≠0 then zW K xs else jb K ls
theorem DishesAt.grown {w w':World} {A:Option Addr} {ds:List (List Int)} (h:DishesAt w A ds) (g:Grown w w'):DishesAt w' A ds:=fun j x hx=>by
 obtain⟨b,off,h1,dA,dc,h2,h3,h4⟩:=h j x hx
 exact⟨b,off,h1,dA,dc,g.cell h2,h3.grown g,h4⟩
set_option maxRecDepth 20000 in
theorem zce (K:Kt) (gA dA hA:Option Addr) (gc dc hc:Nat) (xs:List Int) (A:Option Addr) (c:Nat) (ls:List (List Int)) (B:Option Addr) (cb:Nat) (w:World) (h:KtAt w K gA dA hA) (hm:Ints w A xs) (hlen:xs.length≤1000) (hl:DishesAt w B ls) (hll:ls.length≤1000) :
  Calls (Pf fs) 66 #[ktV K gA dA hA gc dc hc,.slice A xs.length c,.slice B ls.length cb] w fun e w'=>e=.returned (.int .i64 (qm K xs ls))∧Grown w w':=by
 have hC:=fun W (g:Grown w W)=>ZH (fs:=fs) K gA dA hA gc dc hc xs A c W (h.grown g) (hm.grown g) hlen
 have hR:=fun W (g:Grown w W)=>loaded_any (fs:=fs) K gA dA hA gc dc hc ls B cb W (hl.grown g) hll
 have HC:=Lib.hid hC
 have HR:=Lib.hid hR
 clear hC hR h hm hl
 have HB:=Lib.hid (heap_alloc_new w (.cells #[.slice gA K.goods.length gc,.slice dA K.dishes.length dc,.slice hA K.hauls.length hc] 29))
 have HGB:=Lib.hid (Grown.alloc w (.cells #[.slice gA K.goods.length gc,.slice dA K.dishes.length dc,.slice hA K.hauls.length hc] 29))
 have hY:∀ W,Grown (w.alloc (.cells #[.slice gA K.goods.length gc,.slice dA K.dishes.length dc,.slice hA K.hauls.length hc] 29)) W→W.cell? ⟨w.heap.size,0,none⟩=some (.slice gA K.goods.length gc)∧W.cell? ⟨w.heap.size,1,none⟩=some (.slice dA K.dishes.length dc)∧W.cell? ⟨w.heap.size,2,none⟩=some (.slice hA K.hauls.length hc):=fun W g =>
  ⟨za (zf HB.out g) 0,za (zf HB.out g) 1,za (zf HB.out g) 2⟩
 have HY:=Lib.hid hY
 clear hY
 unfold ktV at *
 by_cases h1:zW K xs=0
 ·have hE:qm K xs ls=jb K ls:=by unfold qm;rw[if_neg (by simp[h1])]
  have HE:=Lib.hid hE
  rw[h1] at HC
  clear hE h1
  generalize jb K ls=m at HE HR
  go_enter LK.func66,Try.ntmps66
  go_wp2_with (first|(go_at_call 69;refine (HC.out _ HGB.out).mono ?_;rintro e w1 ⟨rfl,hg1⟩;have hy:=HY.out w1 hg1;have HG1:=Lib.hid (HGB.out.trans hg1);clear hg1)|(go_at_call 83;refine (HR.out _ HG1.out).mono ?_;rintro e w2 ⟨rfl,hg2⟩))
  go_ret
  exact⟨by rw[HE.out];rfl,HG1.out.trans hg2⟩
 ·have hE:qm K xs ls=zW K xs:=by unfold qm;rw[if_pos h1]
  have HE:=Lib.hid hE
  clear hE
  generalize zW K xs=m at h1 HE HC
  go_enter LK.func66,Try.ntmps66
  go_wp2_with (go_at_call 69;refine (HC.out _ HGB.out).mono ?_;rintro e w1 ⟨rfl,hg1⟩)
  go_ret
  exact⟨by rw[HE.out];rfl,HGB.out.trans hg1⟩
end
end
section
theorem jN {n lo hi:Int} (h:manyE n lo hi=0):lo≤n∧n≤hi:=by
 unfold manyE at h
 split at h
 ·simp at h
 ·split at h
  ·simp at h
  ·omega
theorem jq {n lo hi:Int} (h:outB n lo hi=false):lo≤n∧n≤hi:=by
 simp[outB] at h
 omega
theorem JB {xs:List Int} {g lo hi:Int} (h:eachE xs g lo hi=0):(xs.length:Int)=g∧∀ x∈xs,lo≤x∧x≤hi:=by
 unfold eachE at h
 split at h
 ·rename_i h1
  exact absurd h h1
 ·rename_i h1
  have h2:=jN (Decidable.not_not.1 h1)
  refine⟨by omega,fun x hx=>?_⟩
  split at h
  ·simp at h
  ·rename_i h3
   refine jq ?_
   cases ho:outB x lo hi with
   | false=>rfl
   | true=>exact absurd (List.any_eq_true.2 ⟨x,hx,ho⟩) h3
theorem Zp {α : Type} {f : α→Int} : ∀ {l:List α},qp f l=0→∀ x∈l,f x=0
 | [],_,x,hx=>by simp at hx
 | y::l,h,x,hx=>by
  unfold qp at h
  split at h
  ·rename_i h1
   exact absurd h h1
  ·rename_i h1
   rcases List.mem_cons.1 hx with rfl|hx
   ·exact Decidable.not_not.1 h1
   ·exact Zp h x hx
theorem YN {nd:Int} : ∀ {l:List Int} {p:Option Int},qC nd p l=0→∀ x∈l,0≤x∧x≤nd-1
 | [],_,_,x,hx=>by simp at hx
 | y::l,p,h,x,hx=>by
  unfold qC at h
  split at h
  ·simp at h
  ·rename_i h1
   split at h
   ·simp at h
   ·rcases List.mem_cons.1 hx with rfl|hx
    ·exact jq (by simpa using h1)
    ·exact YN h x hx
theorem qK {K:Kt} (h:zC K=0):js K.goods=0∧qj K.goods.length K.dishes=0∧qF K.goods.length K.hauls=0:=by
 unfold zC at h
 split at h
 ·rename_i h1;exact absurd h h1
 ·rename_i h1
  split at h
  ·rename_i h2;exact absurd h h2
  ·rename_i h2
   exact⟨Decidable.not_not.1 h1,Decidable.not_not.1 h2,h⟩
theorem yD {gs:List Gd} (h:js gs=0) : 1≤gs.length∧gs.length≤3∧∀ g∈gs,zB g=false:=by
 unfold js at h
 split at h
 ·rename_i h1;exact absurd h h1
 ·rename_i h1
  have h2:=jN (Decidable.not_not.1 h1)
  refine⟨by omega,by omega,fun x hx=>?_⟩
  split at h
  ·simp at h
  ·rename_i h3
   cases ho:zB x with
   | false=>rfl
   | true=>exact absurd (List.any_eq_true.2 ⟨x,hx,ho⟩) h3
theorem ya {ng:Nat} {ds:List (List Int)} (h:qj ng ds=0) : 1≤ds.length∧ds.length≤3∧∀ d∈ds,d.length=ng∧∀ x∈d,0≤x∧x≤3:=by
 unfold qj at h
 split at h
 ·rename_i h1;exact absurd h h1
 ·rename_i h1
  have h2:=jN (Decidable.not_not.1 h1)
  refine⟨by omega,by omega,fun d hd=>?_⟩
  have h3:=JB (Zp h d hd)
  exact⟨by omega,h3.2⟩
theorem qH {ng:Nat} {hs:List Hl} (h:qF ng hs=0) : 1≤hs.length∧hs.length≤5∧∀ x∈hs,0≤x.hours∧x.hours≤24∧0≤x.covers∧x.covers≤9∧x.prices.length=ng∧∀ p∈x.prices,0≤p∧p≤50:=by
 unfold qF at h
 split at h
 ·rename_i h1;exact absurd h h1
 ·rename_i h1
  have h2:=jN (Decidable.not_not.1 h1)
  refine⟨by omega,by omega,fun x hx=>?_⟩
  have h3:=Zp h x hx
  unfold haulE at h3
  split at h3
  ·simp at h3
  ·rename_i h4
   simp only[Bool.or_eq_true,not_or,Bool.not_eq_true] at h4
   have h5:=jq h4.1
   have h6:=jq h4.2
   have h7:=JB h3
   exact⟨h5.1,h5.2,h6.1,h6.2,by omega,h7.2⟩
theorem Zz {g:Gd} (h:zB g=false) : 1≤g.room∧g.room≤20∧0≤g.reserve∧g.reserve≤g.room∧0≤g.melts∧g.melts≤12∧0≤g.start∧g.start≤g.room:=by
 unfold zB at h
 simp only[Bool.or_eq_false_iff] at h
 obtain⟨⟨⟨h1,h2⟩,h3⟩,h4⟩:=h
 have a1:=jq h1
 have a2:=jq h2
 have a3:=jq h3
 have a4:=jq h4
 exact⟨a1.1,a1.2,a2.1,a2.2,a3.1,a3.2,a4.1,a4.2⟩
def zdG (K:Kt) (i:Nat) (h:Hl) (d:Int):Haul1:={ hours:=h.hours.toNat,covers:=h.covers.toNat,price:=(h.prices.getD i 0).toNat,need:=((K.dishes.getD d.toNat []).getD i 0).toNat }
def Zd (K:Kt) (xs:List Int) (i:Nat) (g:Gd):Good1:=
 { room:=g.room.toNat,reserve:=g.reserve.toNat,melts:=g.melts.toNat,start:=g.start.toNat,hauls:=(K.hauls.zip xs).map fun p=>zdG K i p.1 p.2 }
theorem Jx (K:Kt) (xs:List Int) (i:Nat) (g:Gd) (h:xs.length=K.hauls.length):(Zd K xs i g).hauls.length=K.hauls.length:=by
 simp[Zd,h]
theorem yy {nd nh:Nat} {xs:List Int} (h:qk nd nh xs=0):xs.length=nh∧∀ x∈xs,0≤x∧x≤(nd:Int)-1:=by
 unfold qk at h
 split at h
 ·rename_i h1;exact absurd h h1
 ·rename_i h1
  have h2:=jN (Decidable.not_not.1 h1)
  exact⟨by omega,YN h⟩
end
section
theorem jB {α : Type} {l:List α} (h : 1≤l.length):∃ x,l[0]?=some x:=⟨_,List.getElem?_eq_getElem (by omega)⟩
theorem zaU {w:World} {K:Kt} {gA dA hA mA:Option Addr} {xs:List Int} (gc dc hc mc:Nat) (k:KtAt w K gA dA hA) (m:Ints w mA xs) (hC:zC K=0) (hR:qk K.dishes.length K.hauls.length xs=0) :
  ∃ A:Kit1,A.k=ktV K gA dA hA gc dc hc∧A.m=.slice mA xs.length mc∧∀ i g,K.goods[i]?=some g→KitAt w (fun _=>True) A i (Zd K xs i g):=by
 obtain⟨c1,c2,c3⟩:=qK hC
 obtain⟨g1,g2,g3⟩:=yD c1
 obtain⟨d1,d2,d3⟩:=ya c2
 obtain⟨h1,h2,h3⟩:=qH c3
 obtain⟨r1,r2⟩:=yy hR
 obtain⟨x0,hx0⟩:=jB g1
 obtain⟨gb,go,rfl,_⟩:=k.goods 0 x0 hx0
 obtain⟨y0,hy0⟩:=jB d1
 obtain⟨db,dof,rfl,_⟩:=k.dishes 0 y0 hy0
 obtain⟨z0,hz0⟩:=jB h1
 obtain⟨hb,ho,rfl,_⟩:=k.hauls 0 z0 hz0
 obtain⟨u0,hu0⟩:=jB (l:=xs) (by omega)
 obtain⟨mb,mo,rfl,_⟩:=m 0 u0 hu0
 refine⟨⟨gb,go,K.goods.length,gc,hb,ho,K.hauls.length,hc,mb,mo,xs.length,mc,db,dof,K.dishes.length,dc⟩,rfl,rfl,fun i g hg=>?_⟩
 obtain⟨b,off,e,k1,k2,k3,k4⟩:=k.goods i g hg
 cases e
 have hi:i<K.goods.length:=(List.getElem?_eq_some_iff.1 hg).1
 obtain⟨b1,b2,b3,b4,b5,b6,b7,b8⟩:=Zz (g3 g (List.mem_of_getElem? hg))
 have cast:∀ {n:Int},0≤n→(Value.int .i64 n)=int n.toNat:=fun {n} hn=>by
  unfold int
  rw[Int.toNat_of_nonneg hn]
 rw[cast (by omega)] at k1
 rw[cast b3] at k2
 rw[cast b5] at k3
 rw[cast b7] at k4
 refine⟨⟨trivial,trivial,trivial,trivial⟩,hi,g2,(by show K.hauls.length≤16;omega),h1,(by show K.hauls.length≤xs.length;omega),k1,k2,k3,k4,?_,?_,?_,?_,Jx K xs i g r1,fun h H hH=>?_⟩
 ·show g.room.toNat≤255;omega
 ·show g.reserve.toNat≤255;omega
 ·show g.melts.toNat≤255;omega
 ·show g.start.toNat≤255;omega
 ·have hz:∃ hx dx,K.hauls[h]?=some hx∧xs[h]?=some dx∧zdG K i hx dx=H:=by
   unfold Zd at hH
   simp only[List.getElem?_map,Option.map_eq_some_iff] at hH
   obtain⟨p,hp,hpe⟩:=hH
   obtain⟨q1,q2⟩:=List.getElem?_zip_eq_some.1 hp
   exact⟨p.1,p.2,q1,q2,hpe⟩
  obtain⟨hx,dx,e1,e2,rfl⟩:=hz
  obtain⟨b',off',ea,pA,pc,v1,v2,v3,v4,_⟩:=k.hauls h hx e1
  cases ea
  obtain⟨w1,w2,w3,w4,w5,w6⟩:=h3 hx (List.mem_of_getElem? e1)
  have hdx:=r2 dx (List.mem_of_getElem? e2)
  obtain⟨mb',mo',eb,m1⟩:=m h dx e2
  cases eb
  have hdl:dx.toNat<K.dishes.length:=by omega
  obtain⟨dd,hdd⟩:∃ dd,K.dishes[dx.toNat]?=some dd:=⟨_,List.getElem?_eq_getElem hdl⟩
  obtain⟨b3',off3',ec,nA,nc,n1,n2,_⟩:=k.dishes dx.toNat dd hdd
  cases ec
  obtain⟨dl,dm⟩:=d3 dd (List.mem_of_getElem? hdd)
  obtain⟨pr,hpr⟩:∃ pr,hx.prices[i]?=some pr:=⟨_,List.getElem?_eq_getElem (by omega)⟩
  obtain⟨ne,hne⟩:∃ ne,dd[i]?=some ne:=⟨_,List.getElem?_eq_getElem (by omega)⟩
  obtain⟨pb,po,rfl,p1⟩:=v4 i pr hpr
  obtain⟨nb,no,rfl,o1⟩:=n2 i ne hne
  have hprr:=w6 pr (List.mem_of_getElem? hpr)
  have hner:=dm ne (List.mem_of_getElem? hne)
  have ep:hx.prices.getD i 0=pr:=by simp[List.getD,hpr]
  have en:(K.dishes.getD dx.toNat []).getD i 0=ne:=by simp[List.getD,hdd,hne]
  rw[cast w1] at v1
  rw[cast w3] at v2
  rw[cast hprr.1] at p1
  rw[cast hner.1] at o1
  rw[cast hdx.1] at m1
  refine⟨⟨pb,po,_,pc,dx.toNat,nb,no,_,nc,trivial,trivial,v1,v2,v3,by omega,?_,m1,hdl,n1,by omega,?_⟩,?_,?_,?_,?_⟩
  ·show _=some (int (hx.prices.getD i 0).toNat)
   rw[ep];exact p1
  ·show _=some (int ((K.dishes.getD dx.toNat []).getD i 0).toNat)
   rw[en];exact o1
  ·show hx.hours.toNat≤255;omega
  ·show hx.covers.toNat≤255;omega
  ·show (hx.prices.getD i 0).toNat≤255;rw[ep];omega
  ·show ((K.dishes.getD dx.toNat []).getD i 0).toNat≤255;rw[en];omega
end
end Go.Gal
