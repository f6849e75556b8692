/- Walks, the reference: among, count, list, Check. Walks, the reference: checkMenu, checkLoads, checkHaul. Kitchens and loads of any size; walks: full, heaped, EqualKitchens. -/
import Derived.Test.YtlgiofglcgbjgaaM36
namespace Go.Gal
open Go Go.Par Go.Proofs Go.RowKit
section
section
variable {fs:Array Func} [Like fs]
theorem qM (n lo hi:Int) (w:World):Calls (Pf fs) 81 #[.int .i64 n,.int .i64 lo,.int .i64 hi] w fun e w'=>e=.returned (.bool (!outB n lo hi))∧w'=w:=by
 by_cases h1:lo≤n
 ·by_cases h2:n≤hi
  ·have h:outB n lo hi=false:=by simp[outB,h1,h2]
   rw[h];clear h
   go_enter LK.func81,Try.ntmps81
   go_wp2
   go_ret
   exact⟨rfl,rfl⟩
  ·have h:outB n lo hi=true:=by simp[outB];omega
   rw[h];clear h
   go_enter LK.func81,Try.ntmps81
   go_wp2
   go_ret
   exact⟨rfl,rfl⟩
 ·have h:outB n lo hi=true:=by simp[outB];omega
  rw[h];clear h
  go_enter LK.func81,Try.ntmps81
  go_wp2
  go_ret
  exact⟨rfl,rfl⟩
theorem jg (n lo hi:Int) (w:World):Calls (Pf fs) 80 #[.int .i64 n,.int .i64 lo,.int .i64 hi] w fun e w'=>e=.returned (.int .i64 (manyE n lo hi))∧w'=w:=by
 by_cases h1:n<lo
 ·have h:manyE n lo hi=7:=if_pos h1
  rw[h];clear h
  go_enter LK.func80,Try.ntmps80
  go_wp2
  go_ret
  exact⟨rfl,rfl⟩
 ·by_cases h2:hi<n
  ·have h:manyE n lo hi=6:=by unfold manyE;rw[if_neg h1,if_pos h2]
   rw[h];clear h
   go_enter LK.func80,Try.ntmps80
   go_wp2
   go_ret
   exact⟨rfl,rfl⟩
  ·have h:manyE n lo hi=0:=by unfold manyE;rw[if_neg h1,if_neg h2]
   rw[h];clear h
   go_enter LK.func80,Try.ntmps80
   go_wp2
   go_ret
   exact⟨rfl,rfl⟩
set_option maxRecDepth 20000 in
theorem zdf (xs:List Int) (A:Option Addr) (c:Nat) (goods hi:Int) (w:World) (h:Ints w A xs) (hlen:xs.length≤140737488355328) :
  Calls (Pf fs) 82 #[.slice A xs.length c,.int .i64 goods,.int .i64 hi] w fun e w'=>e=.returned (.int .i64 (eachE xs goods 0 hi))∧w'=w:=by
 by_cases h1:manyE xs.length goods goods=0
 ·have hE:eachE xs goods 0 hi=if xs.any (fun x=>outB x 0 hi) then 1 else 0:=by unfold eachE;rw[if_neg (by simp[h1])]
  have HE:=Lib.hid hE
  have H1:=Lib.hid h1
  generalize eachE xs goods 0 hi=E at HE ⊢
  have hR0:Hid (xs.any (fun x=>outB x 0 hi)=(xs.drop 0).any (fun x=>outB x 0 hi)):=rfl
  have HF:=Lib.hid h.form
  clear h hE h1
  have hM:∀ W,Calls (Pf fs) 80 #[.int .i64 xs.length,.int .i64 goods,.int .i64 goods] W fun e w'=>e=.returned (.int .i64 0)∧w'=W:=fun W=>by
   have:=jg (fs:=fs) xs.length goods goods W
   rw[H1.out] at this
   exact this
  have HM:=Lib.hid hM
  clear hM
  go_enter LK.func82,Try.ntmps82
  go_wp2_with (go_at_call 80;refine (HM.out _).mono ?_;rintro e w' ⟨rfl,rfl⟩)
  go_loopw [8] (fun i wr=>∃ k:Nat,k≤xs.length∧i=.int .i64 k∧wr=w'∧Hid (xs.any (fun x=>outB x 0 hi)=(xs.drop k).any (fun x=>outB x 0 hi))) (fun i _=>xs.length-(intOf i).toNat)
  case atStart=>exact⟨0,Nat.zero_le _,rfl,rfl,hR0⟩
  case round =>
   obtain⟨k,hk,rfl,rfl,hRk⟩:=hrel
   clear hR0
   by_cases hlt:k<xs.length
   ·rcases HF.out with hnil|⟨b,off,rfl,hcell⟩
    ·rw[hnil] at hlt
     exact absurd hlt (by simp)
    ·have hck:=hcell k _ (List.getElem?_eq_getElem hlt)
     have hst:(xs.drop k).any (fun x=>outB x 0 hi)=(outB xs[k] 0 hi||(xs.drop (k+1)).any (fun x=>outB x 0 hi)):=by
      rw[List.drop_eq_getElem_cons hlt,List.any_cons]
     have hN:=Lib.hid (hRk.out.trans hst)
     clear hcell hst hRk
     generalize xs[k]=x at hck hN
     cases ho:outB x 0 hi
     ·rw[ho] at hN
      have HO:=Lib.hid ho
      clear ho
      go_wp2_with (go_at_call 81;refine (qM _ _ _ _).mono ?_;rw[HO.out];rintro e w1 ⟨rfl,rfl⟩)
      go_roundw
      case rel=>exact⟨k+1,by omega,by go_num,(by first|rfl|trivial),by rw[Bool.false_or] at hN;exact hN⟩
      case measure=>simp[intOf];omega
     ·rw[ho] at hN
      have HO:=Lib.hid ho
      clear ho
      go_wp2_with (go_at_call 81;refine (qM _ _ _ _).mono ?_;rw[HO.out];rintro e w1 ⟨rfl,rfl⟩)
      go_ret
      exact⟨by rw[HE.out,hN.out];rfl,rfl⟩
   ·have hke:k=xs.length:=by omega
    have hN:Hid (xs.any (fun x=>outB x 0 hi)=false):=by
     have h2:=hRk.out
     rw[hke,List.drop_length] at h2
     exact h2
    clear hke hRk
    go_wp2_with fail
    go_ret
    exact⟨by rw[HE.out,hN.out];rfl,rfl⟩
 ·have hE:eachE xs goods 0 hi=manyE xs.length goods goods:=by unfold eachE;rw[if_pos h1]
  rw[hE]
  have hM:=fun W=>jg (fs:=fs) xs.length goods goods W
  have HM:=Lib.hid hM
  generalize manyE xs.length goods goods=m at h1 HM ⊢
  clear hM hE h
  go_enter LK.func82,Try.ntmps82
  go_wp2_with (go_at_call 80;refine (HM.out _).mono ?_;rintro e w' ⟨rfl,rfl⟩)
  go_ret
  exact⟨rfl,rfl⟩
theorem list_quiet (xs:List Int) (A:Option Addr) (c:Nat) (goods hi:Int) (w:World) (h:Ints w A xs) (hlen:xs.length≤140737488355328) (n:Nat) :
  Calls (Pf fs) 82 #[.slice A xs.length c,.int .i64 goods,.int .i64 hi] (w.drewN n) fun e w''=>e=.returned (.int .i64 (eachE xs goods 0 hi))∧∃ k,w''=w.drewN k:=
 (zdf xs A c goods hi (w.drewN n) (h.grown ((Grown.refl w).drewN n)) hlen).mono fun _ _ ⟨he,hm⟩=>⟨he,n,hm⟩
set_option maxRecDepth 20000 in
set_option maxHeartbeats 4000000 in
theorem zau (K:Kt) (gA dA hA:Option Addr) (gc dc hc:Nat) (w:World) (h:KtAt w K gA dA hA) :
  Calls (Pf fs) 37 #[ktV K gA dA hA gc dc hc] w fun e w'=>e=.returned (.int .i64 (zC K))∧Grown w w':=by
 obtain⟨W1,hW1⟩:∃ W1,W1=w.alloc (.cells #[.slice gA K.goods.length gc,.slice dA K.dishes.length dc,.slice hA K.hauls.length hc] 29):=⟨_,rfl⟩
 have hb:W1.heap[w.heap.size]?=some (.cells #[.slice gA K.goods.length gc,.slice dA K.dishes.length dc,.slice hA K.hauls.length hc] 29 (0,0)):=by rw[hW1];exact heap_alloc_new w _
 have hg:Grown w W1:=by rw[hW1];exact .alloc _ _
 have HG:=Lib.hid hg
 have HK:=Lib.hid (h.grown hg)
 have z0:∀ W,Grown W1 W→W.cell? ⟨w.heap.size,0,none⟩=some (.slice gA K.goods.length gc)∧W.cell? ⟨w.heap.size,1,none⟩=some (.slice dA K.dishes.length dc)∧W.cell? ⟨w.heap.size,2,none⟩=some (.slice hA K.hauls.length hc):=fun W g =>
  ⟨za (zf hb g) 0,za (zf hb g) 1,za (zf hb g) 2⟩
 have HZ:=Lib.hid z0
 have HW:=Lib.hid hW1
 have hng:=h.ng
 have hnd:=h.nd
 have hnh:=h.nh
 clear h hb hg
 by_cases h1:manyE K.goods.length 1 3=0
 ·have hM:∀ W,Calls (Pf fs) 80 #[.int .i64 K.goods.length,.int .i64 1,.int .i64 3] W fun e w'=>e=.returned (.int .i64 0)∧w'=W:=fun W=>by
   have:=jg (fs:=fs) K.goods.length 1 3 W
   rw[h1] at this
   exact this
  have hgE:js K.goods=if K.goods.any zB then 1 else 0:=by unfold js;rw[if_neg (by simp[h1])]
  have HM:=Lib.hid hM
  have HGE:=Lib.hid hgE
  have HF:=Lib.hid HK.out.goods.form
  have hR0:Hid (K.goods.any zB=(K.goods.drop 0).any zB):=rfl
  obtain⟨y0,y1,y2⟩:=z0 W1 (Grown.refl _)
  rw[hW1] at y0
  clear hM hgE h1 z0 hW1 y1 y2
  unfold ktV
  go_enter LK.func37,Try.ntmps37
  go_wp2_with (go_at_call 80;refine (HM.out _).mono ?_;rintro e w' ⟨rfl,rfl⟩)
  rw[← HW.out]
  clear HM y0
  go_loopw [4] (fun i wr=>∃ k:Nat,k≤K.goods.length∧i=.int .i64 k∧Hid (Grown W1 wr)∧Hid (K.goods.any zB=(K.goods.drop k).any zB)) (fun i _=>K.goods.length-(intOf i).toNat)
  case atStart=>exact⟨0,Nat.zero_le _,rfl,Grown.refl _,hR0⟩
  case round =>
   obtain⟨k,hk,rfl,hgr,hRk⟩:=hrel
   clear hR0
   obtain⟨x0,x1,x2⟩:=HZ.out wr hgr.out
   clear x1 x2
   by_cases hlt:k<K.goods.length
   ·rcases HF.out with hnil|⟨b,off,rfl,hcell⟩
    ·rw[hnil] at hlt
     exact absurd hlt (by simp)
    ·obtain⟨c1,c2,c3,c4⟩:=hcell k _ (List.getElem?_eq_getElem hlt)
     have hki:(k:Int)<K.goods.length:=by omega
     have d1:=hgr.out.cell c1
     have d2:=hgr.out.cell c2
     have d3:=hgr.out.cell c3
     have d4:=hgr.out.cell c4
     have hst:(K.goods.drop k).any zB=(zB K.goods[k]||(K.goods.drop (k+1)).any zB):=by
      rw[List.drop_eq_getElem_cons hlt,List.any_cons]
     have hN:=Lib.hid (hRk.out.trans hst)
     clear hcell hst hRk c1 c2 c3 c4
     generalize K.goods[k]=x at d1 d2 d3 d4 hN
     go_upto_region 8 with fail
     go_cut [57] (fun v wy=>v=.bool (zB x)∧wy=wr.alloc (.cells #[.int .i64 x.room,.int .i64 x.reserve,.int .i64 x.melts,.int .i64 x.start] 42))
     case first =>
      clear d1 d2 d3 d4
      cases o1:outB x.room 1 20
      ·skip
       cases o2:outB x.reserve 0 x.room
       ·skip
        cases o3:outB x.melts 0 12
        ·skip
         cases o4:outB x.start 0 x.room
         ·skip
          have hbd:zB x=false:=by simp[zB,o1,o2,o3,o4]
          have HBD:=Lib.hid hbd
          clear hbd
          go_wp2_with (go_at_call 81;refine (qM _ _ _ _).mono ?_;rintro e w1 ⟨rfl,rfl⟩)
          go_meet
          exact⟨by rw[HBD.out],rfl⟩
         ·skip
          have hbd:zB x=true:=by simp[zB,o1,o2,o3,o4]
          have HBD:=Lib.hid hbd
          clear hbd
          go_wp2_with (go_at_call 81;refine (qM _ _ _ _).mono ?_;rintro e w1 ⟨rfl,rfl⟩)
          go_meet
          exact⟨by rw[HBD.out],rfl⟩
        ·skip
         have hbd:zB x=true:=by simp[zB,o1,o2,o3]
         have HBD:=Lib.hid hbd
         clear hbd
         go_wp2_with (go_at_call 81;refine (qM _ _ _ _).mono ?_;rintro e w1 ⟨rfl,rfl⟩)
         go_meet
         exact⟨by rw[HBD.out],rfl⟩
       ·skip
        have hbd:zB x=true:=by simp[zB,o1,o2]
        have HBD:=Lib.hid hbd
        clear hbd
        go_wp2_with (go_at_call 81;refine (qM _ _ _ _).mono ?_;rintro e w1 ⟨rfl,rfl⟩)
        go_meet
        exact⟨by rw[HBD.out],rfl⟩
      ·skip
       have hbd:zB x=true:=by simp[zB,o1]
       have HBD:=Lib.hid hbd
       clear hbd
       go_wp2_with (go_at_call 81;refine (qM _ _ _ _).mono ?_;rintro e w1 ⟨rfl,rfl⟩)
       go_meet
       exact⟨by rw[HBD.out],rfl⟩
     case rest =>
     obtain⟨rfl,rfl⟩:=hcut
     have HGA:=Lib.hid (hgr.out.trans (Grown.alloc wr (.cells #[.int .i64 x.room,.int .i64 x.reserve,.int .i64 x.melts,.int .i64 x.start] 42)))
     clear x0 d1 d2 d3 d4
     cases hbx:zB x
     ·rw[hbx] at hN
      have HN2:=Lib.hid hN
      clear hN hbx
      go_wp2_with fail
      go_roundw
      case rel=>exact⟨k+1,by omega,by go_num,HGA.out,by have h2:=HN2.out.out;rw[Bool.false_or] at h2;exact h2⟩
      case measure=>simp[intOf];omega
     ·rw[hbx] at hN
      have hE:zC K=1:=by
       have h2:=hN.out
       rw[Bool.true_or] at h2
       have h3:js K.goods=1:=by rw[HGE.out,h2];rfl
       unfold zC
       rw[h3]
       rfl
      have HE:=Lib.hid hE
      clear hE hN hbx
      go_wp2_with fail
      go_ret
      exact⟨by rw[HE.out];rfl,HG.out.trans HGA.out⟩
   ·have hki:¬ (k:Int)<K.goods.length:=by omega
    have hke:k=K.goods.length:=by omega
    have hE0:js K.goods=0:=by
     have h2:=hRk.out
     rw[hke,List.drop_length] at h2
     rw[HGE.out,h2]
     rfl
    have hC0:zC K=if qj K.goods.length K.dishes≠0 then qj K.goods.length K.dishes else qF K.goods.length K.hauls:=by
     unfold zC
     rw[hE0]
     rfl
    have HC0:=Lib.hid hC0
    obtain⟨z0,z1,z2⟩:=HZ.out wr hgr.out
    clear hke hRk hE0 hC0
    by_cases h2:manyE K.dishes.length 1 3=0
    ·have hM:∀ W,Calls (Pf fs) 80 #[.int .i64 K.dishes.length,.int .i64 1,.int .i64 3] W fun e w'=>e=.returned (.int .i64 0)∧w'=W:=fun W=>by
      have:=jg (fs:=fs) K.dishes.length 1 3 W
      rw[h2] at this
      exact this
     have hdE:qj K.goods.length K.dishes=qp (fun d=>eachE d K.goods.length 0 3) K.dishes:=by unfold qj;rw[if_neg (by simp[h2])]
     have HM:=Lib.hid hM
     have HDE:=Lib.hid hdE
     clear hM hdE h2
     have hgr':=hgr
     go_wp2_with (go_at_call 80;refine (HM.out _).mono ?_;rintro e w' ⟨rfl,rfl⟩)
     clear hgr HM z0 z1 z2 x0
     have hgr1:Hid (Grown W1 w'):=hgr'
     have hR1:Hid (qj K.goods.length K.dishes=qp (fun d=>eachE d K.goods.length 0 3) (K.dishes.drop 0)):=HDE.out
     go_loopw [7] (fun i wr=>∃ k:Nat,k≤K.dishes.length∧i=.int .i64 k∧Hid (Grown W1 wr)∧Hid (qj K.goods.length K.dishes=qp (fun d=>eachE d K.goods.length 0 3) (K.dishes.drop k))) (fun i _=>K.dishes.length-(intOf i).toNat)
     case atStart=>exact⟨0,Nat.zero_le _,rfl,hgr1,hR1⟩
     case round =>
      obtain⟨j,hj,rfl,hgr,hRk⟩:=hrel
      clear hR1 hgr1
      obtain⟨x0,x1,x2⟩:=HZ.out wr hgr.out
      clear x2
      by_cases hlt:j<K.dishes.length
      ·obtain⟨b,off,rfl,eA,ec,c1,c2,c3⟩:=HK.out.dishes j _ (List.getElem?_eq_getElem hlt)
       have hji:(j:Int)<K.dishes.length:=by omega
       have d1:=hgr.out.cell c1
       have hIn:=c2.grown hgr.out
       have hN:=Lib.hid (hRk.out.trans (yF (fun d=>eachE d K.goods.length 0 3) hlt))
       clear c1 c2 hRk
       generalize K.dishes[j]=x at d1 hIn hN c3
       have HEA:=Lib.hid (fun n=>list_quiet (fs:=fs) x eA ec K.goods.length 3 wr hIn (by omega) n)
       clear hIn
       by_cases hz:eachE x K.goods.length 0 3=0
       ·have HN2:Hid (qj K.goods.length K.dishes=qp (fun d=>eachE d K.goods.length 0 3) (K.dishes.drop (j+1))):=by
         have h2:=hN.out
         rw[if_neg (by simp[hz])] at h2
         exact h2
        rw[hz] at HEA
        clear hN hz
        go_wp2_with fail
        go_quiet ((go_at_call 82;with_reducible refine (HEA.out _)))
        go_wp2_with fail
        go_roundw
        case rel=>exact⟨j+1,by omega,by go_num,hgr.out.drewN _,HN2⟩
        case measure=>simp[intOf];omega
       ·have hE:zC K=eachE x K.goods.length 0 3:=by
         have h2:=hN.out
         rw[if_pos hz] at h2
         rw[HC0.out,h2,if_pos hz]
        have HE:=Lib.hid hE
        generalize eachE x K.goods.length 0 3=m at hz HE HEA
        clear hN hE
        go_wp2_with fail
        go_quiet ((go_at_call 82;with_reducible refine (HEA.out _)))
        go_wp2_with fail
        go_ret
        exact⟨by rw[HE.out];rfl,HG.out.trans (hgr.out.drewN _)⟩
      ·have hji:¬ (j:Int)<K.dishes.length:=by omega
       have hke:j=K.dishes.length:=by omega
       have hE0:qj K.goods.length K.dishes=0:=by
        have h2:=hRk.out
        rw[hke,List.drop_length] at h2
        exact h2
       have hC1:zC K=qF K.goods.length K.hauls:=by
        rw[HC0.out,hE0]
        rfl
       have HC1:=Lib.hid hC1
       obtain⟨z0,z1,z2⟩:=HZ.out wr hgr.out
       clear hke hRk hE0 hC1
       by_cases h3:manyE K.hauls.length 1 5=0
       ·have hM:∀ W,Calls (Pf fs) 80 #[.int .i64 K.hauls.length,.int .i64 1,.int .i64 5] W fun e w'=>e=.returned (.int .i64 0)∧w'=W:=fun W=>by
         have:=jg (fs:=fs) K.hauls.length 1 5 W
         rw[h3] at this
         exact this
        have hdE:qF K.goods.length K.hauls=qp (haulE K.goods.length) K.hauls:=by unfold qF;rw[if_neg (by simp[h3])]
        have HM:=Lib.hid hM
        have HHE:=Lib.hid hdE
        clear hM hdE h3
        have hgr':=hgr
        go_wp2_with (go_at_call 80;refine (HM.out _).mono ?_;rintro e w2 ⟨rfl,rfl⟩)
        clear hgr HM x0 x1 z0 z1 z2
        have hgr1:Hid (Grown W1 w2):=hgr'
        have hR1:Hid (qF K.goods.length K.hauls=qp (haulE K.goods.length) (K.hauls.drop 0)):=HHE.out
        go_loopw [10] (fun i wr=>∃ k:Nat,k≤K.hauls.length∧i=.int .i64 k∧Hid (Grown W1 wr)∧Hid (qF K.goods.length K.hauls=qp (haulE K.goods.length) (K.hauls.drop k))) (fun i _=>K.hauls.length-(intOf i).toNat)
        case atStart=>exact⟨0,Nat.zero_le _,rfl,hgr1,hR1⟩
        case round =>
         obtain⟨l,hl,rfl,hgr,hRk⟩:=hrel
         clear hR1 hgr1
         obtain⟨x0,x1,x2⟩:=HZ.out wr hgr.out
         clear x1
         by_cases hlt:l<K.hauls.length
         ·obtain⟨b,off,rfl,eA,ec,c1,c2,c3,c4,c5⟩:=HK.out.hauls l _ (List.getElem?_eq_getElem hlt)
          have hli:(l:Int)<K.hauls.length:=by omega
          have d1:=hgr.out.cell c1
          have d2:=hgr.out.cell c2
          have d3:=hgr.out.cell c3
          have hIn:=c4.grown hgr.out
          have hN:=Lib.hid (hRk.out.trans (yF (haulE K.goods.length) hlt))
          clear c1 c2 c3 c4 hRk
          generalize K.hauls[l]=x at d1 d2 d3 hIn hN c5
          have hga:Grown W1 (wr.alloc (.cells #[.int .i64 x.hours,.int .i64 x.covers,.slice eA x.prices.length ec] 46)):=hgr.out.trans (.alloc _ _)
          obtain⟨u0,_,_⟩:=HZ.out _ hga
          have hEa:Calls (Pf fs) 82 #[.slice eA x.prices.length ec,.int .i64 K.goods.length,.int .i64 50] (wr.alloc (.cells #[.int .i64 x.hours,.int .i64 x.covers,.slice eA x.prices.length ec] 46)) fun e w'=>e=.returned (.int .i64 (eachE x.prices K.goods.length 0 50))∧w'=(wr.alloc (.cells #[.int .i64 x.hours,.int .i64 x.covers,.slice eA x.prices.length ec] 46)):=zdf x.prices eA ec _ 50 _ (hIn.grown (.alloc _ _)) (by omega)
          have HEA:=Lib.hid hEa
          have HGA:=Lib.hid hga
          clear hEa hga hIn
          cases o1:outB x.hours 0 24
          ·cases o2:outB x.covers 0 9
           ·have hx1:haulE K.goods.length x=eachE x.prices K.goods.length 0 50:=by simp[haulE,o1,o2]
            by_cases hz:eachE x.prices K.goods.length 0 50=0
            ·have HN2:Hid (qF K.goods.length K.hauls=qp (haulE K.goods.length) (K.hauls.drop (l+1))):=by
              have h2:=hN.out
              rw[hx1,if_neg (by simp[hz])] at h2
              exact h2
             rw[hz] at HEA
             clear hN hz hx1
             go_wp2_with (first|(go_at_call 81;refine (qM _ _ _ _).mono ?_;rintro e w1 ⟨rfl,rfl⟩)|(go_at_call 82;refine HEA.out.mono ?_;rintro e w1 ⟨rfl,rfl⟩))
             go_roundw
             case rel=>exact⟨l+1,by omega,by go_num,HGA.out,HN2⟩
             case measure=>simp[intOf];omega
            ·have hE:zC K=eachE x.prices K.goods.length 0 50:=by
              have h2:=hN.out
              rw[hx1,if_pos hz] at h2
              rw[HC1.out,h2]
             have HE:=Lib.hid hE
             clear hx1 hN hE
             generalize eachE x.prices K.goods.length 0 50=m at hz HE HEA
             go_wp2_with (first|(go_at_call 81;refine (qM _ _ _ _).mono ?_;rintro e w1 ⟨rfl,rfl⟩)|(go_at_call 82;refine HEA.out.mono ?_;rintro e w1 ⟨rfl,rfl⟩))
             go_ret
             exact⟨by rw[HE.out];rfl,HG.out.trans HGA.out⟩
           ·have hx1:haulE K.goods.length x=1:=by simp[haulE,o1,o2]
            have hE:zC K=1:=by
             have h2:=hN.out
             rw[hx1,if_pos (by decide)] at h2
             rw[HC1.out,h2]
            have HE:=Lib.hid hE
            clear hE hN hx1
            go_wp2_with (go_at_call 81;refine (qM _ _ _ _).mono ?_;rintro e w1 ⟨rfl,rfl⟩)
            go_ret
            exact⟨by rw[HE.out];rfl,HG.out.trans HGA.out⟩
          ·have hx1:haulE K.goods.length x=1:=by simp[haulE,o1]
           have hE:zC K=1:=by
            have h2:=hN.out
            rw[hx1,if_pos (by decide)] at h2
            rw[HC1.out,h2]
           have HE:=Lib.hid hE
           clear hE hN hx1
           go_wp2_with (go_at_call 81;refine (qM _ _ _ _).mono ?_;rintro e w1 ⟨rfl,rfl⟩)
           go_ret
           exact⟨by rw[HE.out];rfl,HG.out.trans HGA.out⟩
         ·have hli:¬ (l:Int)<K.hauls.length:=by omega
          have hke:l=K.hauls.length:=by omega
          have hE:zC K=0:=by
           have h2:=hRk.out
           rw[hke,List.drop_length] at h2
           rw[HC1.out,h2]
           rfl
          have HE:=Lib.hid hE
          clear hke hRk hE
          go_wp2_with fail
          go_ret
          exact⟨by rw[HE.out];rfl,HG.out.trans hgr.out⟩
       ·have hE:zC K=manyE K.hauls.length 1 5:=by
         have hd:qF K.goods.length K.hauls=manyE K.hauls.length 1 5:=by unfold qF;rw[if_pos h3]
         rw[HC1.out,hd]
        have HE:=Lib.hid hE
        have hM:=fun W=>jg (fs:=fs) K.hauls.length 1 5 W
        generalize manyE K.hauls.length 1 5=m at h3 HE hM
        have HM:=Lib.hid hM
        clear hM hE
        go_wp2_with (go_at_call 80;refine (HM.out _).mono ?_;rintro e w2 ⟨rfl,rfl⟩)
        go_ret
        exact⟨by rw[HE.out];rfl,HG.out.trans hgr.out⟩
    ·have hE:zC K=manyE K.dishes.length 1 3:=by
      have hd:qj K.goods.length K.dishes=manyE K.dishes.length 1 3:=by unfold qj;rw[if_pos h2]
      rw[HC0.out,hd,if_pos h2]
     have HE:=Lib.hid hE
     have hM:=fun W=>jg (fs:=fs) K.dishes.length 1 3 W
     generalize manyE K.dishes.length 1 3=m at h2 HE hM
     have HM:=Lib.hid hM
     clear hM hE
     go_wp2_with (go_at_call 80;refine (HM.out _).mono ?_;rintro e w' ⟨rfl,rfl⟩)
     go_ret
     exact⟨by rw[HE.out];rfl,HG.out.trans hgr.out⟩
 ·have hE:zC K=manyE K.goods.length 1 3:=by
   have hd:js K.goods=manyE K.goods.length 1 3:=by unfold js;rw[if_pos h1]
   unfold zC
   rw[hd,if_pos h1]
  have HE:=Lib.hid hE
  have hM:=fun W=>jg (fs:=fs) K.goods.length 1 3 W
  generalize manyE K.goods.length 1 3=m at h1 HE hM
  have HM:=Lib.hid hM
  obtain⟨y0,y1,y2⟩:=z0 W1 (Grown.refl _)
  rw[hW1] at y0
  clear hM hE z0 y1 y2
  unfold ktV
  go_enter LK.func37,Try.ntmps37
  go_wp2_with (go_at_call 80;refine (HM.out _).mono ?_;rintro e w' ⟨rfl,rfl⟩)
  go_ret
  refine⟨by rw[HE.out];rfl,?_⟩
  rw[← hW1]
  exact HG.out
end
end
section
section
variable {fs:Array Func} [Like fs]
theorem among_quiet (n lo hi:Int) (w:World) (q:Nat):Calls (Pf fs) 81 #[.int .i64 n,.int .i64 lo,.int .i64 hi] (w.drewN q) fun e w''=>e=.returned (.bool (!outB n lo hi))∧∃ k,w''=w.drewN k:=
 (qM n lo hi (w.drewN q)).mono fun _ _ ⟨he,hm⟩=>⟨he,q,hm⟩
theorem yR {w:World} {v0 v1 v2:Value} : ∀ W,Grown (w.alloc (.cells #[v0,v1,v2] 29)) W→W.cell? ⟨w.heap.size,0,none⟩=some v0∧W.cell? ⟨w.heap.size,1,none⟩=some v1∧W.cell? ⟨w.heap.size,2,none⟩=some v2:=fun _W g =>
 ⟨za (zf (heap_alloc_new w _) g) 0,za (zf (heap_alloc_new w _) g) 1,za (zf (heap_alloc_new w _) g) 2⟩
set_option maxRecDepth 20000 in
set_option maxHeartbeats 2000000 in
theorem rmenu_any (K:Kt) (gA dA hA:Option Addr) (gc dc hc:Nat) (xs:List Int) (A:Option Addr) (c:Nat) (w:World) (h:KtAt w K gA dA hA) (hm:Ints w A xs) (hlen:xs.length≤1000) :
  Calls (Pf fs) 76 #[ktV K gA dA hA gc dc hc,.slice A xs.length c] w fun e w'=>e=.returned (.int .i64 (zW K xs))∧Grown w w':=by
 obtain⟨V,hV⟩:∃ V,V=w.alloc (.cells #[.slice gA K.goods.length gc,.slice dA K.dishes.length dc,.slice hA K.hauls.length hc] 29):=⟨_,rfl⟩
 have hvg:Grown w V:=by rw[hV];exact .alloc _ _
 have HZ:Hid (∀ W,Grown V W→W.cell? ⟨w.heap.size,0,none⟩=some (.slice gA K.goods.length gc)∧W.cell? ⟨w.heap.size,1,none⟩=some (.slice dA K.dishes.length dc)∧W.cell? ⟨w.heap.size,2,none⟩=some (.slice hA K.hauls.length hc)):=by rw[hV];exact yR
 have HC:=Lib.hid (fun W (g:Grown w W)=>zau (fs:=fs) K gA dA hA gc dc hc W (h.grown g))
 have HF:=Lib.hid hm
 have HVG:=Lib.hid hvg
 have HV:=Lib.hid hV
 have hnd:=h.nd
 have hd1:IntKind.i64.wrap ((K.dishes.length:Int)-1)=(K.dishes.length:Int)-1:=IntWalk.i64_in _ ⟨by omega,by omega⟩
 have HD1:=Lib.hid hd1
 clear h hm hvg hV hd1
 by_cases h1:zC K=0
 ·have hE:zW K xs=qk K.dishes.length K.hauls.length xs:=by unfold zW;rw[if_neg (by simp[h1])]
  rw[h1] at HC
  clear h1
  by_cases h2:manyE xs.length K.hauls.length K.hauls.length=0
  ·have hR:qk K.dishes.length K.hauls.length xs=qC K.dishes.length none xs:=by unfold qk;rw[if_neg (by simp[h2])]
   have hM:∀ W,Calls (Pf fs) 80 #[.int .i64 xs.length,.int .i64 K.hauls.length,.int .i64 K.hauls.length] W fun e w'=>e=.returned (.int .i64 0)∧w'=W:=fun W=>by
    have:=jg (fs:=fs) xs.length K.hauls.length K.hauls.length W
    rw[h2] at this
    exact this
   have HM:=Lib.hid hM
   have hR0:Hid (zW K xs=qC K.dishes.length (before xs 0) (xs.drop 0)):=hE.trans hR
   generalize zW K xs=E at hR0 ⊢
   clear hM hE hR h2
   unfold ktV at *
   go_enter LK.func76,Try.ntmps76
   go_upto_region 4 with (go_at_call 37;have hg0:=HVG.out;rw[HV.out] at hg0;refine (HC.out _ hg0).mono ?_;rintro e w1 ⟨rfl,hg1⟩;rw[← HV.out] at hg1;have HG1:=Lib.hid hg1;clear hg1 hg0)
   obtain⟨y0,y1,y2⟩:=HZ.out w1 HG1.out
   go_wp2_with (go_at_call 80;refine (HM.out _).mono ?_;rintro e w' ⟨rfl,rfl⟩)
   clear y0 y1 y2 HM HC
   go_loopw [7] (fun i wr=>∃ k:Nat,k≤xs.length∧i=.int .i64 k∧Hid (Grown V wr)∧Hid (E=qC K.dishes.length (before xs k) (xs.drop k))) (fun i _=>xs.length-(intOf i).toNat)
   case atStart=>exact⟨0,Nat.zero_le _,rfl,HG1.out,hR0⟩
   case round =>
    obtain⟨k,hk,rfl,hgr,hRk⟩:=hrel
    clear hR0
    obtain⟨x0,x1,x2⟩:=HZ.out wr hgr.out
    clear x0 x2
    by_cases hlt:k<xs.length
    ·rcases HF.out.form with hnil|⟨b,off,rfl,hcell0⟩
     ·rw[hnil] at hlt
      exact absurd hlt (by simp)
     ·have hki:(k:Int)<xs.length:=by omega
      have hcell:∀ k x,xs[k]?=some x→wr.cell? ⟨b,off+k,none⟩=some (.int .i64 x):=fun k x hx=>(HVG.out.trans hgr.out).cell (hcell0 k x hx)
      have hck:=hcell k _ (List.getElem?_eq_getElem hlt)
      have hcp:∀ y,before xs k=some y→0<k∧wr.cell? ⟨b,off+(k-1),none⟩=some (.int .i64 y):=fun y hy=>by
       unfold before at hy
       split at hy
       ·cases hy
       ·exact⟨by omega,hcell (k-1) y hy⟩
      have hbn:before xs k=none→k=0:=fun hy=>by
       unfold before at hy
       split at hy
       ·assumption
       ·rw[List.getElem?_eq_none_iff] at hy
        omega
      have hN:=Lib.hid (hRk.out.trans (zap hlt))
      have hd1:=HD1.out
      clear hcell hcell0 hRk
      generalize xs[k]=x at hck hN
      have HA:=Lib.hid (fun q=>among_quiet (fs:=fs) x 0 ((K.dishes.length:Int)-1) wr q)
      cases ho:outB x 0 ((K.dishes.length:Int)-1)
      ·rw[ho] at hN HA
       clear ho
       cases hbk:before xs k with
       | none =>
        obtain rfl:=hbn hbk
        rw[Nat.add_zero] at hck
        have t0:(0:Int)<xs.length:=by omega
        have hN2:Hid (E=qC K.dishes.length (before xs (0+1)) (xs.drop (0+1))):=by
         have h2:=hN.out
         rw[hbk] at h2
         exact h2
        clear hN hbk hbn hcp
        go_wp2_with fail
        go_quiet ((go_at_call 81;with_reducible refine HA.out _))
        go_wp2_with fail
        go_quiet (fail)
        go_wp2_with fail
        go_roundw
        case rel=>exact⟨0+1,by omega,by go_num,hgr.out.drewN _,hN2⟩
        case measure=>simp[intOf];omega
       | some y =>
        obtain⟨hk0,hcy⟩:=hcp y hbk
        obtain⟨j,rfl⟩:∃ j,k=j+1:=⟨k-1,by omega⟩
        have t1:((0:Int)<((j+1:Nat):Int)):=by omega
        have t3:IntKind.i64.wrap (((j+1:Nat):Int)-1)=(j:Int):=by rw[IntKind.wrap_i64];omega
        have t5:(j:Int)<xs.length:=by omega
        rw[Nat.add_sub_cancel] at hcy
        by_cases hxy:x=y
        ·have hN3:E=4:=by
          have h2:=hN.out
          rw[hbk,hxy] at h2
          simpa using h2
         have hN2:=Lib.hid hN3
         clear hN3
         subst hxy
         clear hN hbk hbn hcp hk0
         go_wp2_with fail
         go_quiet ((go_at_call 81;with_reducible refine HA.out _))
         go_wp2_with fail
         go_quiet (fail)
         go_wp2_with fail
         go_ret
         exact⟨by rw[hN2.out];rfl,HVG.out.trans ((hgr.out.drewN _).drewN _)⟩
        ·have hN3:E=qC K.dishes.length (before xs (j+1+1)) (xs.drop (j+1+1)):=by
          have h2:=hN.out
          rw[hbk] at h2
          have hyx:¬ (some y=some x):=fun e=>hxy (Option.some.inj e).symm
          rw[if_neg (by simp),if_neg hyx] at h2
          exact h2
         have hN2:=Lib.hid hN3
         have t4:(x==y)=false:=beq_eq_false_iff_ne.2 hxy
         clear hN3 hN hbk hbn hcp hk0
         go_wp2_with fail
         go_quiet ((go_at_call 81;with_reducible refine HA.out _))
         go_wp2_with fail
         go_quiet (fail)
         go_wp2_with fail
         go_roundw
         case rel=>exact⟨j+1+1,by omega,by go_num,hgr.out.drewN _,hN2⟩
         case measure=>simp[intOf];omega
      ·rw[ho] at hN HA
       have hN2:Hid (E=3):=hN.out
       clear ho hN hbn hcp
       go_wp2_with fail
       go_quiet ((go_at_call 81;with_reducible refine HA.out _))
       go_wp2_with fail
       go_ret
       exact⟨by rw[hN2.out];rfl,HVG.out.trans (hgr.out.drewN _)⟩
    ·have hki:¬ (k:Int)<xs.length:=by omega
     have hke:k=xs.length:=by omega
     have hN:Hid (E=0):=by
      have h2:=hRk.out
      rw[hke,List.drop_length] at h2
      exact h2
     clear hke hRk
     go_wp2_with fail
     go_ret
     exact⟨by rw[hN.out];rfl,HVG.out.trans hgr.out⟩
  ·have hR:qk K.dishes.length K.hauls.length xs=manyE xs.length K.hauls.length K.hauls.length:=by unfold qk;rw[if_pos h2]
   have hEE:=hE.trans hR
   have HM:=Lib.hid (fun W=>jg (fs:=fs) xs.length K.hauls.length K.hauls.length W)
   generalize manyE xs.length K.hauls.length K.hauls.length=m at h2 HM hEE
   have HE:=Lib.hid hEE
   clear hE hR hEE
   unfold ktV at *
   go_enter LK.func76,Try.ntmps76
   go_upto_region 4 with (go_at_call 37;have hg0:=HVG.out;rw[HV.out] at hg0;refine (HC.out _ hg0).mono ?_;rintro e w1 ⟨rfl,hg1⟩;rw[← HV.out] at hg1;have HG1:=Lib.hid hg1;clear hg1 hg0)
   obtain⟨y0,y1,y2⟩:=HZ.out w1 HG1.out
   go_wp2_with (go_at_call 80;refine (HM.out _).mono ?_;rintro e w' ⟨rfl,rfl⟩)
   go_ret
   exact⟨by rw[HE.out];rfl,HVG.out.trans HG1.out⟩
 ·have hE:zW K xs=zC K:=by unfold zW;rw[if_pos h1]
  have HE:=Lib.hid hE
  clear hE
  generalize zC K=m at h1 HE HC
  unfold ktV at *
  go_enter LK.func76,Try.ntmps76
  go_wp2_with (go_at_call 37;have hg0:=HVG.out;rw[HV.out] at hg0;refine (HC.out _ hg0).mono ?_;rintro e w1 ⟨rfl,hg1⟩;rw[← HV.out] at hg1;have HG1:=Lib.hid hg1;clear hg1 hg0)
  go_ret
  exact⟨by rw[HE.out];rfl,HVG.out.trans HG1.out⟩
end
end
section
def RowsRaw (w:World) (A:Option Addr) (ds:List (List Int)):Prop:=∀ (j:Nat) (d:List Int),ds[j]?=some d→∃ b off,A=some ⟨b,off,none⟩∧∃ dA dc,w.cell? ⟨b,off+j,none⟩=some (.slice dA d.length dc)∧Ints w dA d
def zeN (w:World) (A:Option Addr) (hs:List Hl):Prop:=∀ (j:Nat) (h:Hl),hs[j]?=some h→∃ b off,A=some ⟨b,off,none⟩ ∧
 ∃ pA pc,w.cell? ⟨b,off+j*3,none⟩=some (.int .i64 h.hours)∧w.cell? ⟨b,off+j*3+1,none⟩=some (.int .i64 h.covers)∧w.cell? ⟨b,off+j*3+2,none⟩=some (.slice pA h.prices.length pc)∧Ints w pA h.prices
structure KtRaw (w:World) (K:Kt) (gA dA hA:Option Addr):Prop where
 goods:GdsAt w gA K.goods
 dishes:RowsRaw w dA K.dishes
 hauls:zeN w hA K.hauls
theorem RowsRaw.grown {w w':World} {A:Option Addr} {ds:List (List Int)} (h:RowsRaw w A ds) (g:Grown w w'):RowsRaw w' A ds:=fun j x hx=>by
 obtain⟨b,off,h1,dA,dc,h2,h3⟩:=h j x hx
 exact⟨b,off,h1,dA,dc,g.cell h2,h3.grown g⟩
theorem KtRaw.grown {w w':World} {K:Kt} {gA dA hA:Option Addr} (k:KtRaw w K gA dA hA) (g:Grown w w'):KtRaw w' K gA dA hA:=by
 refine⟨fun j x hx=>?_,k.dishes.grown g,fun j x hx=>?_⟩
 ·obtain⟨b,off,h1,h2,h3,h4,h5⟩:=k.goods j x hx
  exact⟨b,off,h1,g.cell h2,g.cell h3,g.cell h4,g.cell h5⟩
 ·obtain⟨b,off,h1,pA,pc,h2,h3,h4,h5⟩:=k.hauls j x hx
  exact⟨b,off,h1,pA,pc,g.cell h2,g.cell h3,g.cell h4,h5.grown g⟩
def fullB (K:Kt):Bool:=decide (20<K.goods.length)||decide (20<K.dishes.length)||decide (20<K.hauls.length)||K.dishes.any (fun d=>decide (20<d.length))||K.hauls.any (fun h=>decide (20<h.prices.length))
structure Small (K:Kt):Prop where
 g:K.goods.length≤20
 d:K.dishes.length≤20
 h:K.hauls.length≤20
 ds:∀ d∈K.dishes,d.length≤20
 hs:∀ h∈K.hauls,h.prices.length≤20
theorem fullB_false {K:Kt} (h:fullB K=false):Small K:=by
 simp only[fullB,Bool.or_eq_false_iff,decide_eq_false_iff_not,Nat.not_lt,List.any_eq_false,decide_eq_true_eq] at h
 obtain⟨⟨⟨⟨h1,h2⟩,h3⟩,h4⟩,h5⟩:=h
 exact⟨h1,h2,h3,fun d hd=>h4 d hd,fun d hd=>h5 d hd⟩
theorem KtRaw.at_ {w:World} {K:Kt} {gA dA hA:Option Addr} (k:KtRaw w K gA dA hA) (s:Small K):KtAt w K gA dA hA:=by
 refine⟨k.goods,fun j x hx=>?_,fun j x hx=>?_,Nat.le_trans s.g (by decide),Nat.le_trans s.d (by decide),Nat.le_trans s.h (by decide)⟩
 ·obtain⟨b,off,h1,dA,dc,h2,h3⟩:=k.dishes j x hx
  exact⟨b,off,h1,dA,dc,h2,h3,Nat.le_trans (s.ds x (List.mem_of_getElem? hx)) (by decide)⟩
 ·obtain⟨b,off,h1,pA,pc,h2,h3,h4,h5⟩:=k.hauls j x hx
  exact⟨b,off,h1,pA,pc,h2,h3,h4,h5,Nat.le_trans (s.hs x (List.mem_of_getElem? hx)) (by decide)⟩
theorem zdx {α : Type} (f : α→Bool) {l:List α} {k:Nat} (h:k<l.length):(l.drop k).any f=(f l[k]||(l.drop (k+1)).any f):=by rw[List.drop_eq_getElem_cons h,List.any_cons]
section
variable {fs:Array Func} [Like fs]
set_option maxRecDepth 20000 in
set_option maxHeartbeats 2000000 in
theorem full_any (K:Kt) (gA dA hA:Option Addr) (gc dc hc:Nat) (w:World) (k:KtRaw w K gA dA hA) :
  Calls (Pf fs) 32 #[ktV K gA dA hA gc dc hc] w fun e w'=>e=.returned (.bool (fullB K))∧Grown w w':=by
 obtain⟨V,hV⟩:∃ V,V=w.alloc (.cells #[.slice gA K.goods.length gc,.slice dA K.dishes.length dc,.slice hA K.hauls.length hc] 29):=⟨_,rfl⟩
 have HVG:Hid (Grown w V):=by rw[hV];exact .alloc _ _
 have hz:∀ W,Grown V W→W.cell? ⟨w.heap.size,0,none⟩=some (.slice gA K.goods.length gc)∧W.cell? ⟨w.heap.size,1,none⟩=some (.slice dA K.dishes.length dc)∧W.cell? ⟨w.heap.size,2,none⟩=some (.slice hA K.hauls.length hc):=by rw[hV];exact yR
 obtain⟨y0,y1,y2⟩:=hz V (Grown.refl _)
 have HK:=Lib.hid (k.grown HVG.out)
 have HV:=Lib.hid hV
 clear k hz
 unfold ktV at *
 by_cases h1 : 20<K.goods.length
 ·have HE:Hid (fullB K=true):=by show _=_;simp[fullB,h1]
  have t1:(20:Int)<K.goods.length:=by omega
  rw[hV] at y0 y1 y2
  clear hV
  go_enter LK.func32,Try.ntmps32
  go_wp2_with fail
  rw[← HV.out]
  go_ret
  exact⟨by rw[HE.out];rfl,HVG.out⟩
 by_cases h2 : 20<K.dishes.length
 ·have HE:Hid (fullB K=true):=by show _=_;simp[fullB,h2]
  have t1:¬ (20:Int)<K.goods.length:=by omega
  have t2:(20:Int)<K.dishes.length:=by omega
  have u1:decide (20<K.goods.length)=false:=by simpa using h1
  rw[hV] at y0 y1 y2
  clear hV
  go_enter LK.func32,Try.ntmps32
  go_wp2_with fail
  rw[← HV.out]
  go_ret
  exact⟨by rw[HE.out];rfl,HVG.out⟩
 by_cases h3 : 20<K.hauls.length
 ·have HE:Hid (fullB K=true):=by show _=_;simp[fullB,h3]
  have t1:¬ (20:Int)<K.goods.length:=by omega
  have t2:¬ (20:Int)<K.dishes.length:=by omega
  have t3:(20:Int)<K.hauls.length:=by omega
  have u1:decide (20<K.goods.length)=false:=by simpa using h1
  have u2:decide (20<K.dishes.length)=false:=by simpa using h2
  rw[hV] at y0 y1 y2
  clear hV
  go_enter LK.func32,Try.ntmps32
  go_wp2_with fail
  rw[← HV.out]
  go_ret
  exact⟨by rw[HE.out];rfl,HVG.out⟩
 have HE:Hid (fullB K=(K.dishes.any (fun d=>decide (20<d.length))||K.hauls.any (fun h=>decide (20<h.prices.length)))):=by
  show _=_
  simp[fullB,h1,h2,h3]
 have t1:¬ (20:Int)<K.goods.length:=by omega
 have t2:¬ (20:Int)<K.dishes.length:=by omega
 have t3:¬ (20:Int)<K.hauls.length:=by omega
 have u1:decide (20<K.goods.length)=false:=by simpa using h1
 have u2:decide (20<K.dishes.length)=false:=by simpa using h2
 have u3:decide (20<K.hauls.length)=false:=by simpa using h3
 have hR0:Hid (K.dishes.any (fun d=>decide (20<d.length))=(K.dishes.drop 0).any (fun d=>decide (20<d.length))):=rfl
 rw[hV] at y0 y1 y2
 clear hV
 go_enter LK.func32,Try.ntmps32
 go_wp2_with fail
 rw[← HV.out] at y0 y1 y2 ⊢
 clear HV t1 t2 t3 u1 u2 u3
 go_loopw [3] (fun i wr=>∃ k:Nat,k≤K.dishes.length∧i=.int .i64 k∧wr=V∧Hid (K.dishes.any (fun d=>decide (20<d.length))=(K.dishes.drop k).any (fun d=>decide (20<d.length)))) (fun i _=>K.dishes.length-(intOf i).toNat)
 case atStart=>exact⟨0,Nat.zero_le _,rfl,rfl,hR0⟩
 case round =>
  obtain⟨k,hk,rfl,rfl,hRk⟩:=hrel
  clear hR0
  by_cases hlt:k<K.dishes.length
  ·obtain⟨b,off,rfl,eA,ec,c1,c2⟩:=HK.out.dishes k _ (List.getElem?_eq_getElem hlt)
   have hki:(k:Int)<K.dishes.length:=by omega
   have hN:=Lib.hid (hRk.out.trans (zdx _ hlt))
   clear c2 hRk
   generalize K.dishes[k]=x at c1 hN
   by_cases hx : 20<x.length
   ·have hx1:(20:Int)<x.length:=by omega
    have HT:Hid (fullB K=true):=by show _=_;rw[HE.out,hN.out];simp[hx]
    go_wp2_with fail
    go_ret
    exact⟨by rw[HT.out];rfl,HVG.out⟩
   ·have hx1:¬ (20:Int)<x.length:=by omega
    have hN2:Hid (K.dishes.any (fun d=>decide (20<d.length))=(K.dishes.drop (k+1)).any (fun d=>decide (20<d.length))):=by show _=_;rw[hN.out];simp[hx]
    have u4:decide (20<x.length)=false:=by simpa using hx
    clear hN
    go_wp2_with fail
    go_roundw
    case rel=>exact⟨k+1,by omega,by go_num,(by first|rfl|trivial),hN2⟩
    case measure=>simp[intOf];omega
  ·have hki:¬ (k:Int)<K.dishes.length:=by omega
   have HE2:Hid (fullB K=K.hauls.any (fun h=>decide (20<h.prices.length))):=by
    show _=_
    rw[HE.out,hRk.out,show k=K.dishes.length by omega,List.drop_length]
    rfl
   have hR0:Hid (K.hauls.any (fun h=>decide (20<h.prices.length))=(K.hauls.drop 0).any (fun h=>decide (20<h.prices.length))):=rfl
   clear hRk HE
   go_wp2_with fail
   go_loopw [4] (fun i wz=>∃ k:Nat,k≤K.hauls.length∧i=.int .i64 k∧wz=wr∧Hid (K.hauls.any (fun h=>decide (20<h.prices.length))=(K.hauls.drop k).any (fun h=>decide (20<h.prices.length)))) (fun i _=>K.hauls.length-(intOf i).toNat)
   case atStart=>exact⟨0,Nat.zero_le _,rfl,rfl,hR0⟩
   case round =>
    obtain⟨l,hl,rfl,rfl,hRk⟩:=hrel
    clear hR0
    by_cases hlt2:l<K.hauls.length
    ·obtain⟨b,off,rfl,eA,ec,_,_,c1,_⟩:=HK.out.hauls l _ (List.getElem?_eq_getElem hlt2)
     have hli:(l:Int)<K.hauls.length:=by omega
     have hN:=Lib.hid (hRk.out.trans (zdx _ hlt2))
     clear hRk
     generalize K.hauls[l]=x at c1 hN
     by_cases hx : 20<x.prices.length
     ·have hx1:(20:Int)<x.prices.length:=by omega
      have HT:Hid (fullB K=true):=by show _=_;rw[HE2.out,hN.out];simp[hx]
      go_wp2_with fail
      go_ret
      exact⟨by rw[HT.out];rfl,HVG.out⟩
     ·have hx1:¬ (20:Int)<x.prices.length:=by omega
      have hN2:Hid (K.hauls.any (fun h=>decide (20<h.prices.length))=(K.hauls.drop (l+1)).any (fun h=>decide (20<h.prices.length))):=by show _=_;rw[hN.out];simp[hx]
      have u4:decide (20<x.prices.length)=false:=by simpa using hx
      clear hN
      go_wp2_with fail
      go_roundw
      case rel=>exact⟨l+1,by omega,by go_num,(by first|rfl|trivial),hN2⟩
      case measure=>simp[intOf];omega
    ·have hli:¬ (l:Int)<K.hauls.length:=by omega
     have HT:Hid (fullB K=false):=by
      show _=_
      rw[HE2.out,hRk.out,show l=K.hauls.length by omega,List.drop_length]
      rfl
     clear hRk
     go_wp2_with fail
     go_ret
     exact⟨by rw[HT.out];rfl,HVG.out⟩
end
end
end Go.Gal
