/- Walks: the reference's Menus (printed by gen_menus.py). Walks: Uses. Walks: Melted. Plain: what has melted, good by good; what GalleyAccounted asks. Walks: shaped; plain: the kitchen of .. -/
import Derived.Test.YtlgiofglcgbjgaaM42
import Derived.Test.YtlgiofglcgbjgaaM40
import Derived.Lib.SliceRun
import Derived.Deep.Upon
import Derived.Deep.MidRow
namespace Go.Gal
open Go Go.Par Go.Proofs Go.RowKit
section
theorem Ints.row {w w':World} {b off:Nat} {xs:List Int} {row:Option Nat} (h:Ints w (some ⟨b,off,none⟩) xs) (g:w.grownBy w' row) (hne:some b≠row):Ints w' (some ⟨b,off,none⟩) xs:=fun k x hx=>by
 obtain⟨b',o',e,hc⟩:=h k x hx
 cases e
 exact⟨b,off,rfl,(World.cell?_of_block (a:=⟨b,off+k,none⟩) (g.block b (cell_lt hc) hne)).trans hc⟩
def qw (nd nh:Nat) (b:List Int) (d:Nat):List (List Int):=(List.range d).flatMap (menusDish nd nh b)
theorem menusAcc_succ (nd nh:Nat) (b:List Int) (d:Nat):qw nd nh b (d+1)=qw nd nh b d++menusDish nd nh b d:=by
 unfold qw
 rw[List.range_succ,List.flatMap_append]
 simp
theorem menusOn_count {nd nh:Nat} {b:List Int} : (qy nd nh b).length≤nd ^ (nh-b.length):=by
 unfold qy
 rw[List.length_map]
 exact menusTo_count
theorem menusAcc_count {nd nh:Nat} {b:List Int} : ∀ {d:Nat},d≤nd→b.length<nh→(qw nd nh b d).length≤d*nd ^ (nh-(b.length+1))
 | 0,_,_=>by simp[qw]
 | d+1,hd,hl=>by
  rw[menusAcc_succ,List.length_append]
  have h1:=menusAcc_count (nd:=nd) (nh:=nh) (b:=b) (d:=d) (by omega) hl
  have h2:(menusDish nd nh b d).length≤nd ^ (nh-(b.length+1)):=by
   unfold menusDish
   split
   ·simp
   ·have:=menusOn_count (nd:=nd) (nh:=nh) (b:=b++[(d:Int)])
    simpa using this
  rw[Nat.succ_mul]
  omega
section
variable {fs:Array Func} [LikeS fs]
set_option maxRecDepth 20000 in
set_option maxHeartbeats 8000000 in
theorem menus_ref (K:Kt) (gA dA hA:Option Addr) (gc dc hc:Nat) (hnd : 1≤K.dishes.length∧K.dishes.length≤3) (hnh:K.hauls.length≤5):∀ (r:Nat) (xs:List Int) (xA:Option Addr) (xc:Nat) (w:World),KtAt w K gA dA hA→IntsT w xA xs→xs.length+r=K.hauls.length →
  Calls (Pf fs) 57 #[ktV K gA dA hA gc dc hc,.slice xA xs.length xc] w fun e w'=>∃ B c,e=.returned (.slice B (qy K.dishes.length K.hauls.length xs).length c)∧Grown w w'∧RowT w' w.heap.size B c (qy K.dishes.length K.hauls.length xs)
 | 0,xs,xA,xc,w,k,hx,hl=>by
  have hln:xs.length=K.hauls.length:=by omega
  rw[menusOn_full hln]
  have HB:=Lib.hid (heap_alloc_new w (.cells #[.slice gA K.goods.length gc,.slice dA K.dishes.length dc,.slice hA K.hauls.length hc] 29))
  have y2:=za HB.out 2
  simp only[List.getElem?_toArray,List.getElem?_cons_zero,List.getElem?_cons_succ] at y2
  have HR:=Lib.hid (RowT.one (c:=xc) (hx.keep (T:=fun _=>True) trivial (.of_grown (Grown.alloc w (.cells #[.slice gA K.goods.length gc,.slice dA K.dishes.length dc,.slice hA K.hauls.length hc] 29)))) hln (by omega))
  have HG:=Lib.hid ((Grown.alloc w (.cells #[.slice gA K.goods.length gc,.slice dA K.dishes.length dc,.slice hA K.hauls.length hc] 29)).trans (Grown.alloc _ (.cells #[.slice xA K.hauls.length xc] 22)))
  clear k hx hl HB
  unfold ktV
  rw[hln]
  go_enter LK.func57,Try.ntmps57
  go_wp2_with fail
  refine bodyPost_ret (v:=.slice (some ⟨(w.alloc (.cells #[.slice gA K.goods.length gc,.slice dA K.dishes.length dc,.slice hA K.hauls.length hc] 29)).heap.size,0,none⟩) 1 1) (by simp[results,Try.results57,go_sem]) rfl ⟨_,1,rfl,HG.out,HR.out.lower (by simp)⟩
 | r+1,xs,xA,xc,w,k,hx,hl=>by
  have hlt:xs.length<K.hauls.length:=by omega
  have hih:∀ (d:Nat) W A c,Grown w W→IntsT W A (xs++[(d:Int)])→Calls (Pf fs) 57 #[ktV K gA dA hA gc dc hc,.slice A (xs++[(d:Int)]).length c] W fun e w'=>∃ B c,e=.returned (.slice B (qy K.dishes.length K.hauls.length (xs++[(d:Int)])).length c)∧Grown W w'∧RowT w' W.heap.size B c (qy K.dishes.length K.hauls.length (xs++[(d:Int)])):=fun d W A c g hi =>
   menus_ref K gA dA hA gc dc hc hnd hnh r (xs++[(d:Int)]) A c W (k.grown g) hi (by simp;omega)
  unfold ktV at hih
  simp only[List.length_append,List.length_singleton] at hih
  have HIA:=Lib.hid hih
  have HX:=Lib.hid hx.1
  rw[menusOn_step hlt]
  show Calls (Pf fs) 57 #[ktV K gA dA hA gc dc hc,.slice xA xs.length xc] w fun e w'=>∃ B c,e=.returned (.slice B (qw K.dishes.length K.hauls.length xs K.dishes.length).length c)∧Grown w w'∧RowT w' w.heap.size B c (qw K.dishes.length K.hauls.length xs K.dishes.length)
  obtain⟨V,hV⟩:∃ V,V=w.alloc (.cells #[.slice gA K.goods.length gc,.slice dA K.dishes.length dc,.slice hA K.hauls.length hc] 29):=⟨_,rfl⟩
  have v0:V.heap[w.heap.size]?=some (.cells #[.slice gA K.goods.length gc,.slice dA K.dishes.length dc,.slice hA K.hauls.length hc] 29 (0,0)):=by rw[hV];exact heap_alloc_new w _
  have vg:Grown w V:=by rw[hV];exact Grown.alloc _ _
  have HY:=Lib.hid (show ∀ W,Grown V W→(W).cell? ⟨w.heap.size,0,none⟩=some (.slice gA K.goods.length gc)∧(W).cell? ⟨w.heap.size,1,none⟩=some (.slice dA K.dishes.length dc)∧(W).cell? ⟨w.heap.size,2,none⟩=some (.slice hA K.hauls.length hc) from fun W g=>⟨za (zh v0 g) 0,za (zh v0 g) 1,za (zh v0 g) 2⟩)
  have HVG:=Lib.hid vg
  have HVE:=Lib.hid hV
  have hxl:=xs.length
  have hlne:¬ (xs.length:Int)=K.hauls.length:=by omega
  have hcnt:K.dishes.length ^ (K.hauls.length-(xs.length+1))≤3 ^ 5:=Nat.le_trans (Nat.pow_le_pow_left hnd.2 _) (Nat.pow_le_pow_right (by decide) (by omega))
  have HCN:=Lib.hid hcnt
  obtain⟨y0,y1,y2⟩:=HY.out V (Grown.refl _)
  rw[hV] at y0 y1 y2
  clear k hx hih v0 vg hV hxl hcnt
  unfold ktV
  go_enter LK.func57,Try.ntmps57
  go_wp2_with fail
  rw[← HVE.out]
  clear y0 y1 y2
  go_loopw [5,6] (fun v i W=>∃ (d:Nat) (A:Option Addr) (c:Nat),d≤K.dishes.length∧i=.int .i64 d∧v=.slice A (qw K.dishes.length K.hauls.length xs d).length c∧Hid (RowT W V.heap.size A c (qw K.dishes.length K.hauls.length xs d))∧Hid (Grown V W)) (fun _ i _=>K.dishes.length-(intOf i).toNat)
  case atStart=>exact⟨0,none,0,Nat.zero_le _,rfl,rfl,Lib.hid (RowT.nil _ _),Lib.hid (Grown.refl _)⟩
  case round =>
   obtain⟨d,A,c,hd,rfl,rfl,HR,HGW⟩:=hrel
   obtain⟨y0,y1,y2⟩:=HY.out wr HGW.out
   by_cases hdl:d<K.dishes.length
   ·have i1:(d:Int)<K.dishes.length:=by omega
    have HIH:=Lib.hid (HIA.out d)
    have HAS:=Lib.hid (menusAcc_succ K.dishes.length K.hauls.length xs d)
    go_upto_region 7 with fail
    go_cut [34] (fun v W=>v=.bool (decide (xs.getLast?≠some (d:Int)))∧W=wr)
    case first =>
     rcases Nat.eq_zero_or_pos xs.length with h0|h0
     ·obtain rfl:xs=[]:=List.eq_nil_of_length_eq_zero h0
      go_wp2_with fail
      go_meet
      exact⟨by simp,rfl⟩
     ·obtain⟨m,hm⟩:∃ m,xs.length=m+1:=⟨xs.length-1,by omega⟩
      have hgm:xs[m]?=some (xs[m]'(by omega)):=List.getElem?_eq_getElem (by omega)
      have hlast:xs.getLast?=some (xs[m]'(by omega)):=by rw[List.getLast?_eq_getElem?,show xs.length-1=m by omega,hgm]
      obtain⟨xb,xo,rfl,hc⟩:=(HX.out.grown (HVG.out.trans HGW.out)) m _ hgm
      have hw:IntKind.i64.wrap ((xs.length:Int)-1)=(m:Int):=wrap_of (by omega) (by omega) (by omega)
      have h1:((xs.length:Int)==0)=false:=by rw[beq_eq_false_iff_ne];omega
      have h2:(m:Int)<xs.length:=by omega
      generalize xs[m]'(by omega)=x at hc hlast
      have HLA:=Lib.hid hlast
      have HXL:=Lib.hid hm
      clear hgm hlast h0 hm
      by_cases hxd:x=(d:Int)
      ·subst hxd
       go_wp2_with fail
       go_meet
       exact⟨by rw[HLA.out];simp,rfl⟩
      ·have h3:(x==(d:Int))=false:=by simp[hxd]
       go_wp2_with fail
       go_meet
       exact⟨by rw[HLA.out];simp[hxd],rfl⟩
    case rest =>
    obtain⟨rfl,rfl⟩:=hcut
    by_cases hla:xs.getLast?=some (d:Int)
    ·rw[show decide (xs.getLast?≠some (d:Int))=false by simp[hla]]
     have HE2:Hid (qw K.dishes.length K.hauls.length xs (d+1)=qw K.dishes.length K.hauls.length xs d):=by
      show _=_
      rw[HAS.out]
      unfold menusDish
      rw[if_pos hla,List.append_nil]
     clear hla
     go_wp2_with fail
     go_roundw
     case rel=>exact⟨d+1,A,c,by omega,by go_num,by rw[HE2.out],by rw[HE2.out];exact HR,HGW⟩
     case measure=>simp[intOf];omega
    ·rw[show decide (xs.getLast?≠some (d:Int))=true by simp[hla]]
     have HAC:Hid (qw K.dishes.length K.hauls.length xs (d+1)=qw K.dishes.length K.hauls.length xs d++qy K.dishes.length K.hauls.length (xs++[(d:Int)])):=by
      show _=_
      rw[HAS.out]
      unfold menusDish
      rw[if_neg hla]
     have HLN:Hid ((qw K.dishes.length K.hauls.length xs d).length+(qy K.dishes.length K.hauls.length (xs++[(d:Int)])).length≤1000000):=by
      show _≤_
      have h1:=menusAcc_count (nd:=K.dishes.length) (nh:=K.hauls.length) (b:=xs) hd hlt
      have h2:=menusOn_count (nd:=K.dishes.length) (nh:=K.hauls.length) (b:=xs++[(d:Int)])
      rw[show (xs++[(d:Int)]).length=xs.length+1 by simp] at h2
      have h3:=HCN.out
      have h4:=Nat.mul_le_mul (Nat.le_trans hd hnd.2) h3
      omega
     have hxs:xs.length≤5:=by omega
     generalize qw K.dishes.length K.hauls.length xs d=acc at HR HAC HLN ⊢
     clear hla HAS
     go_upto_region 8 with fail
     have hS:(wc.drew).cell? ⟨w.heap.size,0,none⟩=some (.slice gA K.goods.length gc)∧(wc.drew).cell? ⟨w.heap.size,1,none⟩=some (.slice dA K.dishes.length dc)∧(wc.drew).cell? ⟨w.heap.size,2,none⟩=some (.slice hA K.hauls.length hc):=⟨y0,y1,y2⟩
     have HG0:=Lib.hid (show Grown V wc.drew from HGW.out.drewN 1)
     have HR0:=Lib.hid (show RowT wc.drew V.heap.size A c acc from HR.out.grown ((Grown.refl _).drewN 1))
     clear y0 y1 y2
     refine wp_region_L (by kernel_rfl) (fun W=>W.cell? ⟨w.heap.size,0,none⟩=some (.slice gA K.goods.length gc)∧W.cell? ⟨w.heap.size,1,none⟩=some (.slice dA K.dishes.length dc)∧W.cell? ⟨w.heap.size,2,none⟩=some (.slice hA K.hauls.length hc)) [] ?_
     generalize wc.drew=W0 at hS HG0 HR0 ⊢
     have HK0:=Lib.hid (Grown.refl W0)
     refine zf 0 ?_ rfl ?_ ?_;case refine_2=>(intro w _;go_simp;try rfl)
     refine zx 1 ?_ rfl hS ?_ ?_;case refine_2=>(intro w hSw;(try dsimp only at hSw);go_simp;try rfl)
     refine zf 3 ?_ rfl ?_ ?_;case refine_2=>(intro w _;go_simp;try rfl)
     refine zf 5 ?_ rfl ?_ ?_;case refine_2=>(intro w _;go_simp;try rfl)
     refine wpAnyL_two (i:=2) (j:=6) rfl rfl (by kernel_rfl) ?_ ?_
     ·intro Kq hKq
      go_simp
      have hk1:Grown W0 (W0.alloc (.cells #[] 3)):=HK0.out.trans (Grown.alloc _ _)
      have HK1:=Lib.hid hk1
      have HE:=Lib.hid (show L.OwnInts (W0.alloc (.cells #[] 3)) W0.heap.size (some ⟨W0.heap.size,0,none⟩) 0 [] from World.ownsRow_lit W0 #[] 0 HK0.out.size (by decide) (by simp))
      have hS:(W0.alloc (.cells #[] 3)).cell? ⟨w.heap.size,0,none⟩=some (.slice gA K.goods.length gc)∧(W0.alloc (.cells #[] 3)).cell? ⟨w.heap.size,1,none⟩=some (.slice dA K.dishes.length dc)∧(W0.alloc (.cells #[] 3)).cell? ⟨w.heap.size,2,none⟩=some (.slice hA K.hauls.length hc):=HY.out _ (HG0.out.trans hk1)
      have hlt0:W0.heap.size<(W0.alloc (.cells #[] 3)).heap.size:=by simp
      have HLT0:=Lib.hid hlt0
      refine hKq.out _ _ hS (fun _=>?_)
      clear hKq Kq
      generalize hw1:W0.alloc (.cells #[] 3)=W1 at *
      clear hw1 hlt0
      refine wpAnyL_two (i:=4) (j:=6) rfl rfl (by kernel_rfl) ?_ ?_
      ·intro Kq hKq
       refine step_app_ints rfl (.tmp 37) (.tmp 38) 22 rfl W0.heap.size ((like_under 22).trans Try.underlying22) inf3 (some ⟨W0.heap.size,0,none⟩) 0 [] rfl HE.out W1.heap.size xA xc xs rfl ((HX.out.grown (HVG.out.trans (HG0.out.trans HK1.out))).toB) (by simp;omega) HK1.out.size ?_
       intro A4 c4 W2 hO4 hg4 _
       simp only[List.nil_append] at hO4 ⊢
       have HO4:=Lib.hid hO4
       have hk2:Grown W0 W2:=Grown.by hg4 W0 HK1.out fun k hk=>(zT HE.out hk).1
       have HK2:=Lib.hid hk2
       have hS:(W2).cell? ⟨w.heap.size,0,none⟩=some (.slice gA K.goods.length gc)∧(W2).cell? ⟨w.heap.size,1,none⟩=some (.slice dA K.dishes.length dc)∧(W2).cell? ⟨w.heap.size,2,none⟩=some (.slice hA K.hauls.length hc):=HY.out _ (HG0.out.trans hk2)
       refine hKq.out _ _ hS (fun _=>?_)
       clear hKq Kq hO4 hg4
       refine zt (i:=6) rfl (by kernel_rfl) ?_
       intro Kq hKq
       go_simp
       have hk3:Grown W0 (W2.alloc (.cells #[.int .i64 (d:Int)] 3)):=HK2.out.trans (Grown.alloc _ _)
       have HK3:=Lib.hid hk3
       have HD:=Lib.hid (show Ints (W2.alloc (.cells #[.int .i64 (d:Int)] 3)) (some ⟨W2.heap.size,0,none⟩) [(d:Int)] from qd (heap_alloc_new W2 (.cells #[.int .i64 (d:Int)] 3)))
       have HO4:=Lib.hid (own_grown HO4.out (Grown.alloc W2 (.cells #[.int .i64 (d:Int)] 3)))
       have hS:(W2.alloc (.cells #[.int .i64 (d:Int)] 3)).cell? ⟨w.heap.size,0,none⟩=some (.slice gA K.goods.length gc)∧(W2.alloc (.cells #[.int .i64 (d:Int)] 3)).cell? ⟨w.heap.size,1,none⟩=some (.slice dA K.dishes.length dc)∧(W2.alloc (.cells #[.int .i64 (d:Int)] 3)).cell? ⟨w.heap.size,2,none⟩=some (.slice hA K.hauls.length hc):=HY.out _ (HG0.out.trans hk3)
       have hlt2:W2.heap.size<(W2.alloc (.cells #[.int .i64 (d:Int)] 3)).heap.size:=by simp
       have HLT2:=Lib.hid hlt2
       refine hKq.out _ _ hS (fun _=>?_)
       clear hKq Kq
       generalize hw3:W2.alloc (.cells #[.int .i64 (d:Int)] 3)=W3 at *
       clear hw3 hlt2
       refine zt (i:=7) rfl (by kernel_rfl) ?_
       intro Kq hKq
       refine step_app_ints rfl (.tmp 39) (.tmp 41) 22 rfl W0.heap.size ((like_under 22).trans Try.underlying22) inf3 A4 c4 xs rfl HO4.out W3.heap.size (some ⟨W2.heap.size,0,none⟩) 1 [(d:Int)] rfl HD.out.toB (by simp;omega) HK3.out.size ?_
       intro A7 c7 W7 hO7 hg7 _
       have HO7:=Lib.hid hO7
       have HK7:=Lib.hid (show Grown W0 W7 from Grown.by hg7 W0 HK3.out fun k hk=>(zT HO4.out hk).1)
       have hS:(W7).cell? ⟨w.heap.size,0,none⟩=some (.slice gA K.goods.length gc)∧(W7).cell? ⟨w.heap.size,1,none⟩=some (.slice dA K.dishes.length dc)∧(W7).cell? ⟨w.heap.size,2,none⟩=some (.slice hA K.hauls.length hc):=HY.out _ (HG0.out.trans HK7.out)
       refine hKq.out _ _ hS (fun _=>?_)
       clear hKq Kq hO7 hg7
       refine zt (i:=8) rfl (by kernel_rfl) ?_
       intro Kq hKq
       go_simp
       refine (HIH.out W7 A7 c7 (HVG.out.trans (HG0.out.trans HK7.out)) (IntsT.of_own HO7.out)).mono ?_
       rintro e W8 ⟨B,cb,rfl,hg8,hr8⟩
       have HG8:=Lib.hid (HK7.out.trans hg8)
       have HR8:=Lib.hid hr8
       have hS:(W8).cell? ⟨w.heap.size,0,none⟩=some (.slice gA K.goods.length gc)∧(W8).cell? ⟨w.heap.size,1,none⟩=some (.slice dA K.dishes.length dc)∧(W8).cell? ⟨w.heap.size,2,none⟩=some (.slice hA K.hauls.length hc):=HY.out _ (HG0.out.trans HG8.out)
       refine hKq.out _ _ hS (fun _=>?_)
       clear hKq Kq hg8 hr8
       obtain⟨cs8,q8,t8⟩:=HR8.out
       refine zt (i:=9) rfl (by kernel_rfl) ?_
       intro Kq hKq
       refine step_app_rows rfl (.tmp 35) (.tmp 43) rfl V.heap.size ((like_under 32).trans Try.underlying32) inf22 (A:=A) (c:=c) (rows:=acc) rfl (HR0.out.grown HG8.out) (B:=B) (c2:=cb) (ys:=qy K.dishes.length K.hauls.length (xs++[(d:Int)])) rfl rfl (L.Reads.of_own q8) t8 HLN.out (by have:=HG0.out.size;have:=HG8.out.size;omega) ?_
       intro A9 c9 W9 hR9 hg9 _
       have HR9:=Lib.hid hR9
       have HG9:=Lib.hid (show Grown V W9 from Grown.by hg9 V (HG0.out.trans HG8.out) fun k hk=>(zT (HR0.out.grown HG8.out).choose_spec.1 hk).1)
       have hS:(W9).cell? ⟨w.heap.size,0,none⟩=some (.slice gA K.goods.length gc)∧(W9).cell? ⟨w.heap.size,1,none⟩=some (.slice dA K.dishes.length dc)∧(W9).cell? ⟨w.heap.size,2,none⟩=some (.slice hA K.hauls.length hc):=HY.out _ HG9.out
       refine hKq.out _ _ hS (fun _=>?_)
       clear hKq Kq hR9 hg9 q8 t8
       refine zf 10 ?_ rfl ?_ ?_;case refine_2=>(intro w _;go_simp;try rfl)
       refine zN (by kernel_rfl) ?_
       try simp only[Act.put,List.getElem_toArray,List.getElem_cons_succ,List.getElem_cons_zero,List.setIfInBounds_toArray,List.set_cons_zero,List.set_cons_succ]
       rw[← HAC.out] at HR9
       go_wp2_with fail
       go_roundw
       case rel=>first|exact⟨d+1,by omega,by go_num,A9,c9,⟨rfl,by rw[HAC.out,List.length_append],rfl⟩,HR9⟩|exact⟨d+1,A9,c9,by omega,by go_num,by rw[HAC.out,List.length_append],HR9,HG9⟩
       case measure=>simp[intOf];omega
      ·intro Kq hKq
       go_simp
       have hk2:Grown W0 (W1.alloc (.cells #[.int .i64 (d:Int)] 3)):=HK1.out.trans (Grown.alloc _ _)
       have HK2:=Lib.hid hk2
       have HE:=Lib.hid (own_grown HE.out (Grown.alloc W1 (.cells #[.int .i64 (d:Int)] 3)))
       have HD:=Lib.hid (show Ints (W1.alloc (.cells #[.int .i64 (d:Int)] 3)) (some ⟨W1.heap.size,0,none⟩) [(d:Int)] from qd (heap_alloc_new W1 (.cells #[.int .i64 (d:Int)] 3)))
       have hS:(W1.alloc (.cells #[.int .i64 (d:Int)] 3)).cell? ⟨w.heap.size,0,none⟩=some (.slice gA K.goods.length gc)∧(W1.alloc (.cells #[.int .i64 (d:Int)] 3)).cell? ⟨w.heap.size,1,none⟩=some (.slice dA K.dishes.length dc)∧(W1.alloc (.cells #[.int .i64 (d:Int)] 3)).cell? ⟨w.heap.size,2,none⟩=some (.slice hA K.hauls.length hc):=HY.out _ (HG0.out.trans hk2)
       have hlt1:W1.heap.size<(W1.alloc (.cells #[.int .i64 (d:Int)] 3)).heap.size:=by simp
       have HLT1:=Lib.hid hlt1
       refine hKq.out _ _ hS (fun _=>?_)
       clear hKq Kq
       generalize hw2:W1.alloc (.cells #[.int .i64 (d:Int)] 3)=W2 at *
       clear hw2 hlt1
       refine zt (i:=4) rfl (by kernel_rfl) ?_
       intro Kq hKq
       refine step_app_ints rfl (.tmp 37) (.tmp 38) 22 rfl W0.heap.size ((like_under 22).trans Try.underlying22) inf3 (some ⟨W0.heap.size,0,none⟩) 0 [] rfl HE.out W2.heap.size xA xc xs rfl ((HX.out.grown (HVG.out.trans (HG0.out.trans HK2.out))).toB) (by simp;omega) HK2.out.size ?_
       intro A4 c4 W3 hO4 hg4 _
       simp only[List.nil_append] at hO4 ⊢
       have HO4:=Lib.hid hO4
       have hk3:Grown W0 W3:=Grown.by hg4 W0 HK2.out fun k hk=>(zT HE.out hk).1
       have HK3:=Lib.hid hk3
       have HD:=Lib.hid (HD.out.row hg4 (by rw[qr];intro q;simp only[Option.map_some,Option.some.injEq] at q;have:=HLT0.out;have:=HLT1.out;omega))
       have hS:(W3).cell? ⟨w.heap.size,0,none⟩=some (.slice gA K.goods.length gc)∧(W3).cell? ⟨w.heap.size,1,none⟩=some (.slice dA K.dishes.length dc)∧(W3).cell? ⟨w.heap.size,2,none⟩=some (.slice hA K.hauls.length hc):=HY.out _ (HG0.out.trans hk3)
       refine hKq.out _ _ hS (fun _=>?_)
       clear hKq Kq hO4 hg4
       refine zt (i:=7) rfl (by kernel_rfl) ?_
       intro Kq hKq
       refine step_app_ints rfl (.tmp 39) (.tmp 41) 22 rfl W0.heap.size ((like_under 22).trans Try.underlying22) inf3 A4 c4 xs rfl HO4.out W3.heap.size (some ⟨W1.heap.size,0,none⟩) 1 [(d:Int)] rfl HD.out.toB (by simp;omega) HK3.out.size ?_
       intro A7 c7 W7 hO7 hg7 _
       have HO7:=Lib.hid hO7
       have HK7:=Lib.hid (show Grown W0 W7 from Grown.by hg7 W0 HK3.out fun k hk=>(zT HO4.out hk).1)
       have hS:(W7).cell? ⟨w.heap.size,0,none⟩=some (.slice gA K.goods.length gc)∧(W7).cell? ⟨w.heap.size,1,none⟩=some (.slice dA K.dishes.length dc)∧(W7).cell? ⟨w.heap.size,2,none⟩=some (.slice hA K.hauls.length hc):=HY.out _ (HG0.out.trans HK7.out)
       refine hKq.out _ _ hS (fun _=>?_)
       clear hKq Kq hO7 hg7
       refine zt (i:=8) rfl (by kernel_rfl) ?_
       intro Kq hKq
       go_simp
       refine (HIH.out W7 A7 c7 (HVG.out.trans (HG0.out.trans HK7.out)) (IntsT.of_own HO7.out)).mono ?_
       rintro e W8 ⟨B,cb,rfl,hg8,hr8⟩
       have HG8:=Lib.hid (HK7.out.trans hg8)
       have HR8:=Lib.hid hr8
       have hS:(W8).cell? ⟨w.heap.size,0,none⟩=some (.slice gA K.goods.length gc)∧(W8).cell? ⟨w.heap.size,1,none⟩=some (.slice dA K.dishes.length dc)∧(W8).cell? ⟨w.heap.size,2,none⟩=some (.slice hA K.hauls.length hc):=HY.out _ (HG0.out.trans HG8.out)
       refine hKq.out _ _ hS (fun _=>?_)
       clear hKq Kq hg8 hr8
       obtain⟨cs8,q8,t8⟩:=HR8.out
       refine zt (i:=9) rfl (by kernel_rfl) ?_
       intro Kq hKq
       refine step_app_rows rfl (.tmp 35) (.tmp 43) rfl V.heap.size ((like_under 32).trans Try.underlying32) inf22 (A:=A) (c:=c) (rows:=acc) rfl (HR0.out.grown HG8.out) (B:=B) (c2:=cb) (ys:=qy K.dishes.length K.hauls.length (xs++[(d:Int)])) rfl rfl (L.Reads.of_own q8) t8 HLN.out (by have:=HG0.out.size;have:=HG8.out.size;omega) ?_
       intro A9 c9 W9 hR9 hg9 _
       have HR9:=Lib.hid hR9
       have HG9:=Lib.hid (show Grown V W9 from Grown.by hg9 V (HG0.out.trans HG8.out) fun k hk=>(zT (HR0.out.grown HG8.out).choose_spec.1 hk).1)
       have hS:(W9).cell? ⟨w.heap.size,0,none⟩=some (.slice gA K.goods.length gc)∧(W9).cell? ⟨w.heap.size,1,none⟩=some (.slice dA K.dishes.length dc)∧(W9).cell? ⟨w.heap.size,2,none⟩=some (.slice hA K.hauls.length hc):=HY.out _ HG9.out
       refine hKq.out _ _ hS (fun _=>?_)
       clear hKq Kq hR9 hg9 q8 t8
       refine zf 10 ?_ rfl ?_ ?_;case refine_2=>(intro w _;go_simp;try rfl)
       refine zN (by kernel_rfl) ?_
       try simp only[Act.put,List.getElem_toArray,List.getElem_cons_succ,List.getElem_cons_zero,List.setIfInBounds_toArray,List.set_cons_zero,List.set_cons_succ]
       rw[← HAC.out] at HR9
       go_wp2_with fail
       go_roundw
       case rel=>first|exact⟨d+1,by omega,by go_num,A9,c9,⟨rfl,by rw[HAC.out,List.length_append],rfl⟩,HR9⟩|exact⟨d+1,A9,c9,by omega,by go_num,by rw[HAC.out,List.length_append],HR9,HG9⟩
       case measure=>simp[intOf];omega
     ·intro Kq hKq
      go_simp
      have hk1:Grown W0 (W0.alloc (.cells #[.int .i64 (d:Int)] 3)):=HK0.out.trans (Grown.alloc _ _)
      have HK1:=Lib.hid hk1
      have HD:=Lib.hid (show Ints (W0.alloc (.cells #[.int .i64 (d:Int)] 3)) (some ⟨W0.heap.size,0,none⟩) [(d:Int)] from qd (heap_alloc_new W0 (.cells #[.int .i64 (d:Int)] 3)))
      have hS:(W0.alloc (.cells #[.int .i64 (d:Int)] 3)).cell? ⟨w.heap.size,0,none⟩=some (.slice gA K.goods.length gc)∧(W0.alloc (.cells #[.int .i64 (d:Int)] 3)).cell? ⟨w.heap.size,1,none⟩=some (.slice dA K.dishes.length dc)∧(W0.alloc (.cells #[.int .i64 (d:Int)] 3)).cell? ⟨w.heap.size,2,none⟩=some (.slice hA K.hauls.length hc):=HY.out _ (HG0.out.trans hk1)
      have hlt0:W0.heap.size<(W0.alloc (.cells #[.int .i64 (d:Int)] 3)).heap.size:=by simp
      have HLT0:=Lib.hid hlt0
      refine hKq.out _ _ hS (fun _=>?_)
      clear hKq Kq
      generalize hw1:W0.alloc (.cells #[.int .i64 (d:Int)] 3)=W1 at *
      clear hw1 hlt0
      refine zt (i:=2) rfl (by kernel_rfl) ?_
      intro Kq hKq
      go_simp
      have hk2:Grown W0 (W1.alloc (.cells #[] 3)):=HK1.out.trans (Grown.alloc _ _)
      have HK2:=Lib.hid hk2
      have HE:=Lib.hid (show L.OwnInts (W1.alloc (.cells #[] 3)) W0.heap.size (some ⟨W1.heap.size,0,none⟩) 0 [] from World.ownsRow_lit W1 #[] 0 HK1.out.size (by decide) (by simp))
      have HD:=Lib.hid (HD.out.grown (Grown.alloc W1 (.cells #[] 3)))
      have hS:(W1.alloc (.cells #[] 3)).cell? ⟨w.heap.size,0,none⟩=some (.slice gA K.goods.length gc)∧(W1.alloc (.cells #[] 3)).cell? ⟨w.heap.size,1,none⟩=some (.slice dA K.dishes.length dc)∧(W1.alloc (.cells #[] 3)).cell? ⟨w.heap.size,2,none⟩=some (.slice hA K.hauls.length hc):=HY.out _ (HG0.out.trans hk2)
      have hlt1:W1.heap.size<(W1.alloc (.cells #[] 3)).heap.size:=by simp
      have HLT1:=Lib.hid hlt1
      refine hKq.out _ _ hS (fun _=>?_)
      clear hKq Kq
      generalize hw2:W1.alloc (.cells #[] 3)=W2 at *
      clear hw2 hlt1
      refine zt (i:=4) rfl (by kernel_rfl) ?_
      intro Kq hKq
      refine step_app_ints rfl (.tmp 37) (.tmp 38) 22 rfl W0.heap.size ((like_under 22).trans Try.underlying22) inf3 (some ⟨W1.heap.size,0,none⟩) 0 [] rfl HE.out W2.heap.size xA xc xs rfl ((HX.out.grown (HVG.out.trans (HG0.out.trans HK2.out))).toB) (by simp;omega) HK2.out.size ?_
      intro A4 c4 W3 hO4 hg4 _
      simp only[List.nil_append] at hO4 ⊢
      have HO4:=Lib.hid hO4
      have hk3:Grown W0 W3:=Grown.by hg4 W0 HK2.out fun k hk=>(zT HE.out hk).1
      have HK3:=Lib.hid hk3
      have HD:=Lib.hid (HD.out.row hg4 (by rw[qr];intro q;simp only[Option.map_some,Option.some.injEq] at q;have:=HLT0.out;have:=HLT1.out;omega))
      have hS:(W3).cell? ⟨w.heap.size,0,none⟩=some (.slice gA K.goods.length gc)∧(W3).cell? ⟨w.heap.size,1,none⟩=some (.slice dA K.dishes.length dc)∧(W3).cell? ⟨w.heap.size,2,none⟩=some (.slice hA K.hauls.length hc):=HY.out _ (HG0.out.trans hk3)
      refine hKq.out _ _ hS (fun _=>?_)
      clear hKq Kq hO4 hg4
      refine zt (i:=7) rfl (by kernel_rfl) ?_
      intro Kq hKq
      refine step_app_ints rfl (.tmp 39) (.tmp 41) 22 rfl W0.heap.size ((like_under 22).trans Try.underlying22) inf3 A4 c4 xs rfl HO4.out W3.heap.size (some ⟨W0.heap.size,0,none⟩) 1 [(d:Int)] rfl HD.out.toB (by simp;omega) HK3.out.size ?_
      intro A7 c7 W7 hO7 hg7 _
      have HO7:=Lib.hid hO7
      have HK7:=Lib.hid (show Grown W0 W7 from Grown.by hg7 W0 HK3.out fun k hk=>(zT HO4.out hk).1)
      have hS:(W7).cell? ⟨w.heap.size,0,none⟩=some (.slice gA K.goods.length gc)∧(W7).cell? ⟨w.heap.size,1,none⟩=some (.slice dA K.dishes.length dc)∧(W7).cell? ⟨w.heap.size,2,none⟩=some (.slice hA K.hauls.length hc):=HY.out _ (HG0.out.trans HK7.out)
      refine hKq.out _ _ hS (fun _=>?_)
      clear hKq Kq hO7 hg7
      refine zt (i:=8) rfl (by kernel_rfl) ?_
      intro Kq hKq
      go_simp
      refine (HIH.out W7 A7 c7 (HVG.out.trans (HG0.out.trans HK7.out)) (IntsT.of_own HO7.out)).mono ?_
      rintro e W8 ⟨B,cb,rfl,hg8,hr8⟩
      have HG8:=Lib.hid (HK7.out.trans hg8)
      have HR8:=Lib.hid hr8
      have hS:(W8).cell? ⟨w.heap.size,0,none⟩=some (.slice gA K.goods.length gc)∧(W8).cell? ⟨w.heap.size,1,none⟩=some (.slice dA K.dishes.length dc)∧(W8).cell? ⟨w.heap.size,2,none⟩=some (.slice hA K.hauls.length hc):=HY.out _ (HG0.out.trans HG8.out)
      refine hKq.out _ _ hS (fun _=>?_)
      clear hKq Kq hg8 hr8
      obtain⟨cs8,q8,t8⟩:=HR8.out
      refine zt (i:=9) rfl (by kernel_rfl) ?_
      intro Kq hKq
      refine step_app_rows rfl (.tmp 35) (.tmp 43) rfl V.heap.size ((like_under 32).trans Try.underlying32) inf22 (A:=A) (c:=c) (rows:=acc) rfl (HR0.out.grown HG8.out) (B:=B) (c2:=cb) (ys:=qy K.dishes.length K.hauls.length (xs++[(d:Int)])) rfl rfl (L.Reads.of_own q8) t8 HLN.out (by have:=HG0.out.size;have:=HG8.out.size;omega) ?_
      intro A9 c9 W9 hR9 hg9 _
      have HR9:=Lib.hid hR9
      have HG9:=Lib.hid (show Grown V W9 from Grown.by hg9 V (HG0.out.trans HG8.out) fun k hk=>(zT (HR0.out.grown HG8.out).choose_spec.1 hk).1)
      have hS:(W9).cell? ⟨w.heap.size,0,none⟩=some (.slice gA K.goods.length gc)∧(W9).cell? ⟨w.heap.size,1,none⟩=some (.slice dA K.dishes.length dc)∧(W9).cell? ⟨w.heap.size,2,none⟩=some (.slice hA K.hauls.length hc):=HY.out _ HG9.out
      refine hKq.out _ _ hS (fun _=>?_)
      clear hKq Kq hR9 hg9 q8 t8
      refine zf 10 ?_ rfl ?_ ?_;case refine_2=>(intro w _;go_simp;try rfl)
      refine zN (by kernel_rfl) ?_
      try simp only[Act.put,List.getElem_toArray,List.getElem_cons_succ,List.getElem_cons_zero,List.setIfInBounds_toArray,List.set_cons_zero,List.set_cons_succ]
      rw[← HAC.out] at HR9
      go_wp2_with fail
      go_roundw
      case rel=>first|exact⟨d+1,by omega,by go_num,A9,c9,⟨rfl,by rw[HAC.out,List.length_append],rfl⟩,HR9⟩|exact⟨d+1,A9,c9,by omega,by go_num,by rw[HAC.out,List.length_append],HR9,HG9⟩
      case measure=>simp[intOf];omega
   ·have i1:¬ (d:Int)<K.dishes.length:=by omega
    obtain rfl:d=K.dishes.length:=by omega
    go_wp2_with fail
    refine bodyPost_ret (v:=.slice A (qw K.dishes.length K.hauls.length xs K.dishes.length).length c) (by simp[results,Try.results57,go_sem]) rfl ⟨A,c,rfl,HVG.out.trans HGW.out,HR.out.lower HVG.out.size⟩
end
end
section
structure USt (V W:World) (tp:Nat) (ls:List (List Int)) (A:Option Addr) (c:Nat):Prop where
 row:LdList W V.heap.size tp A c ls
 gr:Grown V W
 top:tp≤W.heap.size
section
variable {fs:Array Func} [LikeS fs]
end
end
section
section
variable {fs:Array Func} [LikeS fs]
end
end
section
section
variable (D:Good1) (ld:Nat→Nat)
end
section
variable {Ds:List Good1} {ls:List (List Int)}
end
end
section
section
variable {fs:Array Func} [Like fs]
end
def oneG (K:Kt) (xs:List Int) (g:Nat):Good1:=goodOf K xs g (gdAt K.goods g)
def sumTo (K:Kt) (xs:List Int):Nat→Nat
 | 0=>0
 | g+1=>sumTo K xs g+(if (zi (oneG K xs g)).2.2 then 0 else (zi (oneG K xs g)).2.1)
section
variable {fs:Array Func} [LikeS fs]
theorem cheapest_bad (K:Kt) (gA dA hA:Option Addr) (gc dc hc:Nat) (xs:List Int) (mA:Option Addr) (mc:Nat) (w:World) (k:KtAt w K gA dA hA) (m:Ints w mA xs) (hlen:xs.length≤1000) (ha:qn K xs=0) (hn:noneB K xs=true) :
  Calls (Pf fs) 29 #[ktV K gA dA hA gc dc hc,.slice mA xs.length mc] w fun e w'=>e=.returned (.tuple #[.slice none 0 0,.int .i64 0,.int .i64 11])∧Grown w w':=
 (cheapest_any K gA dA hA gc dc hc xs mA mc w k m hlen).mono fun e w' ⟨v,e1,g,h⟩=>by
  cases h with
  | asked h1=>exact absurd ha h1
  | bad _ h1=>exact⟨e1,g⟩
  | good _ h1 M hM=>rw[hn] at h1;cases h1
theorem cheapest_good (K:Kt) (gA dA hA:Option Addr) (gc dc hc:Nat) (xs:List Int) (mA:Option Addr) (mc:Nat) (w:World) (k:KtAt w K gA dA hA) (m:Ints w mA xs) (hlen:xs.length≤1000) (ha:qn K xs=0) (hn:noneB K xs=false) :
  Calls (Pf fs) 29 #[ktV K gA dA hA gc dc hc,.slice mA xs.length mc] w fun e w'=>∃ M,e=.returned (.tuple #[.slice (some ⟨M,0,none⟩) K.hauls.length K.hauls.length,.int .i64 (qu K xs),.int .i64 0])∧Grown w w'∧DishesAt w' (some ⟨M,0,none⟩) (rowsOf K xs):=
 (cheapest_any K gA dA hA gc dc hc xs mA mc w k m hlen).mono fun e w' ⟨v,e1,g,h⟩=>by
  cases h with
  | asked h1=>exact absurd ha h1
  | bad _ h1=>rw[hn] at h1;cases h1
  | good _ h1 M hM=>exact⟨M,e1,g,hM⟩
end
end
section
structure OneF (W0:World) (base:Nat) (K:Kt) (db hb:Nat) (nb nc pb pc:Nat→Nat):Prop where
 ne:db≠hb
 bd:base≤db∧base≤hb
 dish:∀ j d,K.dishes[j]?=some d→Ints W0 (some ⟨nb j,0,none⟩) d∧nb j≠db∧nb j≠hb∧K.goods.length≤nc j
 haul:∀ j h,K.hauls[j]?=some h→Ints W0 (some ⟨pb j,0,none⟩) h.prices∧pb j≠db∧pb j≠hb∧K.goods.length≤pc j
structure OneJ (W0 W:World) (K:Kt) (g db hb n m:Nat) (nb nc pb pc:Nat→Nat):Prop where
 size:W.heap.size=W0.heap.size
 os:W.os=W0.os
 same:∀ b,b≠db→b≠hb→W.heap[b]?=W0.heap[b]?
 drow:∃ cur,W.heap[db]?=some (.cells cur 48 (0,0))∧∀ j,j<K.dishes.length→cur[j]?=some (if j<n then .slice (some ⟨nb j,g,none⟩) 1 (nc j-g) else .slice (some ⟨nb j,0,none⟩) K.goods.length (nc j))
 hrow:∃ cur,W.heap[hb]?=some (.cells cur 46 (0,0))∧∀ j h,K.hauls[j]?=some h→cur[j*3]?=some (.int .i64 h.hours)∧cur[j*3+1]?=some (.int .i64 h.covers)∧cur[j*3+2]?=some (if j<m then .slice (some ⟨pb j,g,none⟩) 1 (pc j-g) else .slice (some ⟨pb j,0,none⟩) K.goods.length (pc j))
section
variable {W0 W:World} {base:Nat} {K:Kt} {g db hb n m:Nat} {nb nc pb pc:Nat→Nat}
end
end
section
structure Apart5 (wS:World) (K:Kt) (ms:List Int) (gA dA hA mA:Option Addr) (gc dc hc bx:Nat):Prop where
 kt:KtAt wS K gA dA hA
 m:Ints wS mA ms
 box:wS.heap[bx]?=some (.cells #[.slice gA K.goods.length gc,.slice dA K.dishes.length dc,.slice hA K.hauls.length hc] 29 (0,0))
 valid:zP K=0
 asked:qn K ms=0
 ml:ms.length≤1000
 n : 1≤K.goods.length∧1≤K.dishes.length∧1≤K.hauls.length
 n3:K.goods.length≤3
 dlen:∀ d∈K.dishes,d.length=K.goods.length
 plen:∀ x∈K.hauls,x.prices.length=K.goods.length
section
variable {fs:Array Func} [LikeS fs]
end
end
section
section
variable {fs:Array Func} [LikeS fs]
end
end
section
section
variable {fs:Array Func} [LikeS fs]
end
end
section
end
section
section
variable {w W:World} {base:Nat} {K:Kt} {gb db hb h g:Nat} {nb nc pb pc:Nat→Nat}
end
section
variable {fs:Array Func} [LikeS fs]
end
end
section
def TabAt (w:World) (A:Option Addr) (nh ng:Nat) (f:Nat→Nat→Nat):Prop:=
 ∃ b off,A=some ⟨b,off,none⟩∧∀ h,h<nh→∃ rb ro rc,w.cell? ⟨b,off+h,none⟩=some (.slice (some ⟨rb,ro,none⟩) ng rc)∧∀ i,i<ng→w.cell? ⟨rb,ro+i,none⟩=some (.int .i64 (f h i))
structure LegG (K:Kt) (ms:List Int) (ls:List (List Int)) (g room res mel st:Nat) (nN xX uU lo gn hr:Nat→Nat):Prop where
 gd:K.goods[g]?=some ⟨room,res,mel,st⟩
 bd:room≤20∧res≤20∧mel≤12∧st≤20
 n0:nN 0=st
 g0:gn 0=0
 hl:∀ h,h<K.hauls.length→hr h≤24∧∃ cov pr,K.hauls[h]?=some ⟨hr h,cov,pr⟩
 leg:∀ h,h<K.hauls.length→nN h+xX h≤room∧res≤nN (h+1)∧nN (h+1)+uU h+lo h=nN h+xX h
 hlo:∀ h,h<K.hauls.length→lo h=melted (hr h) mel (nN h+xX h)
 gs:∀ h,gn (h+1)=gn h+lo h
 tx:∀ h,ldN ls h g=xX h
 tu:∀ h,usN (dsOf K ms) h g=uU h
 tn:∀ h,nowD (atG (dsOf K ms) g) (ldI ls g) (h+1)=nN (h+1)
 tg:(runK K ms ls).mel g=gn K.hauls.length
 gb:∀ h,h≤K.hauls.length→gn h≤h*20
structure LegsAt (w:World) (K:Kt) (ms:List Int) (ls:List (List Int)) (lA fA uA eA:Option Addr):Prop where
 l:TabAt w lA K.hauls.length K.goods.length (fun h i=>ldN ls h i)
 f:TabAt w fA K.hauls.length K.goods.length (fun h i=>nowD (atG (dsOf K ms) i) (ldI ls i) (h+1))
 u:TabAt w uA K.hauls.length K.goods.length (fun h i=>usN (dsOf K ms) h i)
 m:Ints w eA ((List.range K.goods.length).map fun i=>(((runK K ms ls).mel i:Nat):Int))
section
variable {fs:Array Func} [LikeS fs]
end
end
end Go.Gal
