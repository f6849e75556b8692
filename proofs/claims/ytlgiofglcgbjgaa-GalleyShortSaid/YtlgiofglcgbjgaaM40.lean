/- Walks: MenuOf. Walks: LoadsOf (printed by gen_lof.py). Walks: CopyInts; what CopyKitchen holds. -/
import Derived.Test.YtlgiofglcgbjgaaM39
section
namespace Go.Gal
open Go Go.Par Go.Proofs Go.RowKit
def MenuTo (nd:Nat):Option Int→List Int→Prop
 | _,[]=>True
 | p,d::l=>(0≤d∧d≤(nd:Int)-1)∧(2≤nd→p≠some d)∧MenuTo nd (some d) l
theorem menuTo_snoc {nd:Nat} {d:Int} : ∀ {xs:List Int} {p:Option Int},MenuTo nd p xs→(0≤d∧d≤(nd:Int)-1)→(2≤nd→(xs.getLast?.or p)≠some d)→MenuTo nd p (xs++[d])
 | [],p,_,h1,h2=>⟨h1,fun h=>by simpa using h2 h,trivial⟩
 | x::l,p,h,h1,h2=>by
  refine⟨h.1,h.2.1,menuTo_snoc h.2.2 h1 fun hn=>?_⟩
  have:=h2 hn
  rw[List.getLast?_cons] at this
  cases hl:l.getLast? with
  | none=>rw[hl] at this;simpa using this
  | some y=>rw[hl] at this;simpa using this
theorem menuTo_right {nd:Nat} (h2 : 2≤nd):∀ {xs:List Int} {p:Option Int},MenuTo nd p xs→rightL nd p xs=0
 | [],_,_=>rfl
 | x::l,p,h=>by
  unfold rightL
  have hx:=h.1
  rw[if_neg (by simp[outB];omega),if_neg (h.2.1 h2)]
  exact menuTo_right h2 h.2.2
theorem menuTo_zero {nd nh:Nat} {xs:List Int} (h:MenuTo nd none xs) (hl:xs.length=nh) (hd : 1≤nd) (hs:¬ (nd=1∧1<nh)):rightE nd nh xs=0:=by
 unfold rightE
 rw[if_neg (by rw[hl];simp[manyE])]
 rcases Nat.lt_or_ge nd 2 with q|q
 ·have hd1:nd=1:=by omega
  have hn1:nh≤1:=by omega
  cases xs with
  | nil=>rfl
  | cons x l =>
   have hl0:l=[]:=List.eq_nil_of_length_eq_zero (by simp at hl;omega)
   subst hl0
   have hx:=h.1
   simp[rightL,outB]
   omega
 ·exact menuTo_right q h
section
variable {fs:Array Func} [Like fs]
set_option maxRecDepth 20000 in
set_option maxHeartbeats 2000000 in
theorem menuOf_any (g:Nat) (K:Kt) (gA dA hA:Option Addr) (gc dc hc:Nat) (w:World) (hb:BagAt w g) (hd1 : 1≤K.dishes.length) (hd3:K.dishes.length≤1000) (hh:K.hauls.length≤1000) :
  Calls (Pf fs) 19 #[.pointer (some ⟨g,0,none⟩),ktV K gA dA hA gc dc hc] w fun e w'=>∃ A c xs,e=.returned (.slice A xs.length c)∧Ints w' A xs∧Kb g w w'∧xs.length=K.hauls.length∧MenuTo K.dishes.length none xs∧xs.length≤c:=by
 have hg:=hb.lt
 unfold ktV
 generalize K.dishes.length=nd at *
 generalize K.hauls.length=nh at *
 generalize K.goods.length=ng at *
 have HB:=Lib.hid (heap_alloc_new w (.cells #[.slice gA ng gc,.slice dA nd dc,.slice hA nh hc] 29))
 have HK0:=Lib.hid ((Kb.refl hb).grown (Grown.alloc w (.cells #[.slice gA ng gc,.slice dA nd dc,.slice hA nh hc] 29)))
 have HBG:=Lib.hid (hb.alloc (.cells #[.slice gA ng gc,.slice dA nd dc,.slice hA nh hc] 29))
 go_enter LK.func19,Try.ntmps19
 go_wp2_with fail
 go_loopw [5,6] (fun v i W=>∃ (xs:List Int) (A:Option Addr) (c:Nat),i=.int .i64 xs.length∧v=.slice A xs.length c∧Hid (L.OwnInts W (w.heap.size+1) A c xs)∧Hid (Kb g (w.alloc (.cells #[.slice gA ng gc,.slice dA nd dc,.slice hA nh hc] 29)) W)∧xs.length≤nh∧Hid (MenuTo nd none xs)) (fun _ i _=>nh-(intOf i).toNat)
 case atStart=>exact⟨[],none,0,rfl,rfl,L.OwnInts.nil _ _,Kb.refl HBG.out,by simp,trivial⟩
 case round =>
  obtain⟨xs,A,c,rfl,rfl,HO,HK,hxl,HM⟩:=hrel
  have hbx:=HK.out.ke.block HB.out (by omega)
  have q1:wr.cell? ⟨w.heap.size,1,none⟩=some (.slice dA nd dc):=blk_cell hbx 1
  have q2:wr.cell? ⟨w.heap.size,2,none⟩=some (.slice hA nh hc):=blk_cell hbx 2
  have HBX:=Lib.hid hbx
  clear hbx
  by_cases hlt:xs.length<nh
  ·have hli:(xs.length:Int)<(nh:Int):=by omega
   go_upto_region 6 with (go_at_call 27;refine (up_any g _ _ HK.out.bag (by omega)).mono ?_;rintro e w1 ⟨d,rfl,hdd0,hdd1,hB1⟩;have HO1:=Lib.hid (own_kb HO.out HK.out.bag (Kb.of_bagged HK.out.bag hB1));have HK1:=Lib.hid (HK.out.bagged hB1);clear HO HK hB1)
   have hbx:=HK1.out.ke.block HB.out (by omega)
   have q3:w1.cell? ⟨w.heap.size,1,none⟩=some (.slice dA nd dc):=blk_cell hbx 1
   have hd2:d≤(nd:Int)-1:=by omega
   clear hbx
   go_cut [31] (fun v W=>W=w1∧v=.bool (decide (xs.getLast?=some d)))
   case first =>
    by_cases hx0:xs=[]
    ·subst hx0
     have hlt0:¬ ((0:Int)<(([]:List Int).length:Int)):=by simp
     go_wp2_with fail
     go_meet
     exact⟨rfl,rfl⟩
    ·have hl0 : 0<xs.length:=List.length_pos_iff.2 hx0
     have hlt0:(0:Int)<(xs.length:Int):=by omega
     obtain⟨b,off,rfl,hcx⟩:∃ b off,A=some ⟨b,off,none⟩∧∀ k x,xs[k]?=some x→w1.cell? ⟨b,off+k,none⟩=some (.int .i64 x):=by
      rcases (ints_own HO1.out).form with h|h
      ·exact absurd h hx0
      ·exact h
     have hlast:xs.getLast?=some xs[xs.length-1]:=by rw[List.getLast?_eq_getElem?,List.getElem?_eq_getElem]
     have hc:=hcx _ _ (List.getElem?_eq_getElem (show xs.length-1<xs.length by omega))
     generalize xs[xs.length-1]=y at hlast hc
     have HL:=Lib.hid hlast
     clear hlast hcx hx0
     obtain⟨n,hn⟩:∃ n,xs.length=n+1:=⟨xs.length-1,by omega⟩
     have hc':w1.cell? ⟨b,off+n,none⟩=some (.int .i64 y):=by rw[hn] at hc;exact hc
     clear hc
     go_wp2_with fail
     go_meet
     exact⟨rfl,by rw[HL.out];refine congrArg Value.bool ?_;rw[Bool.eq_iff_iff,beq_iff_eq,decide_eq_true_iff,Option.some.injEq];exact eq_comm⟩
   case rest =>
   obtain⟨rfl,rfl⟩:=hcut
   obtain⟨B,hB⟩:∃ B,B=decide (xs.getLast?=some d):=⟨_,rfl⟩
   rw[← hB]
   have HBB:=Lib.hid hB
   clear hB
   go_upto_if 31 with fail
   go_cut [7] (fun v W=>W=wc∧∃ d':Int,v=.int .i64 d'∧Hid (0≤d'∧d'≤(nd:Int)-1)∧Hid (2≤nd→xs.getLast?≠some d'))
   case first =>
    cases B with
    | true =>
     have hw:wrap64 (d+1)=d+1:=IntWalk.wrap64_in _ ⟨by omega,by omega⟩
     go_wp2_with fail
     go_meet
     refine⟨rfl,_,rfl,⟨Int.emod_nonneg _ (by omega),by have:=Int.emod_lt_of_pos (d+1) (show (0:Int)<(nd:Int) by omega);omega⟩,fun h2 h=>?_⟩
     have hl:=HBB.out
     have hl2:xs.getLast?=some d:=by simpa using hl.symm
     rw[hl2] at h
     injection h with h
     rcases Int.lt_or_le (d+1) nd with q|q
     ·rw[Int.emod_eq_of_lt (by omega) q] at h;omega
     ·rw[show d+1=nd by omega,Int.emod_self] at h;omega
    | false =>
     go_wp2_with fail
     go_meet
     exact⟨rfl,d,rfl,⟨hdd0,hd2⟩,fun _ h=>by have:=HBB.out;simp[h] at this⟩
   case rest =>
   obtain⟨rfl,d',rfl,HD,HNE⟩:=hcut
   clear HBB hdd0 hdd1 hd2 q3
   go_wp2_with (at_builtin;refine L.wpl_app_ints rfl (.tmp 38) (.tmp 40) 22 rfl (w.heap.size+1) ((like_under 22).trans Try.underlying22) inf3 A c xs rfl (own_grown HO1.out (Grown.alloc _ _)) (wc.heap.size+1) (some ⟨wc.heap.size,0,none⟩) 1 [d'] rfl ints1 (by simp;omega) (by have:=HK1.out.ke.size;simp at this ⊢;omega) ?_;intro A2 c2 w2 hO2 hg2 hat2)
   have hK2:Kb g (w.alloc (.cells #[.slice gA ng gc,.slice dA nd dc,.slice hA nh hc] 29)) w2:=(HK1.out.grown (Grown.alloc _ _)).row hg2 fun k hk=>⟨by have:=(own_low HO1.out hk).1;simp;omega,by
    obtain⟨cs,q⟩:=own_tag HO1.out hk
    exact HK1.out.bag.tag q (by decide)⟩
   go_roundw
   case rel=>exact⟨xs++[d'],A2,c2,by simp,by simp,hO2,hK2,by simp;omega,menuTo_snoc HM.out HD.out fun h=>by simpa using HNE.out h⟩
   case measure=>simp[intOf];omega
  ·have hli:¬ (xs.length:Int)<(nh:Int):=by omega
   go_wp2_with fail
   go_ret
   exact⟨A,c,xs,rfl,ints_own HO.out,HK0.out.trans HK.out,by omega,HM.out,own_cap HO.out⟩
end
end Go.Gal
end
section
namespace Go.Gal
open Go Go.Par Go.Proofs Go.RowKit
section
variable {fs:Array Func} [Like fs]
structure LSt (g:Nat) (w0 W:World) (base tp:Nat) (ls:List (List Int)) (A:Option Addr) (c:Nat):Prop where
 row:LdList W base tp A c ls
 kb:Kb g w0 W
 big:base≤W.heap.size
 top:tp≤W.heap.size
theorem LSt.to {g:Nat} {w0 W W2:World} {base tp:Nat} {ls:List (List Int)} {A:Option Addr} {c:Nat} (h:LSt g w0 W base tp ls A c) (k:Kb g W W2):LSt g w0 W2 base tp ls A c:=
 have:=k.ke.size
 have h1:=h.big
 have h2:=h.top
 ⟨h.row.kb h.kb.bag (by decide) k,h.kb.trans k,by omega,by omega⟩
set_option maxRecDepth 20000 in
set_option maxHeartbeats 8000000 in
theorem loadsOf_any (g:Nat) (K:Kt) (gA dA hA:Option Addr) (gc dc hc:Nat) (w:World) (hb:BagAt w g) (hK:KtAt w K gA dA hA) (hg3:K.goods.length≤3) (hr:∀ x∈K.goods,x.room≤20) (hp:∀ x∈K.hauls,x.prices.length=K.goods.length) :
  Calls (Pf fs) 20 #[.pointer (some ⟨g,0,none⟩),ktV K gA dA hA gc dc hc] w fun e w'=>∃ A c ls,e=.returned (.slice A ls.length c)∧DishesAt w' A ls∧Kb g w w'∧ls.length=K.hauls.length∧(∀ l∈ls,l.length=K.goods.length∧∀ x∈l,0≤x∧x≤20)∧ls.length≤c:=by
 have hg:=hb.lt
 have hnh:=hK.nh
 have hng:=hK.ng
 have HR:=Lib.hid hr
 have HP:=Lib.hid hp
 clear hr hp
 unfold ktV
 have hGd:∀ W,Kb g w W→GdsAt W gA K.goods:=fun W k=>(hK.kb k hb).goods
 have hHd:∀ W,Kb g w W→HlsAt W hA K.hauls:=fun W k=>(hK.kb k hb).hauls
 have HGd:=Lib.hid hGd
 have HHd:=Lib.hid hHd
 clear hGd hHd hK
 generalize hgs:K.goods=gs at *
 generalize hhs:K.hauls=hs at *
 generalize K.dishes.length=nd at *
 have HB:=Lib.hid (heap_alloc_new w (.cells #[.slice gA gs.length gc,.slice dA nd dc,.slice hA hs.length hc] 29))
 have HK0:=Lib.hid ((Kb.refl hb).grown (Grown.alloc w (.cells #[.slice gA gs.length gc,.slice dA nd dc,.slice hA hs.length hc] 29)))
 have HBG:=Lib.hid (hb.alloc (.cells #[.slice gA gs.length gc,.slice dA nd dc,.slice hA hs.length hc] 29))
 go_enter LK.func20,Try.ntmps20
 go_wp2_with fail
 go_loopw [5,6] (fun v i W=>∃ (ls:List (List Int)) (A:Option Addr) (c tp:Nat),i=.int .i64 ls.length∧v=.slice A ls.length c∧Hid (LSt g (w.alloc (.cells #[.slice gA gs.length gc,.slice dA nd dc,.slice hA hs.length hc] 29)) W (w.heap.size+1) tp ls A c)∧ls.length≤hs.length∧Hid (∀ l∈ls,l.length=gs.length∧∀ x∈l,0≤x∧x≤20)) (fun _ i _=>hs.length-(intOf i).toNat)
 case atStart=>exact⟨[],none,0,0,rfl,rfl,⟨RecList.nil,Kb.refl HBG.out,by simp,by simp⟩,by simp,fun x h=>by simp at h⟩
 case round =>
  obtain⟨ls,A,c,tp,rfl,rfl,HS,hll,HOK⟩:=hrel
  obtain⟨w0,rfl⟩:∃ w0,w0=wr:=⟨_,rfl⟩
  have hbx:=HS.out.kb.ke.block HB.out (by omega)
  have q2:w0.cell? ⟨w.heap.size,2,none⟩=some (.slice hA hs.length hc):=blk_cell hbx 2
  by_cases hlt:ls.length<hs.length
  ·have hli:(ls.length:Int)<(hs.length:Int):=by omega
   clear hbx
   go_wp2_with fail
   go_loopw [7,8] (fun v i W=>∃ (xs:List Int) (nA:Option Addr) (nc:Nat),i=.int .i64 xs.length∧v=.slice nA xs.length nc∧Hid (L.OwnInts W w0.heap.size nA nc xs)∧Hid (Kb g w0 W)∧xs.length≤gs.length∧Hid (∀ x∈xs,0≤x∧x≤20)) (fun _ i _=>gs.length-(intOf i).toNat)
   case atStart=>exact⟨[],none,0,rfl,rfl,L.OwnInts.nil _ _,Kb.refl HS.out.kb.bag,by simp,fun x h=>by simp at h⟩
   case round =>
    obtain⟨xs,nA,nc,rfl,rfl,HO,HV,hxl,HX⟩:=hrel
    have hbx:=(HS.out.kb.trans HV.out).ke.block HB.out (by omega)
    have q1:wr.cell? ⟨w.heap.size,0,none⟩=some (.slice gA gs.length gc):=blk_cell hbx 0
    by_cases hxt:xs.length<gs.length
    ·have hxi:(xs.length:Int)<(gs.length:Int):=by omega
     obtain⟨gb,go,rfl,x1,_,_,_⟩:=HGd.out wr (HK0.out.trans (HS.out.kb.trans HV.out)) xs.length _ (List.getElem?_eq_getElem hxt)
     have hrm:=HR.out gs[xs.length] (List.getElem_mem hxt)
     generalize gs[xs.length].room=room at x1 hrm
     obtain⟨hb1,ho1,rfl,pA,pc,_,_,x3,x4,_⟩:=HHd.out wr (HK0.out.trans (HS.out.kb.trans HV.out)) ls.length _ (List.getElem?_eq_getElem hlt)
     have hpl:=HP.out hs[ls.length] (List.getElem_mem hlt)
     obtain⟨pb,po,rfl,x5⟩:=x4 xs.length _ (List.getElem?_eq_getElem (show xs.length<hs[ls.length].prices.length by omega))
     rw[hpl] at x3
     generalize hs[ls.length].prices[xs.length]'(by omega)=price at x5
     clear x4 hpl hbx
     have X1:=Lib.hid x1
     have X3:=Lib.hid x3
     have X5:=Lib.hid x5
     clear x1 x3 x5
     go_wp2_with fail
     have hS:wr.drew.cell? ⟨w.heap.size,0,none⟩=some (.slice (some ⟨gb,go,none⟩) gs.length gc)∧wr.drew.cell? ⟨gb,go+xs.length*4,none⟩=some (.int .i64 room):=⟨q1,X1.out⟩
     have HV1:=Lib.hid (show Kb g w0 wr.drew from ⟨HV.out.bag.drew,HV.out.ke.drew⟩)
     have HO1:=Lib.hid (show L.OwnInts wr.drew w0.heap.size nA nc xs from HO.out)
     have HHS:=Lib.hid hS
     have hX35:wr.drew.cell? ⟨hb1,ho1+ls.length*3+2,none⟩=some (.slice (some ⟨pb,po,none⟩) gs.length pc)∧wr.drew.cell? ⟨pb,po+xs.length,none⟩=some (.int .i64 price)∧wr.drew.cell? ⟨w.heap.size,2,none⟩=some (.slice (some ⟨hb1,ho1,none⟩) hs.length hc):=⟨X3.out,X5.out,HV.out.cell HS.out.kb.bag q2 (by simp)⟩
     have HX35:=Lib.hid hX35
     have HDR:=Lib.hid (Kb.refl HV1.out.bag)
     clear HV HO q1 q2 hX35 X1 X3 X5
     refine wp_region_L (by kernel_rfl) (fun W=>W.cell? ⟨w.heap.size,0,none⟩=some (.slice (some ⟨gb,go,none⟩) gs.length gc)∧W.cell? ⟨gb,go+xs.length*4,none⟩=some (.int .i64 room)) [] ?_
     refine wpAnyL_p 0 ?_ rfl ?_ ?_;case refine_2=>(intro w _;go_simp;try rfl)
     refine wpAnyL_p 1 ?_ rfl ?_ ?_;case refine_2=>(intro w _;go_simp;try rfl)
     refine wpAnyL_p 3 ?_ rfl ?_ ?_;case refine_2=>(intro w _;go_simp;try rfl)
     refine wpAnyL_p 4 ?_ rfl ?_ ?_;case refine_2=>(intro w _;go_simp;try rfl)
     refine wpAnyL_t 5 ?_ rfl hS ?_ ?_;case refine_2=>(intro w hSw;(try dsimp only at hSw);go_simp;try rfl)
     refine wpAnyL_p 6 ?_ rfl ?_ ?_;case refine_2=>(intro w _;go_simp;try rfl)
     refine wpAnyL_p 7 ?_ rfl ?_ ?_;case refine_2=>(intro w _;go_simp;try rfl)
     refine wpAnyL_p 8 ?_ rfl ?_ ?_;case refine_2=>(intro w _;go_simp;try rfl)
     refine wpAnyL_t 9 ?_ rfl hS ?_ ?_;case refine_2=>(intro w hSw;(try dsimp only at hSw);go_simp;try rfl)
     refine wpAnyL_one (i:=2) rfl (by kernel_rfl) ?_
     intro Kq hKq
     go_simp
     refine (up_any g _ _ HDR.out.bag (by omega)).mono ?_
     rintro e w5 ⟨u,rfl,hu0,hu1,hB5⟩
     have hV5:=HDR.out.bagged hB5
     have hS:w5.cell? ⟨w.heap.size,0,none⟩=some (.slice (some ⟨gb,go,none⟩) gs.length gc)∧w5.cell? ⟨gb,go+xs.length*4,none⟩=some (.int .i64 room):=⟨hV5.cell HDR.out.bag HHS.out.1 (by simp),hV5.cell HDR.out.bag HHS.out.2 (by simp)⟩
     have HV5:=Lib.hid hV5
     clear hV5 hB5
     refine hKq.out _ _ hS (fun _=>?_)
     clear hKq Kq
     refine wpAnyL_one (i:=10) rfl (by kernel_rfl) ?_
     intro Kq hKq
     go_simp
     refine (up_any g _ _ HV5.out.bag (by omega)).mono ?_
     rintro e w6 ⟨u2,rfl,hu2,hu3,hB6⟩
     have hV6:=HV5.out.bagged hB6
     have hS:w6.cell? ⟨w.heap.size,0,none⟩=some (.slice (some ⟨gb,go,none⟩) gs.length gc)∧w6.cell? ⟨gb,go+xs.length*4,none⟩=some (.int .i64 room):=⟨hV6.cell HDR.out.bag HHS.out.1 (by simp),hV6.cell HDR.out.bag HHS.out.2 (by simp)⟩
     have HV6:=Lib.hid hV6
     clear hV6 hB6 HV5
     refine hKq.out _ _ hS (fun _=>?_)
     clear hKq Kq
     refine wpAnyL_one (i:=11) rfl (by kernel_rfl) ?_
     intro Kq hKq
     go_simp
     refine hKq.out _ _ ⟨cell_alloc _ hS.1,cell_alloc _ hS.2⟩ (fun _=>?_)
     clear hKq Kq hS
     refine wpAnyL_one (i:=12) rfl (by kernel_rfl) ?_
     intro Kq hKq
     go_simp
     refine (one_new (fs:=fs) g 3 [0,u,u2] wr.drew w6 rfl HV6.out (by simp) (by simp) rfl).mono ?_
     rintro e w7 ⟨v,rfl,hv,hV7⟩
     have hS:w7.cell? ⟨w.heap.size,0,none⟩=some (.slice (some ⟨gb,go,none⟩) gs.length gc)∧w7.cell? ⟨gb,go+xs.length*4,none⟩=some (.int .i64 room):=⟨hV7.cell HDR.out.bag HHS.out.1 (by simp),hV7.cell HDR.out.bag HHS.out.2 (by simp)⟩
     have HV7:=Lib.hid hV7
     clear hV7 HV6
     refine hKq.out _ _ hS (fun _=>?_)
     clear hKq Kq
     refine wpAnyL_one (i:=13) rfl (by kernel_rfl) ?_
     intro Kq hKq
     go_simp
     refine hKq.out _ _ hS (fun _=>?_)
     clear hKq Kq
     try simp only[Act.put,List.setIfInBounds_toArray,List.set_cons_zero,List.set_cons_succ]
     refine wpAnyL_done (by kernel_rfl) ?_
     try simp only[Act.put,List.getElem_toArray,List.getElem_cons_succ,List.getElem_cons_zero,List.setIfInBounds_toArray,List.set_cons_zero,List.set_cons_succ]
     have hv20 : 0≤v∧v≤20:=by
      simp only[List.mem_cons,List.not_mem_nil,or_false] at hv
      omega
     have p3:=HV7.out.cell HDR.out.bag HX35.out.1 (by simp)
     have p5:=HV7.out.cell HDR.out.bag HX35.out.2.1 (by simp)
     have p2:=HV7.out.cell HDR.out.bag HX35.out.2.2 (by simp)
     clear hS hv hu0 hu1 hu2 hu3
     go_upto_region 10 with fail
     go_cut [50] (fun v' W=>(∃ B:Bool,v'=.bool B)∧Hid (Kb g w7 W))
     case first =>
      have HV8:=Lib.hid (Kb.refl HV7.out.bag)
      by_cases hpr:price=0
      ·subst hpr
       go_wp2_with (go_at_call 58;refine (chance_any g _ _ _ HV8.out.bag (by omega) (by omega)).mono ?_;rintro e w8 ⟨B,rfl,hB8⟩;have HV9:=Lib.hid (HV8.out.bagged hB8);clear HV8 hB8)
       go_meet
       exact⟨⟨_,rfl⟩,HV9.out⟩
      ·have hpb:(price==0)=false:=by simp[hpr]
       go_wp2_with fail
       go_meet
       exact⟨⟨_,rfl⟩,HV8.out⟩
     case rest =>
     obtain⟨⟨B,rfl⟩,HV8⟩:=hcut
     go_upto_if 50 with fail
     go_cut [9] (fun v' W=>W=wc∧∃ x:Int,v'=.int .i64 x∧Hid (0≤x∧x≤20))
     case first =>
      cases B with
      | true =>
       go_wp2_with fail
       go_meet
       exact⟨rfl,0,rfl,⟨by decide,by decide⟩⟩
      | false =>
       go_wp2_with fail
       go_meet
       exact⟨rfl,v,rfl,hv20⟩
     case rest =>
     obtain⟨rfl,x,rfl,HXX⟩:=hcut
     have hO9:L.OwnInts wc w0.heap.size nA nc xs:=own_kb HO1.out HDR.out.bag (HV7.out.trans HV8.out)
     have hV9:Kb g w0 wc:=HV1.out.trans (HV7.out.trans HV8.out)
     have HO9:=Lib.hid hO9
     have HV9:=Lib.hid hV9
     clear hO9 hV9 HV1 HO1 HDR HHS HX35 HV7 HV8 hv20 p3 p5 p2
     go_wp2_with (at_builtin;refine L.wpl_app_ints rfl (.tmp 51) (.tmp 53) 22 rfl w0.heap.size ((like_under 22).trans Try.underlying22) inf3 nA nc xs rfl (own_grown HO9.out (Grown.alloc _ _)) (wc.heap.size+1) (some ⟨wc.heap.size,0,none⟩) 1 [x] rfl ints1 (by simp;omega) (by have:=HV9.out.ke.size;simp;omega) ?_;intro A2 c2 w2 hO2 hg2 hat2)
     have hK2:Kb g w0 w2:=(HV9.out.grown (Grown.alloc _ _)).row hg2 fun k hk=>⟨(own_low HO9.out hk).1,by
      obtain⟨cs,q⟩:=own_tag HO9.out hk
      exact HV9.out.bag.tag q (by decide)⟩
     go_roundw
     case rel=>exact⟨xs++[x],A2,c2,by simp,by simp,hO2,hK2,by simp;omega,fun y hy=>by
      rw[List.mem_append] at hy
      rcases hy with hy|hy
      ·exact HX.out y hy
      ·simp only[List.mem_singleton] at hy
       subst hy
       exact HXX.out⟩
     case measure=>simp[intOf];omega
    ·have hxe:xs.length=gs.length:=by omega
     have hxi:¬ (xs.length:Int)<(gs.length:Int):=by omega
     have hs9:=HS.out.to (HV.out.grown (Grown.alloc wr (.cells #[.slice nA xs.length nc] 22)))
     have hn9:=heap_alloc_new wr (.cells #[.slice nA xs.length nc] 22)
     have hO9:L.OwnInts (wr.alloc (.cells #[.slice nA xs.length nc] 22)) (w.heap.size+1) nA nc xs:=own_weaken (own_grown HO.out (Grown.alloc _ _)) HS.out.big
     have hT9:∀ k,nA.map (·.block)=some k→tp≤k:=fun k hk=>by
      have h1:=(own_low HO.out (by rw[ownBlk];exact hk)).1
      have h2:=HS.out.top
      omega
     have HS9:=Lib.hid hs9
     have HN9:=Lib.hid hn9
     have HO9:=Lib.hid hO9
     have HT9:=Lib.hid hT9
     have HXE:=Lib.hid hxe
     clear hs9 hn9 hO9 hT9 HO HV hxe hbx
     go_wp2_with (at_builtin;refine wpl_app_rec rfl (.tmp 55) (.tmp 57) 32 rfl ((like_under 32).trans Try.underlying32) _ 24 inf22 rfl (by decide) (by decide) rfl HS9.out.row wr.heap.size 1 rfl xs nA nc _ 22 HN9.out rfl rfl (by intro u hu;simp[encD] at hu;subst hu;rfl) HO9.out HT9.out (by decide) (by omega) HS9.out.big HS9.out.top ?_;intro A2 c2 w9 hR9 hg9)
     have hlow:∀ k,(Value.slice A ls.length c).ownBlock=some k→w.heap.size+1≤k∧k≠g:=fun k hk=>by
      obtain⟨⟨cs,q⟩,q2,_⟩:=HS9.out.row.tag hk
      exact⟨q2,HS9.out.kb.bag.tag q (by decide)⟩
     have hK9:=HS9.out.kb.row hg9 (fun k hk=>⟨by have:=(hlow k hk).1;simp;omega,(hlow k hk).2⟩)
     go_roundw
     case rel=>exact⟨ls++[xs],A2,c2,_,by simp,by simp,⟨hR9,hK9,by have:=hK9.ke.size;simp at this;omega,Nat.le_refl _⟩,by simp;omega,fun y hy=>by
      rw[List.mem_append] at hy
      rcases hy with hy|hy
      ·exact HOK.out y hy
      ·simp only[List.mem_singleton] at hy
       subst hy
       exact⟨HXE.out,HX.out⟩⟩
     case measure=>simp[intOf];omega
  ·have hli:¬ (ls.length:Int)<(hs.length:Int):=by omega
   go_wp2_with fail
   go_ret
   exact⟨A,c,ls,rfl,DsList.at_ HS.out.row fun d hd=>by have:=(HOK.out d hd).1;omega,HK0.out.trans HS.out.kb,by omega,HOK.out,RecList.cap HS.out.row⟩
end
end Go.Gal
end
section
namespace Go.Gal
open Go Go.Par Go.Proofs Go.RowKit
section
variable {fs:Array Func} [Like fs]
theorem copyInts_any (xs:List Int) (A:Option Addr) (c:Nat) (w:World) (h:Ints w A xs) (hlen:xs.length≤1000) :
  Calls (Pf fs) 33 #[.slice A xs.length c] w fun e w'=>∃ A c',e=.returned (.slice A xs.length c')∧Grown w w'∧L.OwnInts w' w.heap.size A c' xs:=by
 have HI:=Lib.hid h
 clear h
 go_enter LK.func33,Try.ntmps33
 go_wp2_with (at_builtin;refine L.wpl_app_ints rfl (.tmp 3) (.tmp 4) 22 rfl w.heap.size ((like_under 22).trans Try.underlying22) inf3 (some ⟨w.heap.size,0,none⟩) 0 [] rfl (World.ownsRow_lit w #[] 0 (Nat.le_refl _) (by decide) (by simp)) (w.alloc (.cells #[] 3)).heap.size A c xs rfl (HI.out.grown (Grown.alloc _ _)).toB (by simp;omega) (by simp) ?_;intro A2 c2 w4 hown hg4 hat;have HG:=Lib.hid (Grown.by hg4 w (Grown.alloc w _) (fun k hk=>by cases hk;exact Nat.le_refl _));have HO:=Lib.hid hown;clear hown hg4 hat)
 go_ret
 exact⟨A2,c2,by simp,HG.out,HO.out⟩
end
structure CSt (w wr:World) (X base m tp:Nat) (gs:List Gd) (gA:Option Addr) (gc:Nat) (ds:List (List Int)) (dA:Option Addr) (dc:Nat) (hs:List Hl) (hA:Option Addr) (hc:Nat):Prop where
 box:wr.heap[X]?=some (.cells #[.slice gA gs.length gc,.slice dA ds.length dc,.slice hA hs.length hc] 29 (0,0))
 r1:GdList wr base base gA gc gs
 r2:DsList wr base tp dA dc ds
 r3:HlList wr m tp hA hc hs
 gr:Grown w wr
 low:w.heap.size≤X
 lowb:w.heap.size≤base
 mid:base≤m
 big:m≤wr.heap.size
 top:tp≤wr.heap.size
section
variable {w wr w2:World} {X base m tp:Nat} {gs:List Gd} {gA:Option Addr} {gc:Nat} {ds:List (List Int)} {dA:Option Addr} {dc:Nat} {hs:List Hl} {hA:Option Addr} {hc:Nat}
theorem CSt.to (h:CSt w wr X base m tp gs gA gc ds dA dc hs hA hc) (k:Grown wr w2):CSt w w2 X base m tp gs gA gc ds dA dc hs hA hc:=
 have:=k.size
 have h1:=h.big
 have h2:=h.top
 ⟨blk_grown h.box k,h.r1.grown k,h.r2.grown k,h.r3.grown k,h.gr.trans k,h.low,h.lowb,h.mid,by omega,by omega⟩
theorem CSt.putBox {i:Nat} {v:Value} {row:Option Nat} {W:World} (h:CSt w wr X base m tp gs gA gc ds dA dc hs hA hc) (hgr:wr.grownBy W row) (hr:∀ k,row=some k→∃ cs t,wr.heap[k]?=some (.cells cs t (0,0))∧t≠29∧t≠91∧w.heap.size≤k) :
  W.heap[X]?=some (.cells #[.slice gA gs.length gc,.slice dA ds.length dc,.slice hA hs.length hc] 29 (0,0)) ∧
  (W.setCell ⟨X,i,none⟩ v).heap[X]?=some (.cells (#[.slice gA gs.length gc,.slice dA ds.length dc,.slice hA hs.length hc].setIfInBounds i v) 29 (0,0)) ∧
  Grown w (W.setCell ⟨X,i,none⟩ v)∧wr.heap.size≤W.heap.size:=by
 have hs:=hgr.size
 have hne:some X≠row:=fun e=>by
  obtain⟨cs,t,h1,h2,_⟩:=hr X e.symm
  exact tag_ne h.box h1 (fun q=>h2 q.symm) rfl
 have b1:W.heap[X]?=_:=(hgr.block _ (lt_of_block h.box) hne).trans h.box
 have hg:Grown w W:=Grown.by hgr w h.gr fun k hk=>by
  obtain⟨_,_,_,_,_,h5⟩:=hr k hk
  exact h5
 have hlow:=h.low
 refine⟨b1,blk_set b1 _,⟨by rw[size_setCell];exact hg.size,fun b hb=>?_,hg.os⟩,hs⟩
 rw[Below.heap_setCell _ _ _ _ (by simp only;omega)]
 exact hg.same b hb
theorem CSt.rowTag {e size:Nat} {α : Type} {enc : α→Option Addr→Nat→List Value} {inn : α→List Int} {b top c:Nat} {A:Option Addr} {xs:List α} (h:RecList e size enc inn wr b top A c xs) (h1:e≠29) (h2:e≠91) (hb:w.heap.size≤b):∀ k,(Value.slice A xs.length c).ownBlock=some k→∃ cs t,wr.heap[k]?=some (.cells cs t (0,0))∧t≠29∧t≠91∧w.heap.size≤k:=fun k hk=>by
 obtain⟨⟨cs,q⟩,q2,_⟩:=h.tag hk
 exact⟨cs,e,q,h1,h2,by omega⟩
theorem CSt.put2 {x:List Int} {A2:Option Addr} {c2:Nat} {W:World} (h:CSt w wr X base m tp gs gA gc ds dA dc [] none 0) (hR:DsList W base W.heap.size A2 c2 (ds++[x])) (hgr:wr.grownBy W (Value.slice dA ds.length dc).ownBlock) :
  (W.cell? ⟨X,1,none⟩=some (.slice dA ds.length dc)∧W.frozen? ⟨X,1,none⟩=false) ∧
  CSt w (W.setCell ⟨X,1,none⟩ (.slice A2 (ds.length+1) c2)) X base m W.heap.size gs gA gc (ds++[x]) A2 c2 [] none 0:=by
 obtain⟨k1,k2,k3,k6⟩:=h.putBox (i:=1) (v:=.slice A2 (ds.length+1) c2) hgr (CSt.rowTag h.r2 (by decide) (by decide) h.lowb)
 have ht:=h.top
 have hbg:=h.big
 refine⟨⟨blk_cell k1 1,blk_frozen k1 1⟩,by rw[List.length_append];exact k2,?_,hR.box (p:=⟨X,1,none⟩) k1 (by decide) _,RecList.nil,k3,h.low,h.lowb,h.mid,by rw[size_setCell];omega,by rw[size_setCell];exact Nat.le_refl _⟩
 exact (h.r1.other hgr (fun k hk=>(h.r2.tag hk).1) (by decide) (by decide)).box (p:=⟨X,1,none⟩) k1 (by decide) _
theorem CSt.put3 {x:Hl} {A2:Option Addr} {c2 tp2:Nat} {W:World} (h:CSt w wr X base m tp gs gA gc ds dA dc hs hA hc) (hd:DsList wr base tp2 dA dc ds) (hR:HlList W m W.heap.size A2 c2 (hs++[x])) (hgr:wr.grownBy W (Value.slice hA hs.length hc).ownBlock) :
  (W.cell? ⟨X,2,none⟩=some (.slice hA hs.length hc)∧W.frozen? ⟨X,2,none⟩=false) ∧
  CSt w (W.setCell ⟨X,2,none⟩ (.slice A2 (hs.length+1) c2)) X base m W.heap.size gs gA gc ds dA dc (hs++[x]) A2 c2∧DsList (W.setCell ⟨X,2,none⟩ (.slice A2 (hs.length+1) c2)) base tp2 dA dc ds:=by
 have hmid:=h.mid
 have hlb:=h.lowb
 obtain⟨k1,k2,k3,k6⟩:=h.putBox (i:=2) (v:=.slice A2 (hs.length+1) c2) hgr (CSt.rowTag h.r3 (by decide) (by decide) (by omega))
 have ht:=h.top
 have hbg:=h.big
 refine⟨⟨blk_cell k1 2,blk_frozen k1 2⟩,⟨by rw[List.length_append];exact k2,?_,?_,hR.box (p:=⟨X,2,none⟩) k1 (by decide) _,k3,h.low,h.lowb,h.mid,by rw[size_setCell];omega,by rw[size_setCell];exact Nat.le_refl _⟩,?_⟩
 ·exact (h.r1.other hgr (fun k hk=>(h.r3.tag hk).1) (by decide) (by decide)).box (p:=⟨X,2,none⟩) k1 (by decide) _
 ·exact ((h.r2.other hgr (fun k hk=>(h.r3.tag hk).1) (by decide) (by decide)).box (p:=⟨X,2,none⟩) k1 (by decide) _).up (by omega)
 ·exact (hd.other hgr (fun k hk=>(h.r3.tag hk).1) (by decide) (by decide)).box (p:=⟨X,2,none⟩) k1 (by decide) _
end
def gdCells (gs:List Gd):List Value:=gs.flatMap fun g=>encG g none 0
theorem gdCells_len:∀ gs:List Gd,(gdCells gs).length=gs.length*4
 | []=>rfl
 | g::l=>by
  show (encG g none 0++gdCells l).length=_
  rw[List.length_append,gdCells_len l]
  simp[encG]
  omega
theorem gdCells_at:∀ (gs:List Gd) (j i:Nat) (g:Gd),i<4→gs[j]?=some g→(gdCells gs)[j*4+i]?=(encG g none 0)[i]?
 | [],j,i,g,_,h=>by simp at h
 | x::l,0,i,g,hi,h=>by
  cases h
  show (encG x none 0++gdCells l)[0*4+i]?=_
  rw[Nat.zero_mul,Nat.zero_add,List.getElem?_append_left (by simp[encG];omega)]
 | x::l,j+1,i,g,hi,h=>by
  show (encG x none 0++gdCells l)[(j+1)*4+i]?=_
  rw[List.getElem?_append_right (by simp[encG];omega),show (j+1)*4+i-(encG x none 0).length=j*4+i by simp[encG];omega]
  exact gdCells_at l j i g hi (by simpa using h)
theorem GdsAt.reads {w:World} {A:Option Addr} {gs:List Gd} (h:GdsAt w A gs):L.Reads w w.heap.size 4 A gs.length (gdCells gs):=by
 refine⟨gdCells_len gs,fun hn=>?_⟩
 rcases h.form with rfl|⟨b,off,rfl,hc⟩
 ·simp at hn
 ·have h0:=hc 0 _ (List.getElem?_eq_getElem hn)
  refine⟨_,rfl,cell_lt h0.1,fun j u hu=>?_⟩
  have hj:j<gs.length*4:=by have:=(List.getElem?_eq_some_iff.1 hu).1;rwa [gdCells_len] at this
  obtain⟨k1,k2,k3,k4⟩:=hc (j / 4) _ (List.getElem?_eq_getElem (show j / 4<gs.length by omega))
  have e:=gdCells_at gs (j / 4) (j % 4) _ (Nat.mod_lt _ (by decide)) (List.getElem?_eq_getElem (show j / 4<gs.length by omega))
  rw[show j / 4*4+j % 4=j by omega,hu] at e
  have key:w.cell? ⟨b,off+j,none⟩=some u:=by
   have hm:j % 4<4:=Nat.mod_lt _ (by decide)
   have hj4:off+j=off+j / 4*4+j % 4:=by omega
   rw[hj4]
   generalize j % 4=q at *
   rcases q with _|_|_|_|q
   ·cases e;exact k1
   ·cases e;exact k2
   ·cases e;exact k3
   ·cases e;exact k4
   ·omega
  unfold Addr.add
  split
  ·rename_i hj0;subst hj0;simpa using key
  ·exact key
theorem gdCells_one {gs:List Gd} : ∀ u∈gdCells gs,u.oneCell'=true:=fun u hu=>by
 simp only[gdCells,List.mem_flatMap] at hu
 obtain⟨g,_,hu⟩:=hu
 simp[encG] at hu
 rcases hu with rfl|rfl|rfl|rfl<;>rfl
theorem GdList.of_own {w:World} {base top c:Nat} {A:Option Addr} {gs:List Gd} (h:w.ownsRow base 42 4 (.slice A gs.length c) gs.length (gdCells gs)):GdList w base top A c gs:=
 ⟨gdCells gs,fun _=>none,fun _=>0,h,fun j g hj=>⟨fun i v hv=>by
  have hi:i<4:=by have:=(List.getElem?_eq_some_iff.1 hv).1;simpa[encG] using this
  rw[gdCells_at gs j i g hi hj]
  exact hv,L.OwnInts.nil _ _,fun k hk=>by simp at hk⟩,fun j j' k _ _ hk=>by simp at hk⟩
end Go.Gal
end
