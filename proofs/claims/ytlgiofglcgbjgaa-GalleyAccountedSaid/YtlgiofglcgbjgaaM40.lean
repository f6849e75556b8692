/- Walks: MenuOf. Walks: LoadsOf (printed by gen_lof.py). Walks: CopyInts; what CopyKitchen holds. Walks: CopyKitchen (printed by gen_cpk.py). Writes into own rows of records; a kitchen of .. -/
import Derived.Test.YtlgiofglcgbjgaaM39
import Derived.Test.YtlgiofglcgbjgaaRows
import Derived.Conc.LeavingOf
import Derived.OpenShut
import Derived.ChangeSame
import Derived.Carry
namespace Go.Gal
open Go Go.Par Go.Proofs Go.RowKit
section
def MenuTo (nd:Nat):Option Int→List Int→Prop
 | _,[]=>True
 | p,d::l=>(0≤d∧d≤(nd:Int)-1)∧(2≤nd→p≠some d)∧MenuTo nd (some d) l
theorem menuTo_snoc {nd:Nat} {d:Int} : ∀ {xs:List Int} {p:Option Int},MenuTo nd p xs→(0≤d∧d≤(nd:Int)-1)→(2≤nd→(xs.getLast?.or p)≠some d)→MenuTo nd p (xs++[d])
 | [],p,_,h1,h2=>⟨h1,fun h=>by simpa using h2 h,trivial⟩
 | x::l,p,h,h1,h2=>by
  refine⟨h.1,h.2.1,menuTo_snoc h.2.2 h1 fun hn=>?_⟩
  have:=h2 hn
  rw[List.getLast?_cons] at this
  cases hl:l.getLast? with
  | none=>rw[hl] at this;simpa using this
  | some y=>rw[hl] at this;simpa using this
theorem menuTo_right {nd:Nat} (h2 : 2≤nd):∀ {xs:List Int} {p:Option Int},MenuTo nd p xs→qr nd p xs=0
 | [],_,_=>rfl
 | x::l,p,h=>by
  unfold qr
  have hx:=h.1
  rw[if_neg (by simp[outB];omega),if_neg (h.2.1 h2)]
  exact menuTo_right h2 h.2.2
theorem menuTo_zero {nd nh:Nat} {xs:List Int} (h:MenuTo nd none xs) (hl:xs.length=nh) (hd : 1≤nd) (hs:¬ (nd=1∧1<nh)):qf nd nh xs=0:=by
 unfold qf
 rw[if_neg (by rw[hl];simp[manyE])]
 rcases Nat.lt_or_ge nd 2 with q|q
 ·have hd1:nd=1:=by omega
  have hn1:nh≤1:=by omega
  cases xs with
  | nil=>rfl
  | cons x l =>
   have hl0:l=[]:=List.eq_nil_of_length_eq_zero (by simp at hl;omega)
   subst hl0
   have hx:=h.1
   simp[qr,outB]
   omega
 ·exact menuTo_right q h
section
variable {fs:Array Func} [Like fs]
set_option maxRecDepth 20000 in
set_option maxHeartbeats 2000000 in
theorem menuOf_any (g:Nat) (K:Kt) (gA dA hA:Option Addr) (gc dc hc:Nat) (w:World) (hb:BagAt w g) (hd1 : 1≤K.dishes.length) (hd3:K.dishes.length≤1000) (hh:K.hauls.length≤1000) :
  Calls (Pf fs) 19 #[.pointer (some ⟨g,0,none⟩),ktV K gA dA hA gc dc hc] w fun e w'=>∃ A c xs,e=.returned (.slice A xs.length c)∧Ints w' A xs∧Kb g w w'∧xs.length=K.hauls.length∧MenuTo K.dishes.length none xs∧xs.length≤c:=by
 have hg:=hb.lt
 unfold ktV
 generalize K.dishes.length=nd at *
 generalize K.hauls.length=nh at *
 generalize K.goods.length=ng at *
 have HB:=Lib.hid (heap_alloc_new w (.cells #[.slice gA ng gc,.slice dA nd dc,.slice hA nh hc] 29))
 have HK0:=Lib.hid ((Kb.refl hb).grown (Grown.alloc w (.cells #[.slice gA ng gc,.slice dA nd dc,.slice hA nh hc] 29)))
 have HBG:=Lib.hid (hb.alloc (.cells #[.slice gA ng gc,.slice dA nd dc,.slice hA nh hc] 29))
 go_enter LK.func19,Try.ntmps19
 go_wp2_with fail
 go_loopw [5,6] (fun v i W=>∃ (xs:List Int) (A:Option Addr) (c:Nat),i=.int .i64 xs.length∧v=.slice A xs.length c∧Hid (L.OwnInts W (w.heap.size+1) A c xs)∧Hid (Kb g (w.alloc (.cells #[.slice gA ng gc,.slice dA nd dc,.slice hA nh hc] 29)) W)∧xs.length≤nh∧Hid (MenuTo nd none xs)) (fun _ i _=>nh-(intOf i).toNat)
 case atStart=>exact⟨[],none,0,rfl,rfl,L.OwnInts.nil _ _,Kb.refl HBG.out,by simp,trivial⟩
 case round =>
  obtain⟨xs,A,c,rfl,rfl,HO,HK,hxl,HM⟩:=hrel
  have hbx:=HK.out.ke.block HB.out (by omega)
  have q1:wr.cell? ⟨w.heap.size,1,none⟩=some (.slice dA nd dc):=za hbx 1
  have q2:wr.cell? ⟨w.heap.size,2,none⟩=some (.slice hA nh hc):=za hbx 2
  have HBX:=Lib.hid hbx
  clear hbx
  by_cases hlt:xs.length<nh
  ·have hli:(xs.length:Int)<(nh:Int):=by omega
   go_upto_region 6 with (go_at_call 27;refine (up_any g _ _ HK.out.bag (by omega)).mono ?_;rintro e w1 ⟨d,rfl,hdd0,hdd1,hB1⟩;have HO1:=Lib.hid (own_kb HO.out HK.out.bag (Kb.of_bagged HK.out.bag hB1));have HK1:=Lib.hid (HK.out.bagged hB1);clear HO HK hB1)
   have hbx:=HK1.out.ke.block HB.out (by omega)
   have q3:w1.cell? ⟨w.heap.size,1,none⟩=some (.slice dA nd dc):=za hbx 1
   have hd2:d≤(nd:Int)-1:=by omega
   clear hbx
   go_cut [31] (fun v W=>W=w1∧v=.bool (decide (xs.getLast?=some d)))
   case first =>
    by_cases hx0:xs=[]
    ·subst hx0
     have hlt0:¬ ((0:Int)<(([]:List Int).length:Int)):=by simp
     go_wp2_with fail
     go_meet
     exact⟨rfl,rfl⟩
    ·have hl0 : 0<xs.length:=List.length_pos_iff.2 hx0
     have hlt0:(0:Int)<(xs.length:Int):=by omega
     obtain⟨b,off,rfl,hcx⟩:∃ b off,A=some ⟨b,off,none⟩∧∀ k x,xs[k]?=some x→w1.cell? ⟨b,off+k,none⟩=some (.int .i64 x):=by
      rcases (ints_own HO1.out).form with h|h
      ·exact absurd h hx0
      ·exact h
     have hlast:xs.getLast?=some xs[xs.length-1]:=by rw[List.getLast?_eq_getElem?,List.getElem?_eq_getElem]
     have hc:=hcx _ _ (List.getElem?_eq_getElem (show xs.length-1<xs.length by omega))
     generalize xs[xs.length-1]=y at hlast hc
     have HL:=Lib.hid hlast
     clear hlast hcx hx0
     obtain⟨n,hn⟩:∃ n,xs.length=n+1:=⟨xs.length-1,by omega⟩
     have hc':w1.cell? ⟨b,off+n,none⟩=some (.int .i64 y):=by rw[hn] at hc;exact hc
     clear hc
     go_wp2_with fail
     go_meet
     exact⟨rfl,by rw[HL.out];refine congrArg Value.bool ?_;rw[Bool.eq_iff_iff,beq_iff_eq,decide_eq_true_iff,Option.some.injEq];exact eq_comm⟩
   case rest =>
   obtain⟨rfl,rfl⟩:=hcut
   obtain⟨B,hB⟩:∃ B,B=decide (xs.getLast?=some d):=⟨_,rfl⟩
   rw[← hB]
   have HBB:=Lib.hid hB
   clear hB
   go_upto_if 31 with fail
   go_cut [7] (fun v W=>W=wc∧∃ d':Int,v=.int .i64 d'∧Hid (0≤d'∧d'≤(nd:Int)-1)∧Hid (2≤nd→xs.getLast?≠some d'))
   case first =>
    cases B with
    | true =>
     have hw:wrap64 (d+1)=d+1:=IntWalk.wrap64_in _ ⟨by omega,by omega⟩
     go_wp2_with fail
     go_meet
     refine⟨rfl,_,rfl,⟨Int.emod_nonneg _ (by omega),by have:=Int.emod_lt_of_pos (d+1) (show (0:Int)<(nd:Int) by omega);omega⟩,fun h2 h=>?_⟩
     have hl:=HBB.out
     have hl2:xs.getLast?=some d:=by simpa using hl.symm
     rw[hl2] at h
     injection h with h
     rcases Int.lt_or_le (d+1) nd with q|q
     ·rw[Int.emod_eq_of_lt (by omega) q] at h;omega
     ·rw[show d+1=nd by omega,Int.emod_self] at h;omega
    | false =>
     go_wp2_with fail
     go_meet
     exact⟨rfl,d,rfl,⟨hdd0,hd2⟩,fun _ h=>by have:=HBB.out;simp[h] at this⟩
   case rest =>
   obtain⟨rfl,d',rfl,HD,HNE⟩:=hcut
   clear HBB hdd0 hdd1 hd2 q3
   go_wp2_with (at_builtin;refine L.wpl_app_ints rfl (.tmp 38) (.tmp 40) 22 rfl (w.heap.size+1) ((like_under 22).trans Try.underlying22) inf3 A c xs rfl (own_grown HO1.out (Grown.alloc _ _)) (wc.heap.size+1) (some ⟨wc.heap.size,0,none⟩) 1 [d'] rfl ints1 (by simp;omega) (by have:=HK1.out.ke.size;simp at this ⊢;omega) ?_;intro A2 c2 w2 hO2 hg2 hat2)
   have hK2:Kb g (w.alloc (.cells #[.slice gA ng gc,.slice dA nd dc,.slice hA nh hc] 29)) w2:=(HK1.out.grown (Grown.alloc _ _)).row hg2 fun k hk=>⟨by have:=(zV HO1.out hk).1;simp;omega,by
    obtain⟨cs,q⟩:=own_tag HO1.out hk
    exact HK1.out.bag.tag q (by decide)⟩
   go_roundw
   case rel=>exact⟨xs++[d'],A2,c2,by simp,by simp,hO2,hK2,by simp;omega,menuTo_snoc HM.out HD.out fun h=>by simpa using HNE.out h⟩
   case measure=>simp[intOf];omega
  ·have hli:¬ (xs.length:Int)<(nh:Int):=by omega
   go_wp2_with fail
   go_ret
   exact⟨A,c,xs,rfl,ints_own HO.out,HK0.out.trans HK.out,by omega,HM.out,own_cap HO.out⟩
end
end
section
section
variable {fs:Array Func} [Like fs]
structure LSt (g:Nat) (w0 W:World) (base tp:Nat) (ls:List (List Int)) (A:Option Addr) (c:Nat):Prop where
 row:LdList W base tp A c ls
 kb:Kb g w0 W
 big:base≤W.heap.size
 top:tp≤W.heap.size
theorem LSt.to {g:Nat} {w0 W W2:World} {base tp:Nat} {ls:List (List Int)} {A:Option Addr} {c:Nat} (h:LSt g w0 W base tp ls A c) (k:Kb g W W2):LSt g w0 W2 base tp ls A c:=
 have:=k.ke.size
 have h1:=h.big
 have h2:=h.top
 ⟨h.row.kb h.kb.bag (by decide) k,h.kb.trans k,by omega,by omega⟩
set_option maxRecDepth 20000 in
set_option maxHeartbeats 8000000 in
theorem loadsOf_any (g:Nat) (K:Kt) (gA dA hA:Option Addr) (gc dc hc:Nat) (w:World) (hb:BagAt w g) (hK:KtAt w K gA dA hA) (hg3:K.goods.length≤3) (hr:∀ x∈K.goods,x.room≤20) (hp:∀ x∈K.hauls,x.prices.length=K.goods.length) :
  Calls (Pf fs) 20 #[.pointer (some ⟨g,0,none⟩),ktV K gA dA hA gc dc hc] w fun e w'=>∃ A c ls,e=.returned (.slice A ls.length c)∧DishesAt w' A ls∧Kb g w w'∧ls.length=K.hauls.length∧(∀ l∈ls,l.length=K.goods.length∧∀ x∈l,0≤x∧x≤20)∧ls.length≤c:=by
 have hg:=hb.lt
 have hnh:=hK.nh
 have hng:=hK.ng
 have HR:=Lib.hid hr
 have HP:=Lib.hid hp
 clear hr hp
 unfold ktV
 have hGd:∀ W,Kb g w W→GdsAt W gA K.goods:=fun W k=>(hK.kb k hb).goods
 have hHd:∀ W,Kb g w W→HlsAt W hA K.hauls:=fun W k=>(hK.kb k hb).hauls
 have HGd:=Lib.hid hGd
 have HHd:=Lib.hid hHd
 clear hGd hHd hK
 generalize hgs:K.goods=gs at *
 generalize hhs:K.hauls=hs at *
 generalize K.dishes.length=nd at *
 have HB:=Lib.hid (heap_alloc_new w (.cells #[.slice gA gs.length gc,.slice dA nd dc,.slice hA hs.length hc] 29))
 have HK0:=Lib.hid ((Kb.refl hb).grown (Grown.alloc w (.cells #[.slice gA gs.length gc,.slice dA nd dc,.slice hA hs.length hc] 29)))
 have HBG:=Lib.hid (hb.alloc (.cells #[.slice gA gs.length gc,.slice dA nd dc,.slice hA hs.length hc] 29))
 go_enter LK.func20,Try.ntmps20
 go_wp2_with fail
 go_loopw [5,6] (fun v i W=>∃ (ls:List (List Int)) (A:Option Addr) (c tp:Nat),i=.int .i64 ls.length∧v=.slice A ls.length c∧Hid (LSt g (w.alloc (.cells #[.slice gA gs.length gc,.slice dA nd dc,.slice hA hs.length hc] 29)) W (w.heap.size+1) tp ls A c)∧ls.length≤hs.length∧Hid (∀ l∈ls,l.length=gs.length∧∀ x∈l,0≤x∧x≤20)) (fun _ i _=>hs.length-(intOf i).toNat)
 case atStart=>exact⟨[],none,0,0,rfl,rfl,⟨RecList.nil,Kb.refl HBG.out,by simp,by simp⟩,by simp,fun x h=>by simp at h⟩
 case round =>
  obtain⟨ls,A,c,tp,rfl,rfl,HS,hll,HOK⟩:=hrel
  obtain⟨w0,rfl⟩:∃ w0,w0=wr:=⟨_,rfl⟩
  have hbx:=HS.out.kb.ke.block HB.out (by omega)
  have q2:w0.cell? ⟨w.heap.size,2,none⟩=some (.slice hA hs.length hc):=za hbx 2
  by_cases hlt:ls.length<hs.length
  ·have hli:(ls.length:Int)<(hs.length:Int):=by omega
   clear hbx
   go_wp2_with fail
   go_loopw [7,8] (fun v i W=>∃ (xs:List Int) (nA:Option Addr) (nc:Nat),i=.int .i64 xs.length∧v=.slice nA xs.length nc∧Hid (L.OwnInts W w0.heap.size nA nc xs)∧Hid (Kb g w0 W)∧xs.length≤gs.length∧Hid (∀ x∈xs,0≤x∧x≤20)) (fun _ i _=>gs.length-(intOf i).toNat)
   case atStart=>exact⟨[],none,0,rfl,rfl,L.OwnInts.nil _ _,Kb.refl HS.out.kb.bag,by simp,fun x h=>by simp at h⟩
   case round =>
    obtain⟨xs,nA,nc,rfl,rfl,HO,HV,hxl,HX⟩:=hrel
    have hbx:=(HS.out.kb.trans HV.out).ke.block HB.out (by omega)
    have q1:wr.cell? ⟨w.heap.size,0,none⟩=some (.slice gA gs.length gc):=za hbx 0
    by_cases hxt:xs.length<gs.length
    ·have hxi:(xs.length:Int)<(gs.length:Int):=by omega
     obtain⟨gb,go,rfl,x1,_,_,_⟩:=HGd.out wr (HK0.out.trans (HS.out.kb.trans HV.out)) xs.length _ (List.getElem?_eq_getElem hxt)
     have hrm:=HR.out gs[xs.length] (List.getElem_mem hxt)
     generalize gs[xs.length].room=room at x1 hrm
     obtain⟨hb1,ho1,rfl,pA,pc,_,_,x3,x4,_⟩:=HHd.out wr (HK0.out.trans (HS.out.kb.trans HV.out)) ls.length _ (List.getElem?_eq_getElem hlt)
     have hpl:=HP.out hs[ls.length] (List.getElem_mem hlt)
     obtain⟨pb,po,rfl,x5⟩:=x4 xs.length _ (List.getElem?_eq_getElem (show xs.length<hs[ls.length].prices.length by omega))
     rw[hpl] at x3
     generalize hs[ls.length].prices[xs.length]'(by omega)=price at x5
     clear x4 hpl hbx
     have X1:=Lib.hid x1
     have X3:=Lib.hid x3
     have X5:=Lib.hid x5
     clear x1 x3 x5
     go_wp2_with fail
     have hS:wr.drew.cell? ⟨w.heap.size,0,none⟩=some (.slice (some ⟨gb,go,none⟩) gs.length gc)∧wr.drew.cell? ⟨gb,go+xs.length*4,none⟩=some (.int .i64 room):=⟨q1,X1.out⟩
     have HV1:=Lib.hid (show Kb g w0 wr.drew from ⟨HV.out.bag.drew,HV.out.ke.drew⟩)
     have HO1:=Lib.hid (show L.OwnInts wr.drew w0.heap.size nA nc xs from HO.out)
     have HHS:=Lib.hid hS
     have hX35:wr.drew.cell? ⟨hb1,ho1+ls.length*3+2,none⟩=some (.slice (some ⟨pb,po,none⟩) gs.length pc)∧wr.drew.cell? ⟨pb,po+xs.length,none⟩=some (.int .i64 price)∧wr.drew.cell? ⟨w.heap.size,2,none⟩=some (.slice (some ⟨hb1,ho1,none⟩) hs.length hc):=⟨X3.out,X5.out,HV.out.cell HS.out.kb.bag q2 (by simp)⟩
     have HX35:=Lib.hid hX35
     have HDR:=Lib.hid (Kb.refl HV1.out.bag)
     clear HV HO q1 q2 hX35 X1 X3 X5
     refine wp_region_L (by kernel_rfl) (fun W=>W.cell? ⟨w.heap.size,0,none⟩=some (.slice (some ⟨gb,go,none⟩) gs.length gc)∧W.cell? ⟨gb,go+xs.length*4,none⟩=some (.int .i64 room)) [] ?_
     refine zk 0 ?_ rfl ?_ ?_;case refine_2=>(intro w _;go_simp;try rfl)
     refine zk 1 ?_ rfl ?_ ?_;case refine_2=>(intro w _;go_simp;try rfl)
     refine zk 3 ?_ rfl ?_ ?_;case refine_2=>(intro w _;go_simp;try rfl)
     refine zk 4 ?_ rfl ?_ ?_;case refine_2=>(intro w _;go_simp;try rfl)
     refine zD 5 ?_ rfl hS ?_ ?_;case refine_2=>(intro w hSw;(try dsimp only at hSw);go_simp;try rfl)
     refine zk 6 ?_ rfl ?_ ?_;case refine_2=>(intro w _;go_simp;try rfl)
     refine zk 7 ?_ rfl ?_ ?_;case refine_2=>(intro w _;go_simp;try rfl)
     refine zk 8 ?_ rfl ?_ ?_;case refine_2=>(intro w _;go_simp;try rfl)
     refine zD 9 ?_ rfl hS ?_ ?_;case refine_2=>(intro w hSw;(try dsimp only at hSw);go_simp;try rfl)
     refine zw (i:=2) rfl (by kernel_rfl) ?_
     intro Kq hKq
     go_simp
     refine (up_any g _ _ HDR.out.bag (by omega)).mono ?_
     rintro e w5 ⟨u,rfl,hu0,hu1,hB5⟩
     have hV5:=HDR.out.bagged hB5
     have hS:w5.cell? ⟨w.heap.size,0,none⟩=some (.slice (some ⟨gb,go,none⟩) gs.length gc)∧w5.cell? ⟨gb,go+xs.length*4,none⟩=some (.int .i64 room):=⟨hV5.cell HDR.out.bag HHS.out.1 (by simp),hV5.cell HDR.out.bag HHS.out.2 (by simp)⟩
     have HV5:=Lib.hid hV5
     clear hV5 hB5
     refine hKq.out _ _ hS (fun _=>?_)
     clear hKq Kq
     refine zw (i:=10) rfl (by kernel_rfl) ?_
     intro Kq hKq
     go_simp
     refine (up_any g _ _ HV5.out.bag (by omega)).mono ?_
     rintro e w6 ⟨u2,rfl,hu2,hu3,hB6⟩
     have hV6:=HV5.out.bagged hB6
     have hS:w6.cell? ⟨w.heap.size,0,none⟩=some (.slice (some ⟨gb,go,none⟩) gs.length gc)∧w6.cell? ⟨gb,go+xs.length*4,none⟩=some (.int .i64 room):=⟨hV6.cell HDR.out.bag HHS.out.1 (by simp),hV6.cell HDR.out.bag HHS.out.2 (by simp)⟩
     have HV6:=Lib.hid hV6
     clear hV6 hB6 HV5
     refine hKq.out _ _ hS (fun _=>?_)
     clear hKq Kq
     refine zw (i:=11) rfl (by kernel_rfl) ?_
     intro Kq hKq
     go_simp
     refine hKq.out _ _ ⟨cell_alloc _ hS.1,cell_alloc _ hS.2⟩ (fun _=>?_)
     clear hKq Kq hS
     refine zw (i:=12) rfl (by kernel_rfl) ?_
     intro Kq hKq
     go_simp
     refine (one_new (fs:=fs) g 3 [0,u,u2] wr.drew w6 rfl HV6.out (by simp) (by simp) rfl).mono ?_
     rintro e w7 ⟨v,rfl,hv,hV7⟩
     have hS:w7.cell? ⟨w.heap.size,0,none⟩=some (.slice (some ⟨gb,go,none⟩) gs.length gc)∧w7.cell? ⟨gb,go+xs.length*4,none⟩=some (.int .i64 room):=⟨hV7.cell HDR.out.bag HHS.out.1 (by simp),hV7.cell HDR.out.bag HHS.out.2 (by simp)⟩
     have HV7:=Lib.hid hV7
     clear hV7 HV6
     refine hKq.out _ _ hS (fun _=>?_)
     clear hKq Kq
     refine zw (i:=13) rfl (by kernel_rfl) ?_
     intro Kq hKq
     go_simp
     refine hKq.out _ _ hS (fun _=>?_)
     clear hKq Kq
     try simp only[Act.put,List.setIfInBounds_toArray,List.set_cons_zero,List.set_cons_succ]
     refine wpAnyL_done (by kernel_rfl) ?_
     try simp only[Act.put,List.getElem_toArray,List.getElem_cons_succ,List.getElem_cons_zero,List.setIfInBounds_toArray,List.set_cons_zero,List.set_cons_succ]
     have hv20 : 0≤v∧v≤20:=by
      simp only[List.mem_cons,List.not_mem_nil,or_false] at hv
      omega
     have p3:=HV7.out.cell HDR.out.bag HX35.out.1 (by simp)
     have p5:=HV7.out.cell HDR.out.bag HX35.out.2.1 (by simp)
     have p2:=HV7.out.cell HDR.out.bag HX35.out.2.2 (by simp)
     clear hS hv hu0 hu1 hu2 hu3
     go_upto_region 10 with fail
     go_cut [50] (fun v' W=>(∃ B:Bool,v'=.bool B)∧Hid (Kb g w7 W))
     case first =>
      have HV8:=Lib.hid (Kb.refl HV7.out.bag)
      by_cases hpr:price=0
      ·subst hpr
       go_wp2_with (go_at_call 58;refine (chance_any g _ _ _ HV8.out.bag (by omega) (by omega)).mono ?_;rintro e w8 ⟨B,rfl,hB8⟩;have HV9:=Lib.hid (HV8.out.bagged hB8);clear HV8 hB8)
       go_meet
       exact⟨⟨_,rfl⟩,HV9.out⟩
      ·have hpb:(price==0)=false:=by simp[hpr]
       go_wp2_with fail
       go_meet
       exact⟨⟨_,rfl⟩,HV8.out⟩
     case rest =>
     obtain⟨⟨B,rfl⟩,HV8⟩:=hcut
     go_upto_if 50 with fail
     go_cut [9] (fun v' W=>W=wc∧∃ x:Int,v'=.int .i64 x∧Hid (0≤x∧x≤20))
     case first =>
      cases B with
      | true =>
       go_wp2_with fail
       go_meet
       exact⟨rfl,0,rfl,⟨by decide,by decide⟩⟩
      | false =>
       go_wp2_with fail
       go_meet
       exact⟨rfl,v,rfl,hv20⟩
     case rest =>
     obtain⟨rfl,x,rfl,HXX⟩:=hcut
     have hO9:L.OwnInts wc w0.heap.size nA nc xs:=own_kb HO1.out HDR.out.bag (HV7.out.trans HV8.out)
     have hV9:Kb g w0 wc:=HV1.out.trans (HV7.out.trans HV8.out)
     have HO9:=Lib.hid hO9
     have HV9:=Lib.hid hV9
     clear hO9 hV9 HV1 HO1 HDR HHS HX35 HV7 HV8 hv20 p3 p5 p2
     go_wp2_with (at_builtin;refine L.wpl_app_ints rfl (.tmp 51) (.tmp 53) 22 rfl w0.heap.size ((like_under 22).trans Try.underlying22) inf3 nA nc xs rfl (own_grown HO9.out (Grown.alloc _ _)) (wc.heap.size+1) (some ⟨wc.heap.size,0,none⟩) 1 [x] rfl ints1 (by simp;omega) (by have:=HV9.out.ke.size;simp;omega) ?_;intro A2 c2 w2 hO2 hg2 hat2)
     have hK2:Kb g w0 w2:=(HV9.out.grown (Grown.alloc _ _)).row hg2 fun k hk=>⟨(zV HO9.out hk).1,by
      obtain⟨cs,q⟩:=own_tag HO9.out hk
      exact HV9.out.bag.tag q (by decide)⟩
     go_roundw
     case rel=>exact⟨xs++[x],A2,c2,by simp,by simp,hO2,hK2,by simp;omega,fun y hy=>by
      rw[List.mem_append] at hy
      rcases hy with hy|hy
      ·exact HX.out y hy
      ·simp only[List.mem_singleton] at hy
       subst hy
       exact HXX.out⟩
     case measure=>simp[intOf];omega
    ·have hxe:xs.length=gs.length:=by omega
     have hxi:¬ (xs.length:Int)<(gs.length:Int):=by omega
     have hs9:=HS.out.to (HV.out.grown (Grown.alloc wr (.cells #[.slice nA xs.length nc] 22)))
     have hn9:=heap_alloc_new wr (.cells #[.slice nA xs.length nc] 22)
     have hO9:L.OwnInts (wr.alloc (.cells #[.slice nA xs.length nc] 22)) (w.heap.size+1) nA nc xs:=own_weaken (own_grown HO.out (Grown.alloc _ _)) HS.out.big
     have hT9:∀ k,nA.map (·.block)=some k→tp≤k:=fun k hk=>by
      have h1:=(zV HO.out (by rw[qn];exact hk)).1
      have h2:=HS.out.top
      omega
     have HS9:=Lib.hid hs9
     have HN9:=Lib.hid hn9
     have HO9:=Lib.hid hO9
     have HT9:=Lib.hid hT9
     have HXE:=Lib.hid hxe
     clear hs9 hn9 hO9 hT9 HO HV hxe hbx
     go_wp2_with (at_builtin;refine wpl_app_rec rfl (.tmp 55) (.tmp 57) 32 rfl ((like_under 32).trans Try.underlying32) _ 24 inf22 rfl (by decide) (by decide) rfl HS9.out.row wr.heap.size 1 rfl xs nA nc _ 22 HN9.out rfl rfl (by intro u hu;simp[encD] at hu;subst hu;rfl) HO9.out HT9.out (by decide) (by omega) HS9.out.big HS9.out.top ?_;intro A2 c2 w9 hR9 hg9)
     have hlow:∀ k,(Value.slice A ls.length c).ownBlock=some k→w.heap.size+1≤k∧k≠g:=fun k hk=>by
      obtain⟨⟨cs,q⟩,q2,_⟩:=HS9.out.row.tag hk
      exact⟨q2,HS9.out.kb.bag.tag q (by decide)⟩
     have hK9:=HS9.out.kb.row hg9 (fun k hk=>⟨by have:=(hlow k hk).1;simp;omega,(hlow k hk).2⟩)
     go_roundw
     case rel=>exact⟨ls++[xs],A2,c2,_,by simp,by simp,⟨hR9,hK9,by have:=hK9.ke.size;simp at this;omega,Nat.le_refl _⟩,by simp;omega,fun y hy=>by
      rw[List.mem_append] at hy
      rcases hy with hy|hy
      ·exact HOK.out y hy
      ·simp only[List.mem_singleton] at hy
       subst hy
       exact⟨HXE.out,HX.out⟩⟩
     case measure=>simp[intOf];omega
  ·have hli:¬ (ls.length:Int)<(hs.length:Int):=by omega
   go_wp2_with fail
   go_ret
   exact⟨A,c,ls,rfl,DsList.at_ HS.out.row fun d hd=>by have:=(HOK.out d hd).1;omega,HK0.out.trans HS.out.kb,by omega,HOK.out,RecList.cap HS.out.row⟩
end
end
section
section
variable {fs:Array Func} [Like fs]
end
structure CSt (w wr:World) (X base m tp:Nat) (gs:List Gd) (gA:Option Addr) (gc:Nat) (ds:List (List Int)) (dA:Option Addr) (dc:Nat) (hs:List Hl) (hA:Option Addr) (hc:Nat):Prop where
 box:wr.heap[X]?=some (.cells #[.slice gA gs.length gc,.slice dA ds.length dc,.slice hA hs.length hc] 29 (0,0))
 r1:GdList wr base base gA gc gs
 r2:DsList wr base tp dA dc ds
 r3:HlList wr m tp hA hc hs
 gr:Grown w wr
 low:w.heap.size≤X
 lowb:w.heap.size≤base
 mid:base≤m
 big:m≤wr.heap.size
 top:tp≤wr.heap.size
section
variable {w wr w2:World} {X base m tp:Nat} {gs:List Gd} {gA:Option Addr} {gc:Nat} {ds:List (List Int)} {dA:Option Addr} {dc:Nat} {hs:List Hl} {hA:Option Addr} {hc:Nat}
end
end
section
structure KOwn (w:World) (base:Nat) (K:Kt) (gA:Option Addr) (gc:Nat) (dA:Option Addr) (dc:Nat) (hA:Option Addr) (hc:Nat):Prop where
 ex:∃ m,base≤m∧m≤w.heap.size∧GdList w base m gA gc K.goods∧DsList w base m dA dc K.dishes∧HlList w m w.heap.size hA hc K.hauls
section
variable {fs:Array Func} [Like fs]
end
end
section
section
variable {α : Type} {e size:Nat} {enc : α→Option Addr→Nat→List Value} {inn : α→List Int} {w w':World} {base top c:Nat} {A:Option Addr} {xs:List α}
end
section
variable {w:World} {base:Nat} {K:Kt} {gA:Option Addr} {gc:Nat} {dA:Option Addr} {dc:Nat} {hA:Option Addr} {hc:Nat}
end
section
variable {fs:Array Func} [Like fs]
end
end
section
def goes (D:Good1) (h:Haul1) (rest:Nat→Bool) (t n:Nat):Bool:=decide ((D.reserve:Int)≤after D h (t+n))&&rest (after D h (t+n)).toNat
structure Easier (h h':Haul1):Prop where
 hours:h.hours=h'.hours
 price:h.price=h'.price
 eaten:h.covers*h.need≤h'.covers*h'.need
theorem tries_room {D:Good1} {h:Haul1} {t n:Nat} (hn:n<tries D h t):t+n≤D.room:=by
 unfold tries at hn
 split at hn<;>omega
inductive EasyAll:List Haul1→List Haul1→Prop
 | nil:EasyAll [] []
 | cons {h h':Haul1} {hs hs':List Haul1} : Easier h h'→EasyAll hs hs'→EasyAll (h::hs) (h'::hs')
end
section
theorem dealt_valid {K:Kt} {goods room hauls:Nat} (h1 : 1≤K.goods.length∧K.goods.length≤goods∧∀ x∈K.goods,GdOk room x) (h2 : 1≤K.dishes.length∧K.dishes.length≤3∧∀ x∈K.dishes,DsOk K.goods.length x) (h3 : 1≤K.hauls.length∧K.hauls.length≤hauls∧∀ x∈K.hauls,HlOk K.goods.length x)
  (hg:goods≤3) (hr:room≤20) (hh:hauls≤5):zT K=0:=by
 have e1:goodsE K.goods=0:=by
  unfold goodsE
  rw[manyE_ok (by omega) (by omega),if_neg (by simp),if_neg]
  rw[List.any_eq_true]
  rintro⟨x,hx,hb⟩
  obtain⟨⟨a1,a2⟩,⟨b1,b2⟩,⟨c1,c2⟩,⟨d1,d2⟩⟩:=h1.2.2 x hx
  simp[qc,outB] at hb
  omega
 have e2:qs K.goods.length K.dishes=0:=by
  unfold qs
  rw[manyE_ok (by omega) (by omega),if_neg (by simp)]
  exact firstE_ok fun d hd=>eachE_ok (by have:=(h2.2.2 d hd).1;omega) (h2.2.2 d hd).2
 have e3:haulsE K.goods.length K.hauls=0:=haulsE_ok h3.1 (by omega) fun x hx=>by
  obtain⟨⟨a1,a2⟩,⟨b1,b2⟩,c,d⟩:=h3.2.2 x hx
  exact⟨a1,by omega,b1,b2,c,fun p hp=>⟨(d p hp).1,by have:=(d p hp).2;omega⟩⟩
 unfold zT
 rw[e1,e2,if_neg (by simp),if_neg (by simp),e3]
theorem asked_of {K:Kt} {xs:List Int} (h1:zT K=0) (h2:qf K.dishes.length K.hauls.length xs=0):qe K xs=0:=by
 unfold qe
 rw[h1,if_neg (by simp)]
 exact h2
section
variable {fs:Array Func} [LikeS fs]
end
end
section
open Go.ChangeShapes Go.WideShapes Go.ChangeAt
theorem own_knob:ownKnob Try.prog.godebug=none:=by kernel_rfl
theorem laid_out:laidOutB Try.prog=true:=by kernel_rfl
theorem cells_int:Try.prog.cellsOf 3=1:=by kernel_rfl
theorem readable_nums:Try.prog.readableRec 22=true:=by kernel_rfl
theorem nums_row : 22<Try.prog.types.size:=of_decide_eq_true (by kernel_rfl)
theorem no_globals:S.globals.size=0:=by kernel_rfl
section
variable {H:Type} {enc:TypeId×Value→H} {P:Program}
theorem post_of_below {f:Func} {s:ChangeSpec} {apart fresh handsOn again:Bool} {W W':World} {args:Array Value} {v:Value} {ds gs:List (DataW H)} {before pa pv:List MemPlace}
  (hW:DataW.Whole enc P f.params.toList s.vars apart W args.toList ds gs before)
  (hres:∀ (b:Nat) (sp:Nat→Bool) (hd:Bool),DataW.TrodAll enc P W' b sp hd f.resultTypes.toList (v.resultList f.resultTypes.size) (s.fn H (ds++gs)).results [])
  (hargs:∀ sp:Nat→Bool,(∀ p∈before,sp p.block=true)→DataW.TrodAll enc P W' 0 sp true f.params.toList args.toList (s.fn H (ds++gs)).args pa)
  (hvars:∀ sp:Nat→Bool,(∀ p∈before,sp p.block=true)→DataW.TrodVars enc P W' sp s.vars (s.fn H (ds++gs)).vars pv)
  (hps:before=pa++pv) (hb:Below W.heap.size W W')
  (hok:∀ (j:Nat) (t:TypeId) (r:Value),f.resultTypes[j]?=some t→(v.resultList f.resultTypes.size)[j]?=some r→Value.okWide P W' .any 0 t r) :
  s.post enc P f apart fresh handsOn again W args v W':=by
 have hlt:∀ p∈before,p.block<W.heap.size:=fun p hp=>hW.lt p hp
 have hold:∀ p∈before,(fun b=>decide (b<W.heap.size)) p.block=true:=fun p hp=>by simpa using hlt p hp
 refine⟨ds,gs,before,[],pa,pv,hW,hres _ _ _,hargs _ hold,hvars _ hold,World.keptBut_mono (fun p hp=>⟨hp,?_⟩) (hb.frame (·∈before)),fun _=>?_⟩
 ·rw[hps,List.mem_append] at hp
  exact Or.inr hp
 ·obtain⟨_,_,_,_,_,hz,hn⟩:=hW
  refine⟨hok,_,_,([]++pa)++pv,⟨[]++pa,pv,trodAll_append (hargs _ (fun _ _=>rfl)) (hres _ _ _),hvars _ (fun _ _=>rfl),rfl,?_,?_⟩,?_⟩
  ·intro b off hp
   have hin:MemPlace.cell b off∈before:=by rw[hps];simpa using hp
   rw[hb.frozen (hlt _ hin)]
   exact hz b off hin
  ·intro ha
   have:=hn ha
   rw[hps] at this
   simpa using this
  ·intro p hp _
   rw[hps]
   simpa using hp
end
def Walked (F:FuncId):Prop:=∀ (A:Option Addr) (cp:Nat) (xs:List Int) (w:World),Ints w A xs→xs.length≤9223372036854775807 →
 Calls S F #[.slice A xs.length cp] w fun e _=>e=.returned (.bool true)
theorem walked_of {F:FuncId} (h:∀ (ns:List Int) (A:Option Addr) (c:Nat) (w:World),Ints w A ns→ns.length≤9223372036854775807→Calls (Pf S.funcs) F #[.slice A ns.length c] w fun e _=>e=.returned (.bool true)):Walked F:=fun A c xs w hx hl=>by
 have:=h xs A c w hx hl
 rwa [pf_S] at this
set_option maxRecDepth 100000 in
theorem okWide_seen {W:World} {base:Nat} {A:Option Addr} {len cap:Nat} (h:Value.okWide Try.prog W .any base 22 (.slice A len cap)):∀ p,A=some p→Seen W p.block∧p.spot=none:=by
 rintro p rfl
 simp only[Value.okWide,Try.underlying22,Cell.okWide,Cell.ok] at h
 obtain⟨_,_,_,hsp,row,cells,hs,_⟩:=h
 refine⟨?_,hsp⟩
 unfold World.shape? at hs
 split at hs
 ·rename_i c t m hc
  exact⟨_,_,_,hc⟩
 ·cases hs
set_option maxRecDepth 100000 in
theorem nums_runs {F:FuncId} {fn:Func} {s:ChangeSpec} {apart fresh handsOn again:Bool} (hF:¬ FSt F) (hini:Try.prog.inits.idxOf? F=none) (hp:fn.params=#[22]) (hr:fn.resultTypes=#[4]) (hv:s.vars=[])
  (hs:∀ (H:Type) (d:DataW H),(s.fn H [d]).results=[.lit (.bool true)]∧(s.fn H [d]).args=[d]∧(s.fn H [d]).vars=[]) (hw:Walked F)
  (H:Type) (enc:TypeId×Value→H) (W:World) (base:Nat) (args:Array Value) (ds gs:List (DataW H)) (before:List MemPlace)
  (hval:∀ (j:Nat) t v,fn.params[j]?=some t→args[j]?=some v→Value.okWide Try.prog W .any base t v)
  (hW:DataW.Whole enc Try.prog fn.params.toList s.vars apart W args.toList ds gs before) :
  ∃ M last o w' t',runNT Try.prog (M+1) (Go.Conc.solo (Go.Conc.G (Frame.enter Try.prog F args .normal) []) W) #[]=(.ended o w',t')∧runN Try.prog M (Go.Conc.solo (Go.Conc.G (Frame.enter Try.prog F args .normal) []) W)=.next last ∧
   step Try.prog last=.ended o w'∧Go.Conc.Good Try.prog (fun v W'=>s.post enc Try.prog fn apart fresh handsOn again W args v W') last o w' t':=by
 have hW':=hW
 obtain⟨p,q,hA0,hV,rfl,hfz,hnd⟩:=hW
 have hA:DataW.TrodAll enc Try.prog W 0 (fun _=>true) true fn.params.toList args.toList ds p:=hA0
 rw[hp] at hA hval
 rw[hv] at hV
 obtain⟨v0,d0,rfl,rfl,h0⟩:=trodAll_one hA
 obtain⟨rfl,rfl⟩:=trodVars_none hV
 obtain⟨a0,len,cap,rfl⟩:=okWide_slice Try.underlying22 (hval 0 22 v0 rfl rfl)
 have hseen:=okWide_seen (hval 0 22 _ rfl rfl)
 have h0k:=h0
 obtain⟨fuel,hf⟩:=h0
 clear hA0
 simp only[List.append_nil] at hW'
 have hlt:∀ x∈p,x.block<W.heap.size:=fun x hx=>by simpa using hW'.lt x hx
 have hclose:∀ xs:List Int,xs.length=len→Ints W a0 xs→xs.length≤9223372036854775807 →
   ∃ M last o w' t',runNT Try.prog (M+1) (Go.Conc.solo (Go.Conc.G (Frame.enter Try.prog F #[.slice a0 len cap] .normal) []) W) #[]=(.ended o w',t')∧runN Try.prog M (Go.Conc.solo (Go.Conc.G (Frame.enter Try.prog F #[.slice a0 len cap] .normal) []) W)=.next last ∧
   step Try.prog last=.ended o w'∧Go.Conc.Good Try.prog (fun v W'=>s.post enc Try.prog fn apart fresh handsOn again W #[.slice a0 len cap] v W') last o w' t':=fun xs hx hi hl=>by
  subst hx
  have hN:∀ b,(∃ p,a0=some p∧p.block=b)→Seen W b:=fun b ⟨p,hp,hb⟩=>hb▸(hseen p hp).1
  have hrel:VsRel (idS fun b=>∃ p,a0=some p∧p.block=b) #[.slice a0 xs.length cap] #[.slice a0 xs.length cap]:=by
   refine⟨rfl,fun i x y h1 h2=>?_⟩
   rcases i with _|i
   ·simp at h1 h2
    subst h1 h2
    refine .slice _ _ ?_
    cases a0 with
    | none=>exact .none
    | some p =>
     obtain⟨b,off,spot⟩:=p
     have:=(hseen _ rfl).2
     simp only at this
     subst this
     exact .some ⟨⟨rfl,_,rfl,rfl⟩,rfl,rfl⟩
   ·simp at h1
  have hmi:∀ t,Ints { maskS (fun b=>∃ p,a0=some p∧p.block=b) W with tape:=t } a0 xs:=fun t k x hk=>by
   obtain⟨b,off,e,hc⟩:=hi k x hk
   exact⟨b,off,e,maskW_cell (N:=fun b=>∃ p,a0=some p∧p.block=b) ⟨_,e,rfl⟩ hc (.int _ _)⟩
  obtain⟨M,last,o,w',t',h1,h2,h3,h4⟩:=law_runs cheapOn_S cheapOn_Sw hF hini hN (by rw[no_globals];exact Nat.zero_le _) hrel fun t=>hw a0 cap xs _ (hmi t) hl
  refine⟨M,last,o,w',t',h1,h2,h3,h4.mono fun v hv1=>?_⟩
  obtain⟨rfl,g1,g2,g3⟩:=hv1
  have hb:Below W.heap.size W w':=⟨g3.os,g3.tape,g3.output,g1,g2⟩
  obtain⟨e1,e2,e3⟩:=hs H d0
  refine post_of_below (pa:=p) (pv:=[]) hW' (fun b sp hd=>?_) (fun sp hsp=>?_) (fun sp _=>?_) (by simp) hb (fun j t r hj hr2=>?_)
  ·rw[hr]
   show DataW.TrodAll enc Try.prog w' b sp hd [4] [.bool true] (s.fn H [d0]).results []
   rw[e1]
   exact trodAll_cons_mk (shut_bool Try.underlying4 _) trodAll_mk0
  ·rw[hp]
   show DataW.TrodAll enc Try.prog w' 0 sp true [22] [.slice a0 xs.length cap] (s.fn H [d0]).args p
   rw[e2]
   exact trodAll_mk1 (WideElems.Trod_stays laid_out readable_nums nums_row h0k (fun x hx=>hb.same (hlt x hx)) (fun x hx=>hsp x hx))
  ·rw[hv]
   show DataW.TrodVars enc Try.prog w' sp [] (s.fn H [d0]).vars []
   rw[e3]
   rfl
  ·exact ok_one hr rfl (okWide_bool_mk Try.underlying4 _) j t r hj hr2
 rcases open_ints Try.underlying22 Try.underlying3 cells_int hf with ⟨hcs,hx⟩|⟨a,len',cap',zs,hcs,_,hl,hm,hz,hx,hcell,hwz⟩
 ·simp[Value.cells] at hcs
  obtain⟨rfl,rfl,rfl⟩:=hcs
  exact hclose [] rfl (fun k x h=>by simp at h) (by simp)
 ·simp[Value.cells] at hcs
  obtain⟨rfl,rfl,rfl⟩:=hcs
  simp only[if_true] at hz
  simp only[Prod.mk.injEq] at hx
  obtain⟨_,rfl⟩:=hx
  have hlen:(zs.take len).length=len:=by rw[List.length_take];omega
  refine hclose (zs.take len) hlen (fun k x hk=>?_) (by rw[hlen];simp only[maxLen] at hm;omega)
  have hkl:k<len:=by
   have:=(List.getElem?_eq_some_iff.1 hk).1
   omega
  have hkz:zs.getD k 0=x:=by
   rw[List.getElem?_take,if_pos hkl] at hk
   simp[List.getD_eq_getElem?_getD,hk]
  have hc:=hcell k (by omega)
  rw[hkz] at hc
  obtain⟨b,off,spot⟩:=a
  have hs0:=(hseen _ rfl).2
  simp only at hs0
  subst hs0
  rw[add_plain] at hc
  exact⟨b,off,rfl,hc⟩
end
section
section
variable (D:Good1) (ld:Nat→Nat)
def nowD:Nat→Nat
 | 0=>D.start
 | h+1=>(after D (hlG D h) (nowD h+ld h)).toNat
def barD (h:Nat):Bool:=barB (hlG D h).price D.room (ld h) (nowD D ld h)
def shortD (h:Nat):Bool:=decide (after D (hlG D h) (nowD D ld h+ld h)<D.reserve)
end
abbrev ldI (ls:List (List Int)) (i:Nat):Nat→Nat:=fun h=>ldN ls h i
section
variable {Ds:List Good1} {ls:List (List Int)} {h i:Nat} {now:Nat→Nat}
theorem barAt_eq (hn:now i=nowD (atG Ds i) (ldI ls i) h):barAt Ds ls h now i=barD (atG Ds i) (ldI ls i) h:=by
 unfold barAt barD
 rw[hn]
theorem shortAt_eq (hn:now i=nowD (atG Ds i) (ldI ls i) h):shortAt Ds ls h now i=shortD (atG Ds i) (ldI ls i) h:=by
 unfold shortAt shortD
 rw[hn]
theorem nextN_eq (hn:now i=nowD (atG Ds i) (ldI ls i) h):nextN Ds ls h now i=nowD (atG Ds i) (ldI ls i) (h+1):=by
 unfold nextN
 rw[hn]
 rfl
end
section
variable {Ds:List Good1} {ls:List (List Int)}
def WellAt (Ds:List Good1) (ls:List (List Int)) (h:Nat):Prop:=∀ i,i<Ds.length→barD (atG Ds i) (ldI ls i) h=false∧shortD (atG Ds i) (ldI ls i) h=false
theorem step_now {h:Nat} {now:Nat→Nat} (hn:∀ i,i<Ds.length→now i=nowD (atG Ds i) (ldI ls i) h):∀ i,i<Ds.length→zv Ds.length now (nextN Ds ls h now) i=nowD (atG Ds i) (ldI ls i) (h+1):=fun i hi=>by
 unfold zv
 rw[if_pos hi]
 exact nextN_eq (hn i hi)
def leftRow (Ds:List Good1) (ls:List (List Int)) (h:Nat):List Int:=(List.range Ds.length).map fun i=>((nowD (atG Ds i) (ldI ls i) (h+1):Nat):Int)
theorem runG_well:∀ {r h:Nat} {now mel:Nat→Nat},(∀ i,i<Ds.length→now i=nowD (atG Ds i) (ldI ls i) h)→(runG Ds ls r h now mel).stop=none →
  (∀ j,h≤j→j<h+r→WellAt Ds ls j)∧(runG Ds ls r h now mel).left=(List.range r).map fun j=>leftRow Ds ls (h+j)
 | 0,h,now,mel,_,_=>⟨fun j a b=>by omega,rfl⟩
 | r+1,h,now,mel,hn,hs=>by
  cases hf:(List.range Ds.length).find? (barAt Ds ls h now) with
  | some k=>rw[runG_bar hf] at hs;cases hs
  | none =>
   have hb:=find_none hf
   cases hg:(List.range Ds.length).find? (shortAt Ds ls h now) with
   | some k=>rw[runG_short hf hg] at hs;cases hs
   | none =>
    have hc:=find_none hg
    rw[runG_step hf hg] at hs ⊢
    obtain⟨a1,a2⟩:=runG_well (step_now hn) hs
    refine⟨fun j x y=>?_,?_⟩
    ·rcases Nat.lt_or_ge h j with q|q
     ·exact a1 j (by omega) (by omega)
     ·obtain rfl:j=h:=by omega
      exact fun i hi=>⟨by rw[← barAt_eq (hn i hi)];exact hb i hi,by rw[← shortAt_eq (hn i hi)];exact hc i hi⟩
    ·show _::(runG Ds ls r (h+1) _ _).left=_
     rw[a2,List.range_succ_eq_map,List.map_cons,List.map_map]
     congr 1
     ·unfold leftRow
      refine List.map_congr_left fun i hi=>?_
      rw[nextN_eq (hn i (by simpa using hi))]
     ·refine List.map_congr_left fun j _=>?_
      show leftRow Ds ls (h+1+j)=leftRow Ds ls (h+(j+1))
      rw[show h+1+j=h+(j+1) by omega]
theorem start_now:∀ i,i<Ds.length→zv Ds.length (fun _=>0) (fun i=>(atG Ds i).start) i=nowD (atG Ds i) (ldI ls i) 0:=fun i hi=>by
 unfold zv
 rw[if_pos hi]
 rfl
end
theorem runK_well {K:Kt} {xs:List Int} {ls:List (List Int)} (hs:(runK K xs ls).stop=none):(∀ j,j<K.hauls.length→WellAt (dsOf K xs) ls j)∧(runK K xs ls).left=(List.range K.hauls.length).map (leftRow (dsOf K xs) ls):=by
 obtain⟨h1,h2⟩:=runG_well start_now hs
 refine⟨fun j hj=>h1 j (Nat.zero_le _) (by omega),?_⟩
 unfold runK runOf
 rw[h2]
 exact List.map_congr_left fun j _=>by rw[Nat.zero_add]
structure AlikeTo (m:Nat) (D D':Good1) (ld ld':Nat→Nat):Prop where
 room:D'.room=D.room
 melts:D'.melts=D.melts
 start:D'.start=D.start
 reserve:D'.reserve=D.reserve
 haul:∀ h,h<m→hlG D' h=hlG D h
 load:∀ h,h<m→ld' h=ld h
section
variable {m:Nat} {D D':Good1} {ld ld':Nat→Nat}
end
theorem atG_dsOf {K:Kt} {xs:List Int} {i:Nat} (hi:i<K.goods.length):atG (dsOf K xs) i=goodOf K xs i K.goods[i]:=by
 unfold atG
 rw[List.getD_eq_getElem?_getD,dsOf_get,List.getElem?_eq_getElem hi]
 rfl
theorem hlG_goodOf {K:Kt} {xs:List Int} {i h:Nat} {g:Gd} (hl:xs.length=K.hauls.length) (hh:h<K.hauls.length):hlG (goodOf K xs i g) h=haulOf K i K.hauls[h] (xs[h]'(by omega)):=by
 unfold hlG goodOf
 simp only
 rw[List.getD_eq_getElem?_getD,List.getElem?_map,List.getElem?_eq_getElem (by simp;omega)]
 simp
def firstK (K:Kt) (m:Nat):Kt:={ K with hauls:=K.hauls.take m }
def gdAt (gs:List Gd) (i:Nat):Gd:=gs.getD i ⟨0,0,0,0⟩
theorem gdAt_get {gs:List Gd} {i:Nat} (h:i<gs.length):gs[i]?=some (gdAt gs i):=by
 unfold gdAt
 rw[List.getD_eq_getElem?_getD,List.getElem?_eq_getElem h]
 rfl
def spareK (K:Kt) (g m:Nat):Kt:=⟨K.goods.set g { gdAt K.goods g with reserve:=0 },K.dishes.map fun d=>d.set g 0,K.hauls.take m⟩
section
variable {K:Kt} {xs:List Int} {ls:List (List Int)} {m g:Nat}
end
theorem given_of {K:Kt} {xs:List Int} {ls:List (List Int)} (ha:qe K xs=0) (h1:ls.length=K.hauls.length) (h2:∀ l∈ls,l.length=K.goods.length∧∀ x∈l,0≤x∧x≤20):zS K xs ls=0:=by
 unfold zS
 rw[ha,if_neg (by simp)]
 unfold qw
 rw[manyE_ok (by omega) (by omega),if_neg (by simp)]
 exact firstE_ok fun l hl=>eachE_ok (by have:=(h2 l hl).1;omega) (h2 l hl).2
structure ShortN (K:Kt) (ms:List Int) (ls:List (List Int)) (haul good:Nat) (room res mel st hours covers d nq N X:Nat) (l ds:List Int):Prop where
 hh:haul<K.hauls.length
 hg:good<K.goods.length
 gd:K.goods[good]?=some ⟨room,res,mel,st⟩
 hl:∃ pr,K.hauls[haul]?=some ⟨hours,covers,pr⟩
 menu:ms[haul]?=some (d:Int)
 hd:d<K.dishes.length
 dish:K.dishes[d]?=some ds
 dlen:ds.length=K.goods.length
 need:ds[good]?=some (nq:Int)
 load:ls[haul]?=some l
 llen:l.length=K.goods.length
 ld:l[good]?=some (X:Int)
 zero:haul=0→N=st
 more : 1≤haul→zS (firstK K haul) (ms.take haul) (ls.take haul)=0∧(runK (firstK K haul) (ms.take haul) (ls.take haul)).stop=none∧(runK (firstK K haul) (ms.take haul) (ls.take haul)).left.length=haul ∧
   ∃ row,(runK (firstK K haul) (ms.take haul) (ls.take haul)).left[haul-1]?=some row∧row.length=K.goods.length∧row[good]?=some (N:Int)
 short:((N+X-melted hours mel (N+X):Nat):Int)-((covers*nq:Nat):Int)<(res:Int)
 bds:N+X≤room∧room≤20∧hours≤24∧covers≤9∧nq≤3∧mel≤12∧res≤20∧N≤20∧X≤20
 spare:zS (spareK K good (haul+1)) (ms.take (haul+1)) (ls.take (haul+1))=0
 last:∀ h i er,(runK (spareK K good (haul+1)) (ms.take (haul+1)) (ls.take (haul+1))).stop=some (h,i,er)→er=9∨(er=11∧h=haul∧good<i∧i<K.goods.length)
end
end Go.Gal
