/- Walks: slices.Clone of goods, Gain. Walks: Uses. Walks: Melted. Plain: what has melted, good by good; what GalleyAccounted asks. Walks: GalleyApart, where loads will do not (printed by .. -/
import Derived.Test.YtlgiofglcgbjgaaM41
namespace Go.Gal
open Go Go.Par Go.Proofs Go.RowKit
section
theorem roomK_valid {K:Kt} (hC:zG K=0) {g:Nat} (hg:g<K.goods.length) (hr:(gdAt K.goods g).room<20):zG (roomK K g)=0:=by
 obtain⟨c1,c2,c3⟩:=zW hC
 obtain⟨g1,g2,g3⟩:=goodsE_zero c1
 have e1:goodsE (roomK K g).goods=0:=by
  unfold goodsE
  rw[show (roomK K g).goods.length=K.goods.length by simp[roomK],manyE_ok (by omega) (by omega),if_neg (by simp),if_neg]
  rw[List.any_eq_true]
  rintro⟨x,hx,hb⟩
  rcases List.mem_or_eq_of_mem_set hx with q|q
  ·rw[g3 x q] at hb;cases hb
  ·obtain⟨b1,b2,b3,b4,b5,b6,b7,b8⟩:=badGood_false (g3 _ (List.mem_of_getElem? (gdAt_get hg)))
   subst q
   simp[qb,outB] at hb
   omega
 unfold zG
 rw[e1,if_neg (by simp),show (roomK K g).goods.length=K.goods.length by simp[roomK],show (roomK K g).dishes=K.dishes from rfl,show (roomK K g).hauls=K.hauls from rfl,c2,if_neg (by simp),c3]
section
variable {fs:Array Func} [LikeS fs]
set_option maxRecDepth 20000 in
theorem cloneGds_any (gs:List Gd) (b off c:Nat) (w:World) (h:GdsAt w (some ⟨b,off,none⟩) gs) (hn0 : 1≤gs.length) (hlen:gs.length≤1000) :
  Calls (Pf fs) 92 #[.slice (some ⟨b,off,none⟩) gs.length c] w fun e w'=>∃ g c',e=.returned (.slice (some ⟨g,0,none⟩) gs.length c')∧Grown w w'∧GdList w' w.heap.size w.heap.size (some ⟨g,0,none⟩) c' gs:=by
 have q14:=fun a n m W=>nil_eq (fs:=fs) Try.underlying25 a n m W
 have HI:=Lib.hid h.reads
 obtain⟨i,e1,e2,e3,e4⟩:=info_parts inf42
 clear h
 go_enter LK.func92,Try.ntmps92
 go_wp2_with (at_builtin;go_loud (refine L.wpList_append_any _ rfl (.tmp 5) (.tmp 6) 25 rfl w.heap.size 42 i _ 4 32 ((like_under 25).trans Try.underlying25) ((like_info (fs:=fs) 42).trans e1) e2 e3 e4 rfl (by omega) (.slice (some ⟨w.heap.size,0,none⟩) 0 0) 0 [] rfl (World.ownsRow_lit w #[] 0 (Nat.le_refl _) (by decide) (by simp)) w.heap.size (some ⟨b,off,none⟩) gs.length c (gdCells gs) rfl ((HI.out.keep fun p hp=>World.cell?_alloc_lt w _ p hp)) gdCells_one (by simp only[maxLen];omega) (by omega) (by simp) ?_;intro v' w4 hown hg4 hat;have HO:=Lib.hid hown;have HG:=Lib.hid (Grown.by hg4 w (Grown.alloc _ _) (fun k hk=>by cases hk;exact Nat.le_refl _));clear hown hg4 hat))
 go_ret
 have ho:=HO.out
 rw[Nat.zero_add,List.nil_append] at ho
 rcases ho.2 with ⟨_,e⟩|⟨g,cap,cur,rfl,r⟩
 ·omega
 ·exact⟨g,cap,rfl,HG.out,GdList.of_own ho⟩
set_option maxRecDepth 20000 in
set_option maxHeartbeats 4000000 in
theorem gain_bad (K:Kt) (gb go:Nat) (dA hA:Option Addr) (gc dc hc:Nat) (xs:List Int) (mA:Option Addr) (mc:Nat) (good:Nat) (w:World) (k:KtAt w K (some ⟨gb,go,none⟩) dA hA) (m:Ints w mA xs) (hlen:xs.length≤1000) (hA':qe K xs=0) (hg:good<K.goods.length) (hr:(gdAt K.goods good).room<20) (hn:noneB K xs=true) :
  Calls (Pf fs) 60 #[ktV K (some ⟨gb,go,none⟩) dA hA gc dc hc,.slice mA xs.length mc,.int .i64 good] w fun e w'=>e=.returned (.tuple #[.int .i64 0,.int .i64 11])∧Grown w w':=by
 obtain⟨hC,hR⟩:=askedE_zero hA'
 have hasked:=fun W (g:Grown w W)=>asked_any (fs:=fs) K (some ⟨gb,go,none⟩) dA hA gc dc hc xs mA mc W (k.grown g) (m.grown g) hlen
 rw[hA'] at hasked
 have hall:=fun W (g:Grown w W)=>all_bad (fs:=fs) K (some ⟨gb,go,none⟩) dA hA gc dc hc xs mA mc W (k.grown g) (m.grown g) hC hR hn
 have hng:=k.ng
 obtain⟨b',o',e',x1,_⟩:=k.goods good _ (gdAt_get hg)
 cases e'
 have HX:=Lib.hid x1
 have HC:=Lib.hid hasked
 have HAL:=Lib.hid hall
 obtain⟨V,hV⟩:∃ V,V=w.alloc (.cells #[.slice (some ⟨gb,go,none⟩) K.goods.length gc,.slice dA K.dishes.length dc,.slice hA K.hauls.length hc] 29):=⟨_,rfl⟩
 have v0:V.heap[w.heap.size]?=some (.cells #[.slice (some ⟨gb,go,none⟩) K.goods.length gc,.slice dA K.dishes.length dc,.slice hA K.hauls.length hc] 29 (0,0)):=by rw[hV];exact heap_alloc_new w _
 have vg:Grown w V:=by rw[hV];exact Grown.alloc _ _
 have HY:=Lib.hid (show ∀ W,Grown V W→W.cell? ⟨w.heap.size,0,none⟩=some (.slice (some ⟨gb,go,none⟩) K.goods.length gc)∧W.cell? ⟨w.heap.size,1,none⟩=some (.slice dA K.dishes.length dc)∧W.cell? ⟨w.heap.size,2,none⟩=some (.slice hA K.hauls.length hc) from fun W g =>
  ⟨za (zi v0 g) 0,za (zi v0 g) 1,za (zi v0 g) 2⟩)
 have HVG:=Lib.hid vg
 have HVE:=Lib.hid hV
 have HO2:=Lib.hid (show outB (good:Int) 0 ((K.goods.length:Int)-1)=false by unfold outB;simp;omega)
 have hw2:IntKind.i64.wrap ((K.goods.length:Int)-1)=(K.goods.length:Int)-1:=wrap_of rfl (by omega) (by omega)
 have hi:(good:Int)<K.goods.length:=by omega
 have hr20:((gdAt K.goods good).room==20)=false:=by simp;omega
 generalize (gdAt K.goods good).room=room at HX hr20
 clear k m hasked hall hC hR hA' v0 vg hV x1 hr
 unfold ktV at *
 go_enter LK.func60,Try.ntmps60
 go_wp2_with (first|(go_at_call 69;have hg0:=HVG.out;rw[HVE.out] at hg0;refine (HC.out _ hg0).mono ?_;rintro e w1 ⟨rfl,hg1⟩;rw[← HVE.out] at hg1;have HG1:=Lib.hid hg1;obtain⟨y0,y1,y2⟩:=HY.out w1 hg1;have x1:=(HVG.out.trans hg1).cell HX.out;clear hg1 hg0)|(go_at_call 70;refine (qw _ _ _ _).mono ?_;rintro e w2 ⟨rfl,rfl⟩;rw[HO2.out])|(go_at_call 74;refine (HAL.out _ (HVG.out.trans HG1.out)).mono ?_;rintro e w3 ⟨rfl,g3⟩;have HG3:=Lib.hid g3;clear g3))
 refine bodyPost_ret (v:=.tuple #[.int .i64 0,.int .i64 11]) (by simp[results,Try.results60,go_sem]) rfl ⟨rfl,HVG.out.trans (HG1.out.trans HG3.out)⟩
set_option maxRecDepth 20000 in
set_option maxHeartbeats 4000000 in
theorem gain_good (K:Kt) (gb go:Nat) (dA hA:Option Addr) (gc dc hc:Nat) (xs:List Int) (mA:Option Addr) (mc:Nat) (good:Nat) (w:World) (k:KtAt w K (some ⟨gb,go,none⟩) dA hA) (m:Ints w mA xs) (hlen:xs.length≤1000) (hA':qe K xs=0) (hg:good<K.goods.length) (hr:(gdAt K.goods good).room<20) (hn:noneB K xs=false) :
  Calls (Pf fs) 60 #[ktV K (some ⟨gb,go,none⟩) dA hA gc dc hc,.slice mA xs.length mc,.int .i64 good] w fun e w'=>e=.returned (.tuple #[.int .i64 (((zT K xs-zT (roomK K good) xs:Nat)):Int),.int .i64 0])∧Grown w w':=by
 obtain⟨hC,hR⟩:=askedE_zero hA'
 obtain⟨hn2,hle⟩:=easy_law (roomK_easy K hg) hA' hn
 have hasked:=fun W (g:Grown w W)=>asked_any (fs:=fs) K (some ⟨gb,go,none⟩) dA hA gc dc hc xs mA mc W (k.grown g) (m.grown g) hlen
 rw[hA'] at hasked
 have hall:=fun W (g:Grown w W)=>all_good (fs:=fs) K (some ⟨gb,go,none⟩) dA hA gc dc hc xs mA mc W (k.grown g) (m.grown g) hC hR hn
 have hcl:=fun W (g:Grown w W)=>cloneGds_any (fs:=fs) K.goods gb go gc W (k.grown g).goods (by omega) k.ng
 have hall2:∀ W A c',Grown w W→GdsAt W A (roomK K good).goods→Calls (Pf fs) 74 #[.agg #[.slice A K.goods.length c',.slice dA K.dishes.length dc,.slice hA K.hauls.length hc],.slice mA xs.length mc] W fun e w'=>∃ (v:Value) (t:Bool),e=.returned (.tuple #[v,.int .i64 (zT (roomK K good) xs),.bool t])∧Grown W w':=fun W A c' hg' hl=>by
  have kk:KtAt W (roomK K good) A dA hA:=⟨hl,(k.grown hg').dishes,(k.grown hg').hauls,by simpa[roomK] using k.ng,k.nd,k.nh⟩
  have:=all_good (fs:=fs) (roomK K good) A dA hA c' dc hc xs mA mc W kk (m.grown hg') (roomK_valid hC hg hr) hR hn2
  unfold ktV at this
  rw[show (roomK K good).goods.length=K.goods.length by simp[roomK]] at this
  exact this.mono fun e w' ⟨M,e1,g1,_⟩=>⟨_,_,e1,g1⟩
 have hng:=k.ng
 obtain⟨b',o',e',x1,_⟩:=k.goods good _ (gdAt_get hg)
 cases e'
 have hc1:zT K xs≤3*(5*65025):=by rw[← sumTo_full hn];exact Nat.le_trans (sumTo_le (xs:=xs) hC (Nat.le_refl _)) (Nat.mul_le_mul_right _ (goodsE_zero (zW hC).1).2.1)
 have hb20:=badGood_false ((goodsE_zero (zW hC).1).2.2 _ (List.mem_of_getElem? (gdAt_get hg)))
 have HX:=Lib.hid x1
 have HC:=Lib.hid hasked
 have HAL:=Lib.hid hall
 have HCL:=Lib.hid hcl
 have HA2:=Lib.hid hall2
 obtain⟨V,hV⟩:∃ V,V=w.alloc (.cells #[.slice (some ⟨gb,go,none⟩) K.goods.length gc,.slice dA K.dishes.length dc,.slice hA K.hauls.length hc] 29):=⟨_,rfl⟩
 have v0:V.heap[w.heap.size]?=some (.cells #[.slice (some ⟨gb,go,none⟩) K.goods.length gc,.slice dA K.dishes.length dc,.slice hA K.hauls.length hc] 29 (0,0)):=by rw[hV];exact heap_alloc_new w _
 have vg:Grown w V:=by rw[hV];exact Grown.alloc _ _
 have hvs:w.heap.size<V.heap.size:=zm v0
 have HY:=Lib.hid (show ∀ W,Grown V W→W.cell? ⟨w.heap.size,0,none⟩=some (.slice (some ⟨gb,go,none⟩) K.goods.length gc)∧W.cell? ⟨w.heap.size,1,none⟩=some (.slice dA K.dishes.length dc)∧W.cell? ⟨w.heap.size,2,none⟩=some (.slice hA K.hauls.length hc) from fun W g =>
  ⟨za (zi v0 g) 0,za (zi v0 g) 1,za (zi v0 g) 2⟩)
 have HV0:=Lib.hid v0
 have HVG:=Lib.hid vg
 have HVE:=Lib.hid hV
 have HO2:=Lib.hid (show outB (good:Int) 0 ((K.goods.length:Int)-1)=false by unfold outB;simp;omega)
 have hw2:IntKind.i64.wrap ((K.goods.length:Int)-1)=(K.goods.length:Int)-1:=wrap_of rfl (by omega) (by omega)
 have hi:(good:Int)<K.goods.length:=by omega
 have hr20:((gdAt K.goods good).room==20)=false:=by simp;omega
 obtain⟨room,hroom⟩:∃ room,room=(gdAt K.goods good).room:=⟨_,rfl⟩
 rw[← hroom] at HX hr20 hb20
 have hw3:IntKind.i64.wrap (room+1)=room+1:=wrap_of rfl (by omega) (by omega)
 have HRM:=Lib.hid hroom
 have hw4:IntKind.i64.wrap ((zT K xs:Int)-(zT (roomK K good) xs:Int))=((zT K xs-zT (roomK K good) xs:Nat):Int):=wrap_of (by omega) (by omega) (by omega)
 have HVS:=Lib.hid hvs
 clear k m hasked hall hall2 hcl hC hR hA' v0 vg hV x1 hr hc1 hb20 hroom hle hn2 hvs
 unfold ktV at *
 go_enter LK.func60,Try.ntmps60
 go_upto_region 11 with (first|(go_at_call 69;have hg0:=HVG.out;rw[HVE.out] at hg0;refine (HC.out _ hg0).mono ?_;rintro e w1 ⟨rfl,hg1⟩;rw[← HVE.out] at hg1;have HG1:=Lib.hid hg1;obtain⟨y0,y1,y2⟩:=HY.out w1 hg1;have x1:=(HVG.out.trans hg1).cell HX.out;clear hg1 hg0)|(go_at_call 70;refine (qw _ _ _ _).mono ?_;rintro e w2 ⟨rfl,rfl⟩;rw[HO2.out])|(go_at_call 74;refine (HAL.out _ (HVG.out.trans HG1.out)).mono ?_;rintro e w3 ⟨M,rfl,g3,_⟩;have HG3:=Lib.hid (HG1.out.trans g3);clear g3))
 clear y0 y1 y2 x1
 obtain⟨y0,y1,y2⟩:=HY.out w3 HG3.out
 go_upto_region 12 with (go_at_call 92;refine (HCL.out _ (HVG.out.trans HG3.out)).mono ?_;rintro e w5 ⟨nb,c5,rfl,g5,l5⟩;have HG5:=Lib.hid (HG3.out.trans g5);have HL5:=Lib.hid l5;obtain⟨z0,z1,z2⟩:=HY.out w5 HG5.out;have zf:=zk (zi HV0.out HG5.out) 0;have HS5:=Lib.hid g5.size;clear g5 l5)
 clear y0 y1 y2 z0 z1 z2 zf
 have b5:=zi HV0.out HG5.out
 obtain⟨w6,hw6⟩:∃ w6,w6=w5.setCell ⟨w.heap.size,0,none⟩ (.slice (some ⟨nb,0,none⟩) K.goods.length c5):=⟨_,rfl⟩
 have b6:w6.heap[w.heap.size]?=some (.cells #[.slice (some ⟨nb,0,none⟩) K.goods.length c5,.slice dA K.dishes.length dc,.slice hA K.hauls.length hc] 29 (0,0)):=by rw[hw6,zS b5];rfl
 have l6:GdList w6 w3.heap.size w3.heap.size (some ⟨nb,0,none⟩) c5 K.goods:=by rw[hw6];exact HL5.out.box (p:=⟨w.heap.size,0,none⟩) b5 (by decide) _
 have s6:w6.heap.size=w5.heap.size:=by rw[hw6,zu]
 have g6:Grown w w6:=⟨by have:=(HVG.out.trans HG5.out).size;omega,fun b hb=>by rw[hw6,Below.heap_setCell _ _ _ _ (by simp only;omega)];exact (HVG.out.trans HG5.out).same b hb,by rw[hw6];exact (HVG.out.trans HG5.out).os⟩
 obtain⟨nb',e1,⟨cur,e2⟩,_,e4,e5⟩:=RecList.put1 (y:={ gdAt K.goods good with room:=room+1 }) (v:=.int .i64 (room+1)) l6 (by decide) (gdAt_get hg) (i:=0) (by decide) (fun _ _ _=>rfl) (fun _ _=>rfl) rfl
 cases e1
 obtain⟨nb',_,_,q1,q2,q3,_⟩:=RecList.at_ l6 (fun _ _ _=>rfl) (gdAt_get hg)
 cases q1
 have q4:=q3 0 (.int .i64 room) (by rw[HRM.out];rfl)
 rw[Nat.add_zero] at q4 e4 e5
 rw[← hw6]
 have hnb:w.heap.size≠nb:=by have:=HVS.out;have:=(HG3.out).size;omega
 have y0:=za b6 0
 simp only[List.getElem?_toArray,List.getElem?_cons_zero] at y0
 have HB6:=Lib.hid b6
 have HG6:=Lib.hid g6
 have HL7:=Lib.hid e5
 have HNB:=Lib.hid hnb
 have hnl:w.heap.size≤nb:=by have:=HVS.out;have:=(HG3.out).size;omega
 have HNL:=Lib.hid hnl
 clear hw6 b5 b6 l6 s6 g6 e2 e5 q2 q3 hnb hnl
 go_upto_region 13 with fail
 clear y0 q4 e4
 have b7:=(Below.heap_setCell w6 ⟨nb,good*4,none⟩ (.int .i64 (room+1)) w.heap.size HNB.out).trans HB6.out
 have y0:=za b7 0
 have y1:=za b7 1
 have y2:=za b7 2
 simp only[List.getElem?_toArray,List.getElem?_cons_zero,List.getElem?_cons_succ] at y0 y1 y2
 have g7:Grown w (w6.setCell ⟨nb,good*4,none⟩ (.int .i64 (room+1))):=⟨by rw[zu];exact HG6.out.size,fun b hb=>by have:=HNL.out;rw[Below.heap_setCell _ _ _ _ (by simp only;omega)];exact HG6.out.same b hb,HG6.out.os⟩
 have HG7:=Lib.hid g7
 have HGD:=Lib.hid (show GdsAt (w6.setCell ⟨nb,good*4,none⟩ (.int .i64 (room+1))) (some ⟨nb,0,none⟩) (roomK K good).goods from by
  have:=GdList.at_ HL7.out
  rw[HRM.out] at this ⊢
  exact this)
 generalize w6.setCell ⟨nb,good*4,none⟩ (.int .i64 (room+1))=w7 at y0 y1 y2 HG7 HGD ⊢
 clear b7 g7 HB6 HG6 HL7
 go_wp2_with (go_at_call 74;refine (HA2.out w7 _ c5 HG7.out HGD.out).mono ?_;rintro e w8 ⟨v8,t8,rfl,g8⟩;have HG8:=Lib.hid (HG7.out.trans g8);clear g8)
 refine bodyPost_ret (v:=.tuple #[.int .i64 (((zT K xs-zT (roomK K good) xs:Nat)):Int),.int .i64 0]) (by simp[results,Try.results60,go_sem]) rfl ⟨rfl,HG8.out⟩
end
end
section
structure USt (V W:World) (tp:Nat) (ls:List (List Int)) (A:Option Addr) (c:Nat):Prop where
 row:LdList W V.heap.size tp A c ls
 gr:Grown V W
 top:tp≤W.heap.size
section
variable {fs:Array Func} [LikeS fs]
end
end
section
section
variable {fs:Array Func} [LikeS fs]
end
end
section
section
variable (D:Good1) (ld:Nat→Nat)
end
section
variable {Ds:List Good1} {ls:List (List Int)}
end
end
section
structure Apart5 (wS:World) (K:Kt) (ms:List Int) (gA dA hA mA:Option Addr) (gc dc hc bx:Nat):Prop where
 kt:KtAt wS K gA dA hA
 m:Ints wS mA ms
 box:wS.heap[bx]?=some (.cells #[.slice gA K.goods.length gc,.slice dA K.dishes.length dc,.slice hA K.hauls.length hc] 29 (0,0))
 valid:zG K=0
 asked:qe K ms=0
 ml:ms.length≤1000
 n : 1≤K.goods.length∧1≤K.dishes.length∧1≤K.hauls.length
 n3:K.goods.length≤3
 dlen:∀ d∈K.dishes,d.length=K.goods.length
 plen:∀ x∈K.hauls,x.prices.length=K.goods.length
theorem Apart5.cells {wS:World} {K:Kt} {ms:List Int} {gA dA hA mA:Option Addr} {gc dc hc bx:Nat} (s:Apart5 wS K ms gA dA hA mA gc dc hc bx) {W:World} (g:Grown wS W):W.cell? ⟨bx,0,none⟩=some (.slice gA K.goods.length gc)∧W.cell? ⟨bx,1,none⟩=some (.slice dA K.dishes.length dc)∧W.cell? ⟨bx,2,none⟩=some (.slice hA K.hauls.length hc):=⟨za (zi s.box g) 0,za (zi s.box g) 1,za (zi s.box g) 2⟩
section
variable {fs:Array Func} [LikeS fs]
end
end
section
section
variable {w W:World} {base:Nat} {K:Kt} {gb db hb h g:Nat} {nb nc pb pc:Nat→Nat}
end
section
variable {fs:Array Func} [LikeS fs]
end
end
section
def TabAt (w:World) (A:Option Addr) (nh ng:Nat) (f:Nat→Nat→Nat):Prop:=
 ∃ b off,A=some ⟨b,off,none⟩∧∀ h,h<nh→∃ rb ro rc,w.cell? ⟨b,off+h,none⟩=some (.slice (some ⟨rb,ro,none⟩) ng rc)∧∀ i,i<ng→w.cell? ⟨rb,ro+i,none⟩=some (.int .i64 (f h i))
structure LegG (K:Kt) (ms:List Int) (ls:List (List Int)) (g room res mel st:Nat) (nN xX uU lo gn hr:Nat→Nat):Prop where
 gd:K.goods[g]?=some ⟨room,res,mel,st⟩
 bd:room≤20∧res≤20∧mel≤12∧st≤20
 n0:nN 0=st
 g0:gn 0=0
 hl:∀ h,h<K.hauls.length→hr h≤24∧∃ cov pr,K.hauls[h]?=some ⟨hr h,cov,pr⟩
 leg:∀ h,h<K.hauls.length→nN h+xX h≤room∧res≤nN (h+1)∧nN (h+1)+uU h+lo h=nN h+xX h
 hlo:∀ h,h<K.hauls.length→lo h=melted (hr h) mel (nN h+xX h)
 gs:∀ h,gn (h+1)=gn h+lo h
 tx:∀ h,ldN ls h g=xX h
 tu:∀ h,usN (dsOf K ms) h g=uU h
 tn:∀ h,nowD (atG (dsOf K ms) g) (ldI ls g) (h+1)=nN (h+1)
 tg:(runK K ms ls).mel g=gn K.hauls.length
 gb:∀ h,h≤K.hauls.length→gn h≤h*20
structure LegsAt (w:World) (K:Kt) (ms:List Int) (ls:List (List Int)) (lA fA uA eA:Option Addr):Prop where
 l:TabAt w lA K.hauls.length K.goods.length (fun h i=>ldN ls h i)
 f:TabAt w fA K.hauls.length K.goods.length (fun h i=>nowD (atG (dsOf K ms) i) (ldI ls i) (h+1))
 u:TabAt w uA K.hauls.length K.goods.length (fun h i=>usN (dsOf K ms) h i)
 m:Ints w eA ((List.range K.goods.length).map fun i=>(((runK K ms ls).mel i:Nat):Int))
theorem Apart5.kb {w W:World} {K:Kt} {ms:List Int} {gA dA hA mA:Option Addr} {gc dc hc bx g:Nat} (s:Apart5 w K ms gA dA hA mA gc dc hc bx) (k:Kb g w W) (hb:BagAt w g) (hne:bx≠g):Apart5 W K ms gA dA hA mA gc dc hc bx:=
 ⟨s.kt.kb k hb,s.m.kb k hb,k.ke.block s.box hne,s.valid,s.asked,s.ml,s.n,s.n3,s.dlen,s.plen⟩
theorem Apart5.grown {w W:World} {K:Kt} {ms:List Int} {gA dA hA mA:Option Addr} {gc dc hc bx:Nat} (s:Apart5 w K ms gA dA hA mA gc dc hc bx) (k:Grown w W):Apart5 W K ms gA dA hA mA gc dc hc bx:=
 ⟨s.kt.grown k,s.m.grown k,zi s.box k,s.valid,s.asked,s.ml,s.n,s.n3,s.dlen,s.plen⟩
section
variable {fs:Array Func} [LikeS fs]
end
end
section
structure Easy1 (K X:Kt) (n:Nat):Prop where
 dishes:X.dishes=K.dishes
 hauls:X.hauls=K.hauls
 len:X.goods.length=K.goods.length
 done:∀ j,j<n→EasyGd (gdAt K.goods j) (gdAt X.goods j)∧qb (gdAt X.goods j)=false
 left:∀ j,n≤j→gdAt X.goods j=gdAt K.goods j
theorem gdAt_set {gs:List Gd} {n j:Nat} {y:Gd} (hn:n<gs.length):gdAt (gs.set n y) j=if j=n then y else gdAt gs j:=by
 unfold gdAt
 rw[List.getD_eq_getElem?_getD,List.getD_eq_getElem?_getD]
 by_cases h:j=n
 ·subst h
  rw[List.getElem?_set_self hn,if_pos rfl]
  rfl
 ·rw[List.getElem?_set_ne (Ne.symm h),if_neg h]
theorem hlAt_set {hs:List Hl} {n j:Nat} {y:Hl} (hn:n<hs.length):hlAt (hs.set n y) j=if j=n then y else hlAt hs j:=by
 unfold hlAt
 rw[List.getD_eq_getElem?_getD,List.getD_eq_getElem?_getD]
 by_cases h:j=n
 ·subst h
  rw[List.getElem?_set_self hn,if_pos rfl]
  rfl
 ·rw[List.getElem?_set_ne (Ne.symm h),if_neg h]
theorem Easy1.start (K:Kt):Easy1 K K 0:=⟨rfl,rfl,rfl,fun j h=>by omega,fun _ _=>rfl⟩
theorem Easy1.step {K X:Kt} {n:Nat} {y:Gd} (h:Easy1 K X n) (hn:n<K.goods.length) (e:EasyGd (gdAt K.goods n) y) (b:qb y=false):Easy1 K { X with goods:=X.goods.set n y } (n+1):=by
 have hx:n<X.goods.length:=by rw[h.len];exact hn
 refine⟨h.dishes,h.hauls,by simpa using h.len,fun j hj=>?_,fun j hj=>?_⟩
 ·show EasyGd _ (gdAt (X.goods.set n y) j)∧qb (gdAt (X.goods.set n y) j)=false
  rw[gdAt_set hx]
  split
  ·rename_i q;subst q;exact⟨e,b⟩
  ·exact h.done j (by omega)
 ·show gdAt (X.goods.set n y) j=_
  rw[gdAt_set hx,if_neg (by omega)]
  exact h.left j (by omega)
structure Easy2 (K X:Kt) (n:Nat):Prop where
 dishes:X.dishes=K.dishes
 len:X.goods.length=K.goods.length
 goods:∀ j,j<K.goods.length→EasyGd (gdAt K.goods j) (gdAt X.goods j)∧qb (gdAt X.goods j)=false
 hlen:X.hauls.length=K.hauls.length
 done:∀ j,j<n→(hlAt X.hauls j).hours=(hlAt K.hauls j).hours∧(hlAt X.hauls j).prices=(hlAt K.hauls j).prices∧0≤(hlAt X.hauls j).covers∧(hlAt X.hauls j).covers≤(hlAt K.hauls j).covers
 left:∀ j,n≤j→hlAt X.hauls j=hlAt K.hauls j
theorem Easy2.start {K X:Kt} (h:Easy1 K X K.goods.length):Easy2 K X 0:=⟨h.dishes,h.len,h.done,by rw[h.hauls],fun j q=>by omega,fun j _=>by rw[h.hauls]⟩
theorem Easy2.step {K X:Kt} {n:Nat} {c:Int} (h:Easy2 K X n) (hn:n<K.hauls.length) (c0 : 0≤c) (c1:c≤(hlAt K.hauls n).covers):Easy2 K { X with hauls:=X.hauls.set n { hlAt K.hauls n with covers:=c } } (n+1):=by
 have hx:n<X.hauls.length:=by rw[h.hlen];exact hn
 refine⟨h.dishes,h.len,h.goods,by simpa using h.hlen,fun j hj=>?_,fun j hj=>?_⟩
 ·simp only
  rw[hlAt_set hx]
  split
  ·rename_i q;subst q;exact⟨rfl,rfl,c0,c1⟩
  ·exact h.done j (by omega)
 ·show hlAt (X.hauls.set n _) j=_
  rw[hlAt_set hx,if_neg (by omega)]
  exact h.left j (by omega)
theorem Easy2.easy {K X:Kt} (h:Easy2 K X K.hauls.length):EasyK K X:=⟨⟨h.len,fun i hi=>(h.goods i hi).1⟩,h.dishes,h.hlen,fun i hi=>by
 obtain⟨a,b,_,d⟩:=h.done i hi
 exact⟨a,b,d⟩⟩
theorem Easy2.valid {K X:Kt} (h:Easy2 K X K.hauls.length) (hC:zG K=0):zG X=0:=by
 obtain⟨c1,c2,c3⟩:=zW hC
 obtain⟨g1,g2,g3⟩:=goodsE_zero c1
 obtain⟨h1,h2,h3⟩:=haulsE_zero c3
 have e1:goodsE X.goods=0:=by
  unfold goodsE
  rw[h.len,manyE_ok (by omega) (by omega),if_neg (by simp),if_neg]
  rw[List.any_eq_true]
  rintro⟨x,hx,hb⟩
  obtain⟨i,hi⟩:=List.getElem?_of_mem hx
  have hil:i<X.goods.length:=(List.getElem?_eq_some_iff.1 hi).1
  rw[gdAt_get hil] at hi
  cases hi
  rw[(h.goods i (by rw[← h.len];exact hil)).2] at hb
  cases hb
 have e3:haulsE X.goods.length X.hauls=0:=by
  refine haulsE_ok (by rw[h.hlen];exact h1) (by rw[h.hlen];exact h2) fun x hx=>?_
  obtain⟨i,hi⟩:=List.getElem?_of_mem hx
  have hil:i<X.hauls.length:=(List.getElem?_eq_some_iff.1 hi).1
  rw[hlAt_get hil] at hi
  cases hi
  have hik:i<K.hauls.length:=by rw[← h.hlen];exact hil
  obtain⟨q1,q2,q3,q4⟩:=h.done i hik
  obtain⟨a,b,c,d,e,f⟩:=h3 _ (List.mem_of_getElem? (hlAt_get hik))
  rw[q1,q2,h.len]
  exact⟨a,b,q3,by omega,e,f⟩
 unfold zG
 rw[e1,if_neg (by simp),h.len,h.dishes,c2,if_neg (by simp),← h.len,e3]
theorem Easy2.asked {K X:Kt} {xs:List Int} (h:Easy2 K X K.hauls.length) (hA:qe K xs=0):qe X xs=0:=by
 obtain⟨hC,hR⟩:=askedE_zero hA
 refine asked_of (h.valid hC) ?_
 rw[h.dishes,h.hlen]
 exact hR
section
variable {w W:World} {base:Nat} {K:Kt} {gA:Option Addr} {gc:Nat} {dA:Option Addr} {dc:Nat} {hA:Option Addr} {hc g:Nat}
theorem KOwn.kb (h:KOwn w base K gA gc dA dc hA hc) (k:Kb g w W) (hb:BagAt w g):KOwn W base K gA gc dA dc hA hc:=by
 obtain⟨m,h1,h2,h3,h4,h5⟩:=h
 exact⟨m,h1,Nat.le_trans h2 k.ke.size,h3.kb hb (by decide) k,h4.kb hb (by decide) k,(h5.kb hb (by decide) k).up k.ke.size⟩
theorem KOwn.gd (h:KOwn w base K gA gc dA dc hA hc) {j i:Nat} {x y:Gd} {v:Value} (hj:K.goods[j]?=some x) (hi:i<4) (hy:∀ B cc,encG y B cc=(encG x B cc).set i v) :
  ∃ b,gA=some ⟨b,0,none⟩∧base≤b∧(∃ cur,w.heap[b]?=some (.cells cur 42 (0,0)))∧(∀ (q:Nat) u,(encG x none 0)[q]?=some u→w.cell? ⟨b,j*4+q,none⟩=some u) ∧
   KOwn (w.setCell ⟨b,j*4+i,none⟩ v) base { K with goods:=K.goods.set j y } gA gc dA dc hA hc:=by
 obtain⟨m,h1,h2,h3,h4,h5⟩:=h
 obtain⟨b,e1,⟨cur,e2⟩,e3,e4,e5⟩:=RecList.put1 (y:=y) (v:=v) h3 (by decide) hj (i:=i) hi (fun _ _ _=>rfl) hy rfl
 obtain⟨_,_,_,q1,q2,q3,_⟩:=RecList.at_ h3 (fun _ _ _=>rfl) hj
 rw[e1] at q1
 injection q1 with q1
 injection q1 with q1 _
 subst q1
 exact⟨b,e1,by omega,⟨cur,e2⟩,q3,m,h1,by rw[zu];exact h2,e5,h4.setCell (p:=⟨b,j*4+i,none⟩) e2 (by decide) (by decide) _,by rw[zu];exact h5.setCell (p:=⟨b,j*4+i,none⟩) e2 (by decide) (by decide) _⟩
theorem KOwn.cov (h:KOwn w base K gA gc dA dc hA hc) {j:Nat} {x:Hl} {v:Int} (hj:K.hauls[j]?=some x) :
  ∃ b,hA=some ⟨b,0,none⟩∧base≤b∧(∃ cur,w.heap[b]?=some (.cells cur 46 (0,0)))∧w.cell? ⟨b,j*3+1,none⟩=some (.int .i64 x.covers) ∧
   KOwn (w.setCell ⟨b,j*3+1,none⟩ (.int .i64 v)) base { K with hauls:=K.hauls.set j { x with covers:=v } } gA gc dA dc hA hc:=by
 obtain⟨b,e1,e2,_,_,e5⟩:=h.covers (v:=v) hj
 obtain⟨m,h1,h2,h3,h4,h5⟩:=h
 obtain⟨b',B,cc,q1,q2,q3,_⟩:=RecList.at_ h5 (fun _ _ _=>rfl) hj
 rw[e1] at q1
 cases q1
 obtain⟨⟨cur,t1⟩,_⟩:=h5.tag (k:=b) (by rw[qr,e1];rfl)
 exact⟨b,e1,e2,⟨cur,t1⟩,q3 1 _ rfl,e5⟩
structure EzAt (wS W:World) (K X:Kt) (g tb:Nat) (gA:Option Addr) (gc:Nat) (dA:Option Addr) (dc:Nat) (hA:Option Addr) (hc:Nat):Prop where
 own:KOwn W wS.heap.size X gA gc dA dc hA hc
 box:W.heap[tb]?=some (.cells #[.slice gA K.goods.length gc,.slice dA K.dishes.length dc,.slice hA K.hauls.length hc] 29 (0,0))
 kb:Kb g wS W
 low:wS.heap.size≤tb∧g<wS.heap.size
theorem EzAt.to {wS W W2:World} {X:Kt} {tb:Nat} (h:EzAt wS W K X g tb gA gc dA dc hA hc) (k:Kb g W W2):EzAt wS W2 K X g tb gA gc dA dc hA hc:=
 have:=h.low
 ⟨h.own.kb k h.kb.bag,k.ke.block h.box (by omega),h.kb.trans k,h.low⟩
theorem EzAt.put {wS W:World} {X X2:Kt} {tb b:Nat} {t:TypeId} {o:Nat} {v:Value} (h:EzAt wS W K X g tb gA gc dA dc hA hc) (hb:wS.heap.size≤b) {cur:Array Value} (hc':W.heap[b]?=some (.cells cur t (0,0))) (ht:t≠29) (ho:KOwn (W.setCell ⟨b,o,none⟩ v) wS.heap.size X2 gA gc dA dc hA hc):EzAt wS (W.setCell ⟨b,o,none⟩ v) K X2 g tb gA gc dA dc hA hc:=by
 have hl:=h.low
 have hne:tb≠b:=fun e=>by
  have:=h.box
  rw[e,hc'] at this
  cases this
  exact ht rfl
 exact⟨ho,(Below.heap_setCell _ _ _ _ hne).trans h.box,⟨h.kb.bag.of_block (Below.heap_setCell _ _ _ _ (by simp only;omega)),h.kb.ke.setCell (.inr hb) _⟩,hl⟩
theorem EzAt.drew {wS W:World} {X:Kt} {tb:Nat} (h:EzAt wS W K X g tb gA gc dA dc hA hc):EzAt wS W.drew K X g tb gA gc dA dc hA hc:=h.to ⟨h.kb.bag.drew,(Ke.refl _).drew⟩
end
end
section
noncomputable def body14:Code:=Try.f14.body.getD .skip
section
variable {fs:Array Func} [LikeS fs]
set_option maxRecDepth 100000 in
set_option maxHeartbeats 8000000 in
theorem law14d {wS:World} {K:Kt} {ms:List Int} {gb go:Nat} {dA hA mA:Option Addr} {gc dc hc mc bx:Nat} {n er:Int} (S:Hid (Apart5 wS K ms (some ⟨gb,go,none⟩) dA hA mA gc dc hc bx)) (hG:∀ W (i:Nat),Grown wS W→i<K.goods.length→∃ d:Int,Calls (Pf fs) 60 #[.agg #[.slice (some ⟨gb,go,none⟩) K.goods.length gc,.slice dA K.dishes.length dc,.slice hA K.hauls.length hc],.slice mA ms.length mc,.int .i64 i] W (fun e w'=>e=.returned (.tuple #[.int .i64 d,.int .i64 er])∧Grown W w')∧0≤d∧d≤n) (her:er=0∨er=11) {wc:World} (HGC:Hid (Grown wS wc)) {u0 u1 u2 u3 u6 u7 u8 u9 u10 u13 u14 u15 u16 u17 u18 u19 u20 u21 u22 u23 u24 u25 u26 u27 u28 u29 u30 u31 u32 u33 u34 u35 u36 u37 u38 u39 u40 u41 u42 u43 u44 u45 u46 u47 u48 u49 u50 u51 u52 u53 u54 u55 u56 u57 u58 u59 u60 u61 u62 u63 u64 u65 u66 u67 u68 u69 u70 u71 u72 u73 u74 u75 u76 u77 u78 u79 u80 u81 u82 u83 u84 u85 u86 u87 u88 u89 u90 u91 u92 u93 u94 u95 u96 u97 u98 u99 u100 u101 u102 u103 u104 u105 u106 u107 u108 u109 u110 u111 u112 u113 u114 u115 u116 u117 u118 u119 u120 u121 u122 u123 u124 u125 u126 u127 u128 u129 u130 u131 u132 u133 u134 u135 u136 u137 u138 u139 u140 u141 u142 u143 u144 u145 u146 u147 u148 u149 u150 u151 u152 u153 u154 u155 u156 u157 u158 u159 u160 u161 u162 u163 u164 u165 u166 u167 u168 u169 u170 u171 u172 u173 u174 u175 u176 u177 u178 u179 u180 u181 u182 u183 u184 u185 u186 u187 u188 u189 u190 u191 u192 u193 u194:Value} :
  Code.wp (Pf fs) (behindN 11 body14) (bodyPost (Pf fs) Try.f14 fun e _=>e=.returned (.bool true)) ⟨#[u0,u1,u2,u3,.pointer (some ⟨bx,0,none⟩),.slice mA ms.length mc,u6,u7,u8,u9,u10,.int .i64 n,.int .i64 er,u13,u14,u15,u16,u17,u18,u19,u20,u21,u22,u23,u24,u25,u26,u27,u28,u29,u30,u31,u32,u33,u34,u35,u36,u37,u38,u39,u40,u41,u42,u43,u44,u45,u46,u47,u48,u49,u50,u51,u52,u53,u54,u55,u56,u57,u58,u59,u60,u61,u62,u63,u64,u65,u66,u67,u68,u69,u70,u71,u72,u73,u74,u75,u76,u77,u78,u79,u80,u81,u82,u83,u84,u85,u86,u87,u88,u89,u90,u91,u92,u93,u94,u95,u96,u97,u98,u99,u100,u101,u102,u103,u104,u105,u106,u107,u108,u109,u110,u111,u112,u113,u114,u115,u116,u117,u118,u119,u120,u121,u122,u123,u124,u125,u126,u127,u128,u129,u130,u131,u132,u133,u134,u135,u136,u137,u138,u139,u140,u141,u142,u143,u144,u145,u146,u147,u148,u149,u150,u151,u152,u153,u154,u155,u156,u157,u158,u159,u160,u161,u162,u163,u164,u165,u166,u167,u168,u169,u170,u171,u172,u173,u174,u175,u176,u177,u178,u179,u180,u181,u182,u183,u184,u185,u186,u187,u188,u189,u190,u191,u192,u193,u194],[]⟩ wc:=by
 have HGA:=Lib.hid hG
 have hng:=S.out.n3
 clear hG
 conv=>arg 2;whnf
 rcases her with rfl|rfl
 all_goals
  go_wp2_with fail
  go_loopw [16] (fun i W=>∃ n:Nat,i=.int .i64 n∧n≤K.goods.length∧Hid (Grown wS W)) (fun i _=>K.goods.length-(intOf i).toNat)
  case atStart=>exact⟨0,rfl,Nat.zero_le _,HGC⟩
  case round =>
   obtain⟨g,rfl,hg,HGW⟩:=hrel
   obtain⟨a0,a1,a2⟩:=S.out.cells HGW.out
   by_cases hgl:g<K.goods.length
   ·have i1:(g:Int)<K.goods.length:=by omega
    obtain⟨d,hc1,j1,j2⟩:=HGA.out wr g HGW.out hgl
    have k1:¬ d<0:=by omega
    have k2:¬ _<d:=Int.not_lt.2 j2
    clear j1 j2
    have HC1:=Lib.hid hc1
    clear hc1
    go_wp2_with (go_at_call 60;refine HC1.out.mono ?_;rintro e w1 ⟨rfl,g1⟩;have HG1:=Lib.hid (HGW.out.trans g1);clear g1)
    go_roundw
    case rel=>exact⟨g+1,by go_num,by omega,HG1⟩
    case measure=>simp[intOf];omega
   ·have i1:¬ (g:Int)<K.goods.length:=by omega
    obtain rfl:g=K.goods.length:=by omega
    go_wp2_with (go_at_call 22;refine (served_any _).mono ?_;rintro e w9 ⟨rfl,g9⟩)
    go_ret
    rfl
end
end
section
section
variable {fs:Array Func} [LikeS fs]
set_option maxRecDepth 100000 in
set_option maxHeartbeats 8000000 in
theorem law14c {wS:World} {K X:Kt} {ms:List Int} {gb go:Nat} {dA hA mA gA2 dA2 hA2:Option Addr} {gc dc hc mc gc2 dc2 hc2 bx tb:Nat} {n er:Int} (S:Hid (Apart5 wS K ms (some ⟨gb,go,none⟩) dA hA mA gc dc hc bx)) (HE:Easy2 K X K.hauls.length) (HX:Hid (KtAt wS X gA2 dA2 hA2)) (HB:Hid (wS.heap[tb]?=some (.cells #[.slice gA2 K.goods.length gc2,.slice dA2 K.dishes.length dc2,.slice hA2 K.hauls.length hc2] 29 (0,0)))) (H20:∀ i,i<K.goods.length→(gdAt K.goods i).room<20) (hK:(noneB K ms=false∧n=zT K ms∧er=0)∨(noneB K ms=true∧n=0∧er=11)) {u0 u1 u2 u3 u7 u8 u9 u10 u13 u14 u15 u16 u17 u18 u19 u20 u21 u22 u23 u24 u25 u26 u27 u28 u29 u30 u31 u32 u33 u34 u35 u36 u37 u38 u39 u40 u41 u42 u43 u44 u45 u46 u47 u48 u49 u50 u51 u52 u53 u54 u55 u56 u57 u58 u59 u60 u61 u62 u63 u64 u65 u66 u67 u68 u69 u70 u71 u72 u73 u74 u75 u76 u77 u78 u79 u80 u81 u82 u83 u84 u85 u86 u87 u88 u89 u90 u91 u92 u93 u94 u95 u96 u97 u98 u99 u100 u101 u102 u103 u104 u105 u106 u107 u108 u109 u110 u111 u112 u113 u114 u115 u116 u117 u118 u119 u120 u121 u122 u123 u124 u125 u126 u127 u128 u129 u130 u131 u132 u133 u134 u135 u136 u137 u138 u139 u140 u141 u142 u143 u144 u145 u146 u147 u148 u149 u150 u151 u152 u153 u154 u155 u156 u157 u158 u159 u160 u161 u162 u163 u164 u165 u166 u167 u168 u169 u170 u171 u172 u173 u174 u175 u176 u177 u178 u179 u180 u181 u182 u183 u184 u185 u186 u187 u188 u189 u190 u191 u192 u193 u194:Value} :
  Code.wp (Pf fs) (behindN 9 body14) (bodyPost (Pf fs) Try.f14 fun e _=>e=.returned (.bool true)) ⟨#[u0,u1,u2,u3,.pointer (some ⟨bx,0,none⟩),.slice mA ms.length mc,.pointer (some ⟨tb,0,none⟩),u7,u8,u9,u10,.int .i64 n,.int .i64 er,u13,u14,u15,u16,u17,u18,u19,u20,u21,u22,u23,u24,u25,u26,u27,u28,u29,u30,u31,u32,u33,u34,u35,u36,u37,u38,u39,u40,u41,u42,u43,u44,u45,u46,u47,u48,u49,u50,u51,u52,u53,u54,u55,u56,u57,u58,u59,u60,u61,u62,u63,u64,u65,u66,u67,u68,u69,u70,u71,u72,u73,u74,u75,u76,u77,u78,u79,u80,u81,u82,u83,u84,u85,u86,u87,u88,u89,u90,u91,u92,u93,u94,u95,u96,u97,u98,u99,u100,u101,u102,u103,u104,u105,u106,u107,u108,u109,u110,u111,u112,u113,u114,u115,u116,u117,u118,u119,u120,u121,u122,u123,u124,u125,u126,u127,u128,u129,u130,u131,u132,u133,u134,u135,u136,u137,u138,u139,u140,u141,u142,u143,u144,u145,u146,u147,u148,u149,u150,u151,u152,u153,u154,u155,u156,u157,u158,u159,u160,u161,u162,u163,u164,u165,u166,u167,u168,u169,u170,u171,u172,u173,u174,u175,u176,u177,u178,u179,u180,u181,u182,u183,u184,u185,u186,u187,u188,u189,u190,u191,u192,u193,u194],[]⟩ wS:=by
 have hml:=S.out.ml
 have hAQ:=S.out.asked
 have hXA:=HE.asked hAQ
 have b0:=za HB.out 0
 have b1:=za HB.out 1
 have b2:=za HB.out 2
 simp only[List.getElem?_toArray,List.getElem?_cons_zero,List.getElem?_cons_succ] at b0 b1 b2
 conv=>arg 2;whnf
 rcases hK with ⟨hk,rfl,rfl⟩|⟨hk,rfl,rfl⟩
 ·obtain⟨hx,hle⟩:=easy_law HE.easy hAQ hk
  have h2:=cheapest_good (fs:=fs) X gA2 dA2 hA2 gc2 dc2 hc2 ms mA mc wS HX.out S.out.m hml hXA hx
  unfold ktV at h2
  rw[HE.len,HE.hlen,HE.dishes] at h2
  have H2:=Lib.hid h2
  have k1:¬ (zT K ms:Int)<zT X ms:=by omega
  have k2:decide (zT K ms<zT X ms)=false:=decide_eq_false (by omega)
  have k3:¬ zT K ms<zT X ms:=by omega
  have HGN:=Lib.hid (show ∀ W (i:Nat),Grown wS W→i<K.goods.length→∃ d:Int,Calls (Pf fs) 60 #[.agg #[.slice (some ⟨gb,go,none⟩) K.goods.length gc,.slice dA K.dishes.length dc,.slice hA K.hauls.length hc],.slice mA ms.length mc,.int .i64 i] W (fun e w'=>e=.returned (.tuple #[.int .i64 d,.int .i64 0])∧Grown W w')∧0≤d∧d≤(zT K ms:Int) from fun W i g hi =>
   ⟨_,gain_good (fs:=fs) K gb go dA hA gc dc hc ms mA mc i W (S.out.kt.grown g) (S.out.m.grown g) hml hAQ hi (H20 i hi) hk,by omega,by omega⟩)
  generalize zT K ms=ck at *
  generalize zT X ms=cx at *
  clear h2 hle
  go_upto_if 156 with (go_at_call 29;refine H2.out.mono ?_;rintro e w2 ⟨M,rfl,g2,_⟩;have HG2:=Lib.hid g2;clear g2)
  go_cut [2] (fun _ W=>Hid (Grown wS W))
  case first =>
   go_wp2_with fail
   go_meet
   exact HG2
  case rest =>
  refine (show ∀ (a:Act) (w1:World),Code.wp (Pf fs) (behindN 11 body14) (bodyPost (Pf fs) Try.f14 fun e _=>e=.returned (.bool true)) a w1→_ from by assumption) _ _ ?_
  exact law14d S HGN.out (.inl rfl) (Lib.hid hcut.out)
 ·have HGN:=Lib.hid (show ∀ W (i:Nat),Grown wS W→i<K.goods.length→∃ d:Int,Calls (Pf fs) 60 #[.agg #[.slice (some ⟨gb,go,none⟩) K.goods.length gc,.slice dA K.dishes.length dc,.slice hA K.hauls.length hc],.slice mA ms.length mc,.int .i64 i] W (fun e w'=>e=.returned (.tuple #[.int .i64 d,.int .i64 11])∧Grown W w')∧0≤d∧d≤(0:Int) from fun W i g hi =>
   ⟨0,gain_bad (fs:=fs) K gb go dA hA gc dc hc ms mA mc i W (S.out.kt.grown g) (S.out.m.grown g) hml hAQ hi (H20 i hi) hk,by omega,by omega⟩)
  cases hx:noneB X ms with
  | false =>
   have h2:=cheapest_good (fs:=fs) X gA2 dA2 hA2 gc2 dc2 hc2 ms mA mc wS HX.out S.out.m hml hXA hx
   unfold ktV at h2
   rw[HE.len,HE.hlen,HE.dishes] at h2
   have H2:=Lib.hid h2
   generalize zT X ms=cx at *
   clear h2
   go_upto_if 156 with (go_at_call 29;refine H2.out.mono ?_;rintro e w2 ⟨M,rfl,g2,_⟩;have HG2:=Lib.hid g2;clear g2)
   go_cut [2] (fun _ W=>Hid (Grown wS W))
   case first =>
    go_wp2_with fail
    go_meet
    exact HG2
   case rest =>
   refine (show ∀ (a:Act) (w1:World),Code.wp (Pf fs) (behindN 11 body14) (bodyPost (Pf fs) Try.f14 fun e _=>e=.returned (.bool true)) a w1→_ from by assumption) _ _ ?_
   exact law14d S HGN.out (.inr rfl) (Lib.hid hcut.out)
  | true =>
   have h2:=cheapest_bad (fs:=fs) X gA2 dA2 hA2 gc2 dc2 hc2 ms mA mc wS HX.out S.out.m hml hXA hx
   unfold ktV at h2
   rw[HE.len,HE.hlen,HE.dishes] at h2
   have H2:=Lib.hid h2
   clear h2
   go_upto_if 156 with (go_at_call 29;refine H2.out.mono ?_;rintro e w2 ⟨rfl,g2⟩;have HG2:=Lib.hid g2;clear g2)
   go_cut [2] (fun _ W=>Hid (Grown wS W))
   case first =>
    go_wp2_with fail
    go_meet
    exact HG2
   case rest =>
   refine (show ∀ (a:Act) (w1:World),Code.wp (Pf fs) (behindN 11 body14) (bodyPost (Pf fs) Try.f14 fun e _=>e=.returned (.bool true)) a w1→_ from by assumption) _ _ ?_
   exact law14d S HGN.out (.inr rfl) (Lib.hid hcut.out)
end
end
end Go.Gal
