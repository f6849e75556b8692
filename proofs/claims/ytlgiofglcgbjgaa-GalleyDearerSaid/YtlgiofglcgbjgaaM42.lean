/- Walks: Rise. Plain: prices that are so many times as much; a price that rises. -/
import Derived.Test.YtlgiofglcgbjgaaM41
namespace Go.Gal
open Go Go.Par Go.Proofs Go.RowKit
section
def riseK (K:Kt) (h g:Nat) (p:Int):Kt:={ K with hauls:=K.hauls.set h { hlAt K.hauls h with prices:=(hlAt K.hauls h).prices.set g p } }
theorem riseK_len (K:Kt) (h g:Nat) (p:Int):(riseK K h g p).hauls.length=K.hauls.length:=by simp[riseK]
theorem riseK_valid {K:Kt} (hC:zF K=0) {h g:Nat} {p:Int} (hh:h<K.hauls.length) (hp : 0≤p∧p≤50):zF (riseK K h g p)=0:=by
 obtain⟨_,_,c3⟩:=zV hC
 obtain⟨_,_,h3⟩:=qd c3
 obtain⟨a,b,c,d,e,f⟩:=h3 _ (List.mem_of_getElem? (qn hh))
 refine checkE_set hC ⟨a,b,c,d,by simpa using e,fun q hq=>?_⟩
 rcases List.mem_or_eq_of_mem_set hq with r|r
 ·exact f q r
 ·subst r;exact hp
section
variable {fs:Array Func} [LikeS fs]
set_option maxRecDepth 20000 in
set_option maxHeartbeats 1000000 in
theorem n89_any (b9 b8:Nat) (p:Int) (good:Nat) (w:World) (haul:Nat) (h:Hl) (hg':good<h.prices.length) (_hl':h.prices.length≤1000) (e9:w.heap[b9]?=some (.cells #[.int .i64 p] 3 (0,0))) (e8:w.heap[b8]?=some (.cells #[.int .i64 good] 3 (0,0))) :
  Changes (Pf fs) 89 #[.pointer (some ⟨b9,0,none⟩),.pointer (some ⟨b8,0,none⟩)] w haul h { h with prices:=h.prices.set good p }:=by
 intro W g cur pA pc hgr hgw hrow h0 h1 h2 ho hne
 have z0:=(za hrow (haul*3+2)).trans h2
 have hor:=ho
 obtain⟨hl,hor⟩:=hor
 rcases hor with ⟨q,_⟩|⟨pb,cap,pcur,hv,hgp,hhp,hn,hm,hsz,htk⟩
 ·injection q with _ q1 q2;omega
 injection hv with hpA _ hcap
 subst hpA hcap
 have hpg:pb≠g:=fun q=>hne (by rw[← q];rfl)
 obtain⟨pb',pcur',hpe,_,hhp',⟨old,hold⟩,hput⟩:=own_put (i:=good) (show W.ownsRow w.heap.size 3 1 (.slice (some ⟨pb,0,none⟩) h.prices.length pc) h.prices.length (h.prices.map (Value.int .i64)) from ho) (by omega) (.int .i64 p)
 cases hpe
 have f9:=za (zh e9 hgr) 0
 have f8:=za (zh e8 hgr) 0
 simp only[List.getElem?_toArray,List.getElem?_cons_zero] at f9 f8
 have hfr:=zk hhp' good
 have hfin:Changed W (W.setCell ⟨pb,good,none⟩ (.int .i64 p)).drew g haul (some ⟨pb,0,none⟩) cur { h with prices:=h.prices.set good p }:=by
  refine⟨?_,rfl,fun b hb _ hb2=>Below.heap_setCell _ _ _ _ fun q=>hb2 (by rw[q];rfl),cur,(Below.heap_setCell _ _ _ _ (Ne.symm hpg)).trans hrow,fun _ _ _ _=>rfl,h0,h1,some ⟨pb,0,none⟩,pc,by simpa using h2,?_⟩
  ·show W.heap.size≤(W.setCell _ _).heap.size
   rw[zu]
   exact Nat.le_refl _
  ·rw[← List.map_set] at hput
   have hO:L.OwnInts (W.setCell ⟨pb,good,none⟩ (.int .i64 p)) w.heap.size (some ⟨pb,0,none⟩) pc (h.prices.set good p):=by
    show World.ownsRow _ _ _ _ _ _ _
    rw[List.length_set]
    exact hput
   exact (ints_own hO).grown ((Grown.refl _).drewN 1)
 have HFIN:=Lib.hid hfin
 have gi:(good:Int)<h.prices.length:=by omega
 generalize h.prices.length=np at z0 gi
 have hS:W.drew.cell? ⟨g,haul*3+2,none⟩=some (.slice (some ⟨pb,0,none⟩) np pc)∧W.drew.cell? ⟨b9,0,none⟩=some (.int .i64 p)∧W.drew.cell? ⟨b8,0,none⟩=some (.int .i64 good):=⟨z0,f9,f8⟩
 have HO:=Lib.hid (And.intro hold hfr)
 clear hfin h0 h1 h2 hrow hsz hl hn hm hgp hgr hgw hput htk hhp hhp' e9 e8 ho hold hfr z0 f9 f8
 show Calls (Pf fs) 89 #[.pointer (some ⟨g,haul*3,none⟩),.pointer (some ⟨b9,0,none⟩),.pointer (some ⟨b8,0,none⟩)] W _
 go_enter LK.func89,Try.ntmps89
 go_wp2_with fail
 refine qg (by kernel_rfl) (fun W=>W.cell? ⟨g,haul*3+2,none⟩=some (.slice (some ⟨pb,0,none⟩) np pc)∧W.cell? ⟨b9,0,none⟩=some (.int .i64 p)∧W.cell? ⟨b8,0,none⟩=some (.int .i64 good)) [7] ?_
 refine zg 0 ?_ rfl ?_ ?_;case refine_2=>(intro w _;go_simp;try rfl)
 refine zg 1 ?_ rfl ?_ ?_;case refine_2=>(intro w _;go_simp;try rfl)
 refine zg 2 ?_ rfl ?_ ?_;case refine_2=>(intro w _;go_simp;try rfl)
 refine zz 3 ?_ rfl hS ?_ ?_;case refine_2=>(intro w hSw;(try dsimp only at hSw);go_simp;try rfl)
 refine zz 4 ?_ rfl hS ?_ ?_;case refine_2=>(intro w hSw;(try dsimp only at hSw);go_simp;try rfl)
 refine zz 5 ?_ rfl hS ?_ ?_;case refine_2=>(intro w hSw;(try dsimp only at hSw);go_simp;try rfl)
 refine zg 6 ?_ rfl ?_ ?_;case refine_2=>(intro w _;go_simp;try rfl)
 obtain⟨o1,o2⟩:=HO.out
 refine wpAnyL_late (i:=7) rfl (by kernel_rfl) (by rfl) ?_
 intro Kq hKq
 go_simp
 refine hKq.out _ _ ?_
 clear hKq Kq
 refine qf (by kernel_rfl) ?_
 try simp only[Act.put,List.getElem_toArray,List.getElem_cons_succ,List.getElem_cons_zero,List.setIfInBounds_toArray,List.set_cons_zero,List.set_cons_succ]
 go_wp2_with fail
 go_end0
 exact⟨rfl,HFIN.out⟩
set_option maxRecDepth 20000 in
set_option maxHeartbeats 4000000 in
theorem rise_bad (K:Kt) (gA dA:Option Addr) (hb ho gc dc hc:Nat) (xs:List Int) (mA:Option Addr) (mc:Nat) (haul good:Nat) (p:Int) (w:World) (k:KtAt w K gA dA (some ⟨hb,ho,none⟩)) (m:Ints w mA xs) (hlen:xs.length≤1000) (hA:qe K xs=0) (hh:haul<K.hauls.length) (hg:good<K.goods.length) (hp0 : 0≤p∧p≤50) (hn:noneB K xs=true) :
  Calls (Pf fs) 52 #[ktV K gA dA (some ⟨hb,ho,none⟩) gc dc hc,.slice mA xs.length mc,.int .i64 haul,.int .i64 good,.int .i64 p] w fun e w'=>e=.returned (.tuple #[.int .i64 0,.int .i64 0,.int .i64 11])∧Grown w w':=by
 obtain⟨hC,hR⟩:=askedE_zero hA
 have hpl:(hlAt K.hauls haul).prices.length=K.goods.length∧(hlAt K.hauls haul).prices.length≤1000:=by
  obtain⟨c1,c2,c3⟩:=zV hC
  obtain⟨h1,h2,h3⟩:=qd c3
  have:=(h3 _ (List.mem_of_getElem? (qn hh))).2.2.2.2.1
  have:=k.ng
  omega
 have hasked:=fun W (g:Grown w W)=>asked_any (fs:=fs) K gA dA (some ⟨hb,ho,none⟩) gc dc hc xs mA mc W (k.grown g) (m.grown g) hlen
 rw[hA] at hasked
 have hall:=fun W (g:Grown w W)=>all_bad (fs:=fs) K gA dA (some ⟨hb,ho,none⟩) gc dc hc xs mA mc W (k.grown g) (m.grown g) hC hR hn
 have hwith:∀ W b9 b8,Grown w W→W.heap[b9]?=some (.cells #[.int .i64 p] 3 (0,0))→W.heap[b8]?=some (.cells #[.int .i64 good] 3 (0,0))→Calls (Pf fs) 72 #[ktV K gA dA (some ⟨hb,ho,none⟩) gc dc hc,.int .i64 haul,.func (.func 89) #[] #[.pointer (some ⟨b9,0,none⟩),.pointer (some ⟨b8,0,none⟩)]] W fun e w'=>∃ g c',e=.returned (.agg #[.slice gA K.goods.length gc,.slice dA K.dishes.length dc,.slice (some ⟨g,0,none⟩) K.hauls.length c'])∧Grown W w'∧HlsAt w' (some ⟨g,0,none⟩) (riseK K haul good p).hauls:=fun W b9 b8 hg' h9 h8 =>
  with_any (fs:=fs) 89 _ (fun args wr=>LK.call89 args wr) K gA dA hb ho gc dc hc haul _ _ W (k.grown hg') (qn hh) (by omega) (by simpa using hpl.2) (n89_any b9 b8 p good W haul _ (by omega) hpl.2 h9 h8)
 have hall2:∀ W g c',Grown w W→HlsAt W (some ⟨g,0,none⟩) (riseK K haul good p).hauls→Calls (Pf fs) 74 #[.agg #[.slice gA K.goods.length gc,.slice dA K.dishes.length dc,.slice (some ⟨g,0,none⟩) K.hauls.length c'],.slice mA xs.length mc] W fun e w'=>∃ (v:Value) (b:Int) (t:Bool),e=.returned (.tuple #[v,.int .i64 b,.bool t])∧Grown W w':=fun W g c' hg' hl=>by
  have kk:KtAt W (riseK K haul good p) gA dA (some ⟨g,0,none⟩):=⟨(k.grown hg').goods,(k.grown hg').dishes,hl,k.ng,k.nd,by rw[riseK_len];exact k.nh⟩
  cases hq:noneB (riseK K haul good p) xs with
  | true =>
   have:=all_bad (fs:=fs) (riseK K haul good p) gA dA (some ⟨g,0,none⟩) gc dc c' xs mA mc W kk (m.grown hg') (riseK_valid hC hh hp0) (by rw[riseK_len];exact hR) hq
   unfold ktV at this
   rw[riseK_len] at this
   exact this.mono fun e w' ⟨e1,g1⟩=>⟨_,_,_,e1,g1⟩
  | false =>
   have:=all_good (fs:=fs) (riseK K haul good p) gA dA (some ⟨g,0,none⟩) gc dc c' xs mA mc W kk (m.grown hg') (riseK_valid hC hh hp0) (by rw[riseK_len];exact hR) hq
   unfold ktV at this
   rw[riseK_len] at this
   exact this.mono fun e w' ⟨M,e1,g1,_⟩=>⟨_,_,_,e1,g1⟩
 have hnh:=k.nh
 have hng:=k.ng
 have HC:=Lib.hid hasked
 have HAL:=Lib.hid hall
 have HWI:=Lib.hid hwith
 have HA2:=Lib.hid hall2
 obtain⟨V,hV⟩:∃ V,V=((w.alloc (.cells #[.slice gA K.goods.length gc,.slice dA K.dishes.length dc,.slice (some ⟨hb,ho,none⟩) K.hauls.length hc] 29)).alloc (.cells #[.int .i64 good] 3)).alloc (.cells #[.int .i64 p] 3):=⟨_,rfl⟩
 have v0:V.heap[w.heap.size]?=some (.cells #[.slice gA K.goods.length gc,.slice dA K.dishes.length dc,.slice (some ⟨hb,ho,none⟩) K.hauls.length hc] 29 (0,0)):=by rw[hV];exact zr (zr (heap_alloc_new w _) _) _
 have v1:V.heap[w.heap.size+1]?=some (.cells #[.int .i64 good] 3 (0,0)):=by
  rw[hV]
  refine zr ?_ _
  have:=heap_alloc_new (w.alloc (.cells #[.slice gA K.goods.length gc,.slice dA K.dishes.length dc,.slice (some ⟨hb,ho,none⟩) K.hauls.length hc] 29)) (.cells #[.int .i64 good] 3)
  simpa using this
 have v2:V.heap[w.heap.size+1+1]?=some (.cells #[.int .i64 p] 3 (0,0)):=by
  rw[hV]
  have:=heap_alloc_new ((w.alloc (.cells #[.slice gA K.goods.length gc,.slice dA K.dishes.length dc,.slice (some ⟨hb,ho,none⟩) K.hauls.length hc] 29)).alloc (.cells #[.int .i64 good] 3)) (.cells #[.int .i64 p] 3)
  simpa using this
 have vg:Grown w V:=by rw[hV];exact ((Grown.alloc _ _).trans (Grown.alloc _ _)).trans (Grown.alloc _ _)
 have hY:∀ W,Grown V W→W.cell? ⟨w.heap.size,0,none⟩=some (.slice gA K.goods.length gc)∧W.cell? ⟨w.heap.size,1,none⟩=some (.slice dA K.dishes.length dc)∧W.cell? ⟨w.heap.size,2,none⟩=some (.slice (some ⟨hb,ho,none⟩) K.hauls.length hc)∧W.cell? ⟨w.heap.size+1,0,none⟩=some (.int .i64 good)∧W.cell? ⟨w.heap.size+1+1,0,none⟩=some (.int .i64 p):=fun W g =>
  ⟨za (zh v0 g) 0,za (zh v0 g) 1,za (zh v0 g) 2,za (zh v1 g) 0,za (zh v2 g) 0⟩
 have HY:=Lib.hid hY
 have HVG:=Lib.hid vg
 have HVE:=Lib.hid hV
 have HV1:=Lib.hid v1
 have HV2:=Lib.hid v2
 have HO1:=Lib.hid (show outB (haul:Int) 0 ((K.hauls.length:Int)-1)=false by unfold outB;simp;omega)
 have HO2:=Lib.hid (show outB (good:Int) 0 ((K.goods.length:Int)-1)=false by unfold outB;simp;omega)
 have HO3:=Lib.hid (show outB p 0 50=false by unfold outB;simp;omega)
 have hw1:IntKind.i64.wrap ((K.hauls.length:Int)-1)=(K.hauls.length:Int)-1:=wrap_of rfl (by omega) (by omega)
 have hw2:IntKind.i64.wrap ((K.goods.length:Int)-1)=(K.goods.length:Int)-1:=wrap_of rfl (by omega) (by omega)
 clear k m hasked hall hwith hall2 hC hR hA hpl v0 v1 v2 vg hY hV
 unfold ktV at *
 go_enter LK.func52,Try.ntmps52
 go_wp2_with (first|(go_at_call 69;have hg0:=HVG.out;rw[HVE.out] at hg0;refine (HC.out _ hg0).mono ?_;rintro e w1 ⟨rfl,hg1⟩;rw[← HVE.out] at hg1;have hy:=HY.out w1 hg1;have HG1:=Lib.hid hg1;clear hg1 hg0)|(go_at_call 70;refine (out_any _ _ _ _).mono ?_;first|(rw[HO1.out];rintro e w2 ⟨rfl,rfl⟩)|(rw[HO2.out];rintro e w2 ⟨rfl,rfl⟩)|(rw[HO3.out];rintro e w2 ⟨rfl,rfl⟩))|(go_at_call 74;refine (HA2.out w4 g4 c4 (HVG.out.trans HG4.out) HL4.out).mono ?_;rintro e w5 ⟨v5,b5,t5,rfl,g5⟩;have HG5:=Lib.hid (HG4.out.trans g5);clear g5)|(go_at_call 74;refine (HAL.out _ (HVG.out.trans HG1.out)).mono ?_;rintro e w3 ⟨rfl,g3⟩;have HG3:=Lib.hid (HG1.out.trans g3);have hy3:=HY.out w3 HG3.out;clear g3 hy)|(go_at_call 72;refine (HWI.out w3 (w.heap.size+1+1) (w.heap.size+1) (HVG.out.trans HG3.out) (zh HV2.out HG3.out) (zh HV1.out HG3.out)).mono ?_;rintro e w4 ⟨g4,c4,rfl,hg4,hl4⟩;have HG4:=Lib.hid (HG3.out.trans hg4);have HL4:=Lib.hid hl4;clear hg4 hl4 hy3))
 refine bodyPost_ret (v:=.tuple #[.int .i64 0,.int .i64 0,.int .i64 11]) (by simp[results,Try.results52,go_sem]) rfl ⟨rfl,HVG.out.trans HG5.out⟩
set_option maxRecDepth 20000 in
set_option maxHeartbeats 4000000 in
theorem rise_good (K:Kt) (gA dA:Option Addr) (hb ho gc dc hc:Nat) (xs:List Int) (mA:Option Addr) (mc:Nat) (haul good:Nat) (p:Int) (w:World) (k:KtAt w K gA dA (some ⟨hb,ho,none⟩)) (m:Ints w mA xs) (hlen:xs.length≤1000) (hA:qe K xs=0) (hh:haul<K.hauls.length) (hg:good<K.goods.length) (hp0 : 0≤p∧p≤50) (hn:noneB K xs=false) (hn2:noneB (riseK K haul good p) xs=false) :
  Calls (Pf fs) 52 #[ktV K gA dA (some ⟨hb,ho,none⟩) gc dc hc,.slice mA xs.length mc,.int .i64 haul,.int .i64 good,.int .i64 p] w fun e w'=>e=.returned (.tuple #[.int .i64 (zR K xs),.int .i64 (zR (riseK K haul good p) xs),.int .i64 0])∧Grown w w':=by
 obtain⟨hC,hR⟩:=askedE_zero hA
 have hpl:(hlAt K.hauls haul).prices.length=K.goods.length∧(hlAt K.hauls haul).prices.length≤1000:=by
  obtain⟨c1,c2,c3⟩:=zV hC
  obtain⟨h1,h2,h3⟩:=qd c3
  have:=(h3 _ (List.mem_of_getElem? (qn hh))).2.2.2.2.1
  have:=k.ng
  omega
 have hasked:=fun W (g:Grown w W)=>asked_any (fs:=fs) K gA dA (some ⟨hb,ho,none⟩) gc dc hc xs mA mc W (k.grown g) (m.grown g) hlen
 rw[hA] at hasked
 have hall:=fun W (g:Grown w W)=>all_good (fs:=fs) K gA dA (some ⟨hb,ho,none⟩) gc dc hc xs mA mc W (k.grown g) (m.grown g) hC hR hn
 have hwith:∀ W b9 b8,Grown w W→W.heap[b9]?=some (.cells #[.int .i64 p] 3 (0,0))→W.heap[b8]?=some (.cells #[.int .i64 good] 3 (0,0))→Calls (Pf fs) 72 #[ktV K gA dA (some ⟨hb,ho,none⟩) gc dc hc,.int .i64 haul,.func (.func 89) #[] #[.pointer (some ⟨b9,0,none⟩),.pointer (some ⟨b8,0,none⟩)]] W fun e w'=>∃ g c',e=.returned (.agg #[.slice gA K.goods.length gc,.slice dA K.dishes.length dc,.slice (some ⟨g,0,none⟩) K.hauls.length c'])∧Grown W w'∧HlsAt w' (some ⟨g,0,none⟩) (riseK K haul good p).hauls:=fun W b9 b8 hg' h9 h8 =>
  with_any (fs:=fs) 89 _ (fun args wr=>LK.call89 args wr) K gA dA hb ho gc dc hc haul _ _ W (k.grown hg') (qn hh) (by omega) (by simpa using hpl.2) (n89_any b9 b8 p good W haul _ (by omega) hpl.2 h9 h8)
 have hall2:∀ W g c',Grown w W→HlsAt W (some ⟨g,0,none⟩) (riseK K haul good p).hauls→Calls (Pf fs) 74 #[.agg #[.slice gA K.goods.length gc,.slice dA K.dishes.length dc,.slice (some ⟨g,0,none⟩) K.hauls.length c'],.slice mA xs.length mc] W fun e w'=>∃ (v:Value) (b:Int) (t:Bool),e=.returned (.tuple #[v,.int .i64 b,.bool t])∧Grown W w'∧b=zR (riseK K haul good p) xs∧t=true:=fun W g c' hg' hl=>by
  have kk:KtAt W (riseK K haul good p) gA dA (some ⟨g,0,none⟩):=⟨(k.grown hg').goods,(k.grown hg').dishes,hl,k.ng,k.nd,by rw[riseK_len];exact k.nh⟩
  have:=all_good (fs:=fs) (riseK K haul good p) gA dA (some ⟨g,0,none⟩) gc dc c' xs mA mc W kk (m.grown hg') (riseK_valid hC hh hp0) (by rw[riseK_len];exact hR) hn2
  unfold ktV at this
  rw[riseK_len] at this
  exact this.mono fun e w' ⟨M,e1,g1,_⟩=>⟨_,_,_,e1,g1,rfl,rfl⟩
 have hnh:=k.nh
 have hng:=k.ng
 have HC:=Lib.hid hasked
 have HAL:=Lib.hid hall
 have HWI:=Lib.hid hwith
 have HA2:=Lib.hid hall2
 obtain⟨V,hV⟩:∃ V,V=((w.alloc (.cells #[.slice gA K.goods.length gc,.slice dA K.dishes.length dc,.slice (some ⟨hb,ho,none⟩) K.hauls.length hc] 29)).alloc (.cells #[.int .i64 good] 3)).alloc (.cells #[.int .i64 p] 3):=⟨_,rfl⟩
 have v0:V.heap[w.heap.size]?=some (.cells #[.slice gA K.goods.length gc,.slice dA K.dishes.length dc,.slice (some ⟨hb,ho,none⟩) K.hauls.length hc] 29 (0,0)):=by rw[hV];exact zr (zr (heap_alloc_new w _) _) _
 have v1:V.heap[w.heap.size+1]?=some (.cells #[.int .i64 good] 3 (0,0)):=by
  rw[hV]
  refine zr ?_ _
  have:=heap_alloc_new (w.alloc (.cells #[.slice gA K.goods.length gc,.slice dA K.dishes.length dc,.slice (some ⟨hb,ho,none⟩) K.hauls.length hc] 29)) (.cells #[.int .i64 good] 3)
  simpa using this
 have v2:V.heap[w.heap.size+1+1]?=some (.cells #[.int .i64 p] 3 (0,0)):=by
  rw[hV]
  have:=heap_alloc_new ((w.alloc (.cells #[.slice gA K.goods.length gc,.slice dA K.dishes.length dc,.slice (some ⟨hb,ho,none⟩) K.hauls.length hc] 29)).alloc (.cells #[.int .i64 good] 3)) (.cells #[.int .i64 p] 3)
  simpa using this
 have vg:Grown w V:=by rw[hV];exact ((Grown.alloc _ _).trans (Grown.alloc _ _)).trans (Grown.alloc _ _)
 have hY:∀ W,Grown V W→W.cell? ⟨w.heap.size,0,none⟩=some (.slice gA K.goods.length gc)∧W.cell? ⟨w.heap.size,1,none⟩=some (.slice dA K.dishes.length dc)∧W.cell? ⟨w.heap.size,2,none⟩=some (.slice (some ⟨hb,ho,none⟩) K.hauls.length hc)∧W.cell? ⟨w.heap.size+1,0,none⟩=some (.int .i64 good)∧W.cell? ⟨w.heap.size+1+1,0,none⟩=some (.int .i64 p):=fun W g =>
  ⟨za (zh v0 g) 0,za (zh v0 g) 1,za (zh v0 g) 2,za (zh v1 g) 0,za (zh v2 g) 0⟩
 have HY:=Lib.hid hY
 have HVG:=Lib.hid vg
 have HVE:=Lib.hid hV
 have HV1:=Lib.hid v1
 have HV2:=Lib.hid v2
 have HO1:=Lib.hid (show outB (haul:Int) 0 ((K.hauls.length:Int)-1)=false by unfold outB;simp;omega)
 have HO2:=Lib.hid (show outB (good:Int) 0 ((K.goods.length:Int)-1)=false by unfold outB;simp;omega)
 have HO3:=Lib.hid (show outB p 0 50=false by unfold outB;simp;omega)
 have hw1:IntKind.i64.wrap ((K.hauls.length:Int)-1)=(K.hauls.length:Int)-1:=wrap_of rfl (by omega) (by omega)
 have hw2:IntKind.i64.wrap ((K.goods.length:Int)-1)=(K.goods.length:Int)-1:=wrap_of rfl (by omega) (by omega)
 clear k m hasked hall hwith hall2 hC hR hA hpl v0 v1 v2 vg hY hV
 unfold ktV at *
 go_enter LK.func52,Try.ntmps52
 go_wp2_with (first|(go_at_call 69;have hg0:=HVG.out;rw[HVE.out] at hg0;refine (HC.out _ hg0).mono ?_;rintro e w1 ⟨rfl,hg1⟩;rw[← HVE.out] at hg1;have hy:=HY.out w1 hg1;have HG1:=Lib.hid hg1;clear hg1 hg0)|(go_at_call 70;refine (out_any _ _ _ _).mono ?_;first|(rw[HO1.out];rintro e w2 ⟨rfl,rfl⟩)|(rw[HO2.out];rintro e w2 ⟨rfl,rfl⟩)|(rw[HO3.out];rintro e w2 ⟨rfl,rfl⟩))|(go_at_call 74;refine (HA2.out w4 g4 c4 (HVG.out.trans HG4.out) HL4.out).mono ?_;rintro e w5 ⟨v5,b5,t5,rfl,g5,rfl,rfl⟩;have HG5:=Lib.hid (HG4.out.trans g5);clear g5)|(go_at_call 74;refine (HAL.out _ (HVG.out.trans HG1.out)).mono ?_;rintro e w3 ⟨M,rfl,g3,_⟩;have HG3:=Lib.hid (HG1.out.trans g3);have hy3:=HY.out w3 HG3.out;clear g3 hy)|(go_at_call 72;refine (HWI.out w3 (w.heap.size+1+1) (w.heap.size+1) (HVG.out.trans HG3.out) (zh HV2.out HG3.out) (zh HV1.out HG3.out)).mono ?_;rintro e w4 ⟨g4,c4,rfl,hg4,hl4⟩;have HG4:=Lib.hid (HG3.out.trans hg4);have HL4:=Lib.hid hl4;clear hg4 hl4 hy3))
 refine bodyPost_ret (v:=.tuple #[.int .i64 (zR K xs),.int .i64 (zR (riseK K haul good p) xs),.int .i64 0]) (by simp[results,Try.results52,go_sem]) rfl ⟨rfl,HVG.out.trans HG5.out⟩
end
end
section
theorem planFrom_other {D D':Good1} (e1:D'.room=D.room) (e2:D'.reserve=D.reserve) (e3:D'.melts=D.melts):∀ (hs:List Haul1) (t:Nat),zv D' hs t=zv D hs t
 | [],_=>rfl
 | h::hs,t=>by
  have ha:∀ x,after D' h x=after D h x:=fun x=>by unfold after;rw[e3]
  have ht:tries D' h t=tries D h t:=by unfold tries;rw[e1]
  have key:∀ k,zy D' h hs t k=zy D h hs t k:=by
   intro k
   induction k with
   | zero=>simp[bestTo_zero]
   | succ k ih =>
    rw[bestTo_succ,bestTo_succ,ih]
    unfold tryN
    rw[ha,e2,planFrom_other e1 e2 e3 hs]
  rw[← bestTo_all,← bestTo_all,ht,key]
def zW (K:Kt) (k:Nat):Kt:={ K with hauls:=K.hauls.map fun h=>{ h with prices:=h.prices.map fun p=>(k:Int)*p } }
theorem getD_times {l:List Int} {g k:Nat} : (l.map fun p=>(k:Int)*p).getD g 0=(k:Int)*l.getD g 0:=by
 rw[List.getD_eq_getElem?_getD,List.getD_eq_getElem?_getD,List.getElem?_map]
 cases l[g]?<;>simp
theorem times_hauls {K:Kt} {xs:List Int} {k g:Nat} (hC:zF K=0) (hg:g<K.goods.length):(oneG (zW K k) xs g).hauls=(oneG K xs g).hauls.map (timesH k):=by
 obtain⟨_,_,c3⟩:=zV hC
 obtain⟨_,_,h3⟩:=qd c3
 unfold oneG goodOf
 simp only[zW,List.zip_map_left,List.map_map]
 refine List.map_congr_left fun p hp=>?_
 obtain⟨h,d⟩:=p
 obtain⟨_,_,_,_,e,f⟩:=h3 h (List.of_mem_zip hp).1
 have h0:=f _ (List.mem_of_getElem? (getD_of (l:=h.prices) (g:=g) (by omega)))
 simp only[Function.comp,Prod.map,id,haulOf,timesH]
 congr 1
 rw[getD_times]
 obtain⟨q,hq⟩:∃ q:Nat,h.prices.getD g 0=q:=⟨(h.prices.getD g 0).toNat,by omega⟩
 rw[hq,← Int.natCast_mul]
 rfl
theorem times_plan {K:Kt} {xs:List Int} {k g:Nat} (hC:zF K=0) (hk : 0<k) (hg:g<K.goods.length):zf (oneG (zW K k) xs g)=((zf (oneG K xs g)).1,k*(zf (oneG K xs g)).2.1,(zf (oneG K xs g)).2.2):=by
 unfold zf
 rw[times_hauls hC hg,planFrom_other (D':=oneG (zW K k) xs g) (D:=oneG K xs g) rfl rfl rfl]
 exact planFrom_times _ hk _ _
theorem fine_times {K:Kt} {xs:List Int} {k:Nat} (hC:zF K=0) (hk : 0<k):noneB (zW K k) xs=noneB K xs:=by
 have h1:=fineTo_all (K:=K) (xs:=xs)
 have h2:=fineTo_all (K:=zW K k) (xs:=xs)
 have key:∀ n,n≤K.goods.length→fineTo (zW K k) xs n=fineTo K xs n:=by
  intro n
  induction n with
  | zero=>intro _;rfl
  | succ n ih =>
   intro hn
   show (_&&_)=(_&&_)
   rw[ih (by omega),times_plan hC hk (by omega)]
 rw[show (zW K k).goods=K.goods from rfl,key _ (Nat.le_refl _),h1] at h2
 cases q1:noneB K xs<;>cases q2:noneB (zW K k) xs<;>simp_all
theorem cost_times {K:Kt} {xs:List Int} {k:Nat} (hC:zF K=0) (hk : 0<k) (hn:noneB K xs=false):zR (zW K k) xs=k*zR K xs:=by
 rw[← sumTo_full hn,← sumTo_full (K:=zW K k) (by rw[fine_times hC hk];exact hn)]
 show sumTo (zW K k) xs K.goods.length=_
 have key:∀ n,n≤K.goods.length→sumTo (zW K k) xs n=k*sumTo K xs n:=by
  intro n
  induction n with
  | zero=>intro _;rfl
  | succ n ih =>
   intro hn'
   show _+_=k*(_+_)
   rw[ih (by omega),times_plan hC hk (by omega),Nat.mul_add]
   congr 1
   simp only
   split
   ·simp
   ·rfl
 exact key _ (Nat.le_refl _)
theorem rows_times {K:Kt} {xs:List Int} {k:Nat} (hC:zF K=0) (hk : 0<k):rowsOf (zW K k) xs=rowsOf K xs:=by
 apply List.ext_getElem?
 intro h
 rcases Nat.lt_or_ge h K.hauls.length with q|q
 ·rw[rowsOf_at q,rowsOf_at (K:=zW K k) (by simpa[zW] using q)]
  congr 1
  apply List.ext_getElem?
  intro g
  rcases Nat.lt_or_ge g K.goods.length with r|r
  ·rw[rowsOf_cell r,rowsOf_cell (K:=zW K k) r]
   unfold ldAt
   rw[times_plan hC hk r]
  ·rw[List.getElem?_eq_none (by simp[dsOf_len];exact r),List.getElem?_eq_none (by simp[dsOf_len];exact r)]
 ·rw[List.getElem?_eq_none (by rw[rowsOf_len];simpa[zW] using q),List.getElem?_eq_none (by rw[rowsOf_len];exact q)]
section
variable {K:Kt} {xs:List Int} {h g:Nat} {p:Int}
theorem rise_other {i:Nat} (hne:i≠g) (hA:qe K xs=0) (hh:h<K.hauls.length):oneG (riseK K h g p) xs i=oneG K xs i:=by
 have hx:=List.getElem?_eq_getElem (show h<xs.length by rw[asked_len hA];exact hh)
 unfold oneG goodOf
 show Good1.mk _ _ _ _ (((K.hauls.set h _).zip xs).map _)=Good1.mk _ _ _ _ _
 congr 1
 rw[zip_set (f:=fun p=>haulOf (riseK K h g _) i p.1 p.2) hx]
 apply List.ext_getElem?
 intro j
 by_cases hj:j=h
 ·subst hj
  have hz:(K.hauls.zip xs)[j]?=some (hlAt K.hauls j,xs[j]'(by rw[asked_len hA];exact hh)):=List.getElem?_zip_eq_some.2 ⟨qn hh,hx⟩
  rw[List.getElem?_set_self (by have:=asked_len hA;simp;omega),List.getElem?_map,hz]
  simp only[Option.map_some,Option.some.injEq,haulOf,riseK]
  congr 1
  rw[List.getD_eq_getElem?_getD,List.getD_eq_getElem?_getD,List.getElem?_set_ne (Ne.symm hne)]
 ·rw[List.getElem?_set_ne (Ne.symm hj)]
  rfl
theorem rise_same (hA:qe K xs=0) (hh:h<K.hauls.length) (hg:g<K.goods.length):(oneG (riseK K h g p) xs g).hauls=(oneG K xs g).hauls.set h { haulOf K g (hlAt K.hauls h) (xs.getD h 0) with price:=p.toNat }:=by
 have hx:=List.getElem?_eq_getElem (show h<xs.length by rw[asked_len hA];exact hh)
 obtain⟨_,_,c3⟩:=zV (askedE_zero hA).1
 obtain⟨_,_,h3⟩:=qd c3
 have hl:=(h3 _ (List.mem_of_getElem? (qn hh))).2.2.2.2.1
 unfold oneG goodOf
 show ((K.hauls.set h _).zip xs).map _=_
 rw[zip_set (f:=fun p=>haulOf (riseK K h g _) g p.1 p.2) hx]
 have e2:xs.getD h 0=xs[h]'(by rw[asked_len hA];exact hh):=by rw[List.getD_eq_getElem?_getD,hx];rfl
 rw[e2]
 congr 1
 unfold haulOf
 simp only[riseK]
 congr 1
 rw[List.getD_eq_getElem?_getD,List.getElem?_set_self (by omega)]
 rfl
theorem rise_law {d:Nat} (hA:qe K xs=0) (hn:noneB K xs=false) (hh:h<K.hauls.length) (hg:g<K.goods.length) (hp : 1≤(hlAt K.hauls h).prices.getD g 0) (hd:p=(hlAt K.hauls h).prices.getD g 0+d) :
  noneB (riseK K h g p) xs=false∧zR K xs≤zR (riseK K h g p) xs∧((zR (riseK K h g p) xs:Nat):Int)-zR K xs≤d*ldAt h (oneG K xs g):=by
 have hxl:=asked_len hA
 have hfn:∀ i,i<K.goods.length→(zf (oneG K xs i)).2.2=false:=fun i hi=>fineTo_iff.1 (show fineTo K xs K.goods.length=true by rw[fineTo_all,hn];rfl) i hi
 have hx:=List.getElem?_eq_getElem (show h<xs.length by omega)
 have hH:(oneG K xs g).hauls[h]?=some (haulOf K g (hlAt K.hauls h) (xs.getD h 0)):=by
  unfold oneG goodOf
  have hz:(K.hauls.zip xs)[h]?=some (hlAt K.hauls h,xs[h]'(by omega)):=List.getElem?_zip_eq_some.2 ⟨qn hh,hx⟩
  simp only[List.getElem?_map,hz,Option.map_some]
  rw[List.getD_eq_getElem?_getD,hx]
  rfl
 have hpr:({ haulOf K g (hlAt K.hauls h) (xs.getD h 0) with price:=p.toNat } : Haul1).price=(haulOf K g (hlAt K.hauls h) (xs.getD h 0)).price+d:=by
  show p.toNat=((hlAt K.hauls h).prices.getD g 0).toNat+d
  omega
 have hs:=rise_same (p:=p) hA hh hg
 have hf:=planFrom_fits _ _ _ (hfn g hg)
 have hf1:Fits (oneG K xs g) ((oneG K xs g).hauls.set h { haulOf K g (hlAt K.hauls h) (xs.getD h 0) with price:=p.toNat }) (oneG K xs g).start (zv (oneG K xs g) (oneG K xs g).hauls (oneG K xs g).start).1:=by
  refine hf.prices (by simp) fun j a a' h1 h2=>?_
  by_cases hj:j=h
  ·subst hj
   rw[hH] at h1
   cases h1
   rw[List.getElem?_set_self (List.getElem?_eq_some_iff.1 hH).1] at h2
   cases h2
   refine⟨rfl,rfl,rfl,fun q=>?_⟩
   rw[hpr] at q
   omega
  ·rw[List.getElem?_set_ne (Ne.symm hj),h1] at h2
   cases h2
   exact⟨rfl,rfl,rfl,fun q=>q⟩
 obtain⟨m1,m2⟩:=planFrom_min _ hf1
 have e1:zf (oneG (riseK K h g p) xs g)=zv (oneG K xs g) ((oneG K xs g).hauls.set h { haulOf K g (hlAt K.hauls h) (xs.getD h 0) with price:=p.toNat }) (oneG K xs g).start:=by
  unfold zf
  rw[hs]
  exact planFrom_other (D:=oneG K xs g) (D':=oneG (riseK K h g p) xs g) rfl rfl rfl _ _
 have hlt:h<(zv (oneG K xs g) (oneG K xs g).hauls (oneG K xs g).start).1.length:=by
  rw[fits_len hf]
  exact (List.getElem?_eq_some_iff.1 hH).1
 have hq:=List.getElem?_eq_getElem hlt
 have hc:=costL_set (hs:=(oneG K xs g).hauls) hH hq hpr
 have hcl:=planFrom_costL _ _ _ (hfn g hg)
 have hld:ldAt h (oneG K xs g)=(((zv (oneG K xs g) (oneG K xs g).hauls (oneG K xs g).start).1[h]'hlt:Nat):Int):=by
  unfold ldAt zf
  rw[List.getD_eq_getElem?_getD,hq]
  rfl
 have hup:(zf (oneG (riseK K h g p) xs g)).2.1≤(zf (oneG K xs g)).2.1+(zv (oneG K xs g) (oneG K xs g).hauls (oneG K xs g).start).1[h]'hlt*d:=by
  rw[e1]
  refine Nat.le_trans m2 ?_
  rw[hc]
  unfold zf
  rw[hcl]
  exact Nat.le_refl _
 have hf2:=planFrom_fits _ _ _ m1
 have hdn:(zf (oneG K xs g)).2.1≤(zf (oneG (riseK K h g p) xs g)).2.1:=by
  rw[e1,planFrom_costL _ _ _ m1]
  have hf3:Fits (oneG K xs g) (oneG K xs g).hauls (oneG K xs g).start (zv (oneG K xs g) ((oneG K xs g).hauls.set h { haulOf K g (hlAt K.hauls h) (xs.getD h 0) with price:=p.toNat }) (oneG K xs g).start).1:=by
   refine hf2.prices (by simp) fun j a a' h1 h2=>?_
   by_cases hj:j=h
   ·subst hj
    rw[List.getElem?_set_self (List.getElem?_eq_some_iff.1 hH).1] at h1
    cases h1
    rw[hH] at h2
    cases h2
    refine⟨rfl,rfl,rfl,fun q=>?_⟩
    have:(haulOf K g (hlAt K.hauls j) (xs.getD j 0)).price=((hlAt K.hauls j).prices.getD g 0).toNat:=rfl
    omega
   ·rw[List.getElem?_set_ne (Ne.symm hj),h2] at h1
    cases h1
    exact⟨rfl,rfl,rfl,fun q=>q⟩
  refine Nat.le_trans (planFrom_min _ hf3).2 ?_
  have hlt2:h<(zv (oneG K xs g) ((oneG K xs g).hauls.set h { haulOf K g (hlAt K.hauls h) (xs.getD h 0) with price:=p.toNat }) (oneG K xs g).start).1.length:=by
   rw[fits_len hf3]
   exact (List.getElem?_eq_some_iff.1 hH).1
  rw[costL_set hH (List.getElem?_eq_getElem hlt2) hpr]
  exact Nat.le_add_right _ _
 have hg2:(zf (oneG (riseK K h g p) xs g)).2.2=false:=by rw[e1];exact m1
 have hft:fineTo (riseK K h g p) xs K.goods.length=true:=fineTo_iff.2 fun i hi=>by
  by_cases hig:i=g
  ·subst hig;exact hg2
  ·rw[rise_other hig hA hh];exact hfn i hi
 have hn2:noneB (riseK K h g p) xs=false:=by
  have:=fineTo_all (K:=riseK K h g p) (xs:=xs)
  rw[show (riseK K h g p).goods=K.goods from rfl,hft] at this
  cases q:noneB (riseK K h g p) xs with
  | false=>rfl
  | true=>rw[q] at this;cases this
 have key:∀ n,n≤K.goods.length→sumTo (riseK K h g p) xs n+(if g<n then (zf (oneG K xs g)).2.1 else 0)=sumTo K xs n+(if g<n then (zf (oneG (riseK K h g p) xs g)).2.1 else 0):=by
  intro n
  induction n with
  | zero=>intro _;simp[sumTo]
  | succ n ih =>
   intro hn'
   have:=ih (by omega)
   have s1:sumTo (riseK K h g p) xs (n+1)=sumTo (riseK K h g p) xs n+(zf (oneG (riseK K h g p) xs n)).2.1:=by
    show _+_=_
    rw[if_neg]
    by_cases hig:n=g
    ·subst hig;simp[hg2]
    ·rw[rise_other hig hA hh];simp[hfn n (by omega)]
   have s2:sumTo K xs (n+1)=sumTo K xs n+(zf (oneG K xs n)).2.1:=by
    show _+_=_
    rw[if_neg (by simp[hfn n (by omega)])]
   rw[s1,s2]
   by_cases hig:n=g
   ·subst hig
    rw[if_neg (by omega),if_neg (by omega)] at this
    rw[if_pos (by omega),if_pos (by omega)]
    omega
   ·rw[rise_other hig hA hh]
    by_cases hgn:g<n
    ·rw[if_pos hgn,if_pos hgn] at this
     rw[if_pos (by omega),if_pos (by omega)]
     omega
    ·rw[if_neg hgn,if_neg hgn] at this
     rw[if_neg (by omega),if_neg (by omega)]
     omega
 have hk:=key K.goods.length (Nat.le_refl _)
 rw[if_pos hg,if_pos hg,sumTo_full hn] at hk
 have hk2:sumTo (riseK K h g p) xs K.goods.length=zR (riseK K h g p) xs:=sumTo_full (K:=riseK K h g p) hn2
 rw[hk2] at hk
 refine⟨hn2,by omega,?_⟩
 rw[hld]
 have:(d:Int)*(((zv (oneG K xs g) (oneG K xs g).hauls (oneG K xs g).start).1[h]'hlt:Nat):Int)=(((zv (oneG K xs g) (oneG K xs g).hauls (oneG K xs g).start).1[h]'hlt*d:Nat):Int):=by rw[Int.natCast_mul,Int.mul_comm]
 rw[this]
 omega
end
end
end Go.Gal
