/- Walks: first (the first hauls of a kitchen, a menu and loads). Walks: Uses. Walks: Melted. Plain: what has melted, good by good; what GalleyAccounted asks. Walks: shaped; plain: the .. -/
import Derived.Test.YtlgiofglcgbjgaaM40
import Derived.Lib.SliceRun
import Derived.Deep.Upon
import Derived.Deep.MidRow
namespace Go.Gal
open Go Go.Par Go.Proofs Go.RowKit
section
theorem wrap_of {x v:Int} (h:v=x) (h1 : -1000000≤v) (h2:v≤1000000):IntKind.i64.wrap x=v:=by
 subst h
 rw[IntKind.wrap_i64]
 omega
theorem wrap_quo {a b:Nat} (ha:a≤1000000):wrap64 ((a:Int) / (b:Int))=((a / b:Nat):Int):=by
 have h:a / b≤a:=Nat.div_le_self _ _
 rw[← Int.natCast_ediv]
 generalize a / b=q at h ⊢
 rw[IntWalk.wrap64_in _ (by omega)]
section
variable {fs:Array Func} [LikeS fs]
variable (K:Kt) (gA dA hA:Option Addr) (gc dc hc:Nat) (xs:List Int) (mA:Option Addr) (mc:Nat) (ls:List (List Int)) (lA:Option Addr) (lc:Nat) (w:World) (k:KtAt w K gA dA hA) (m:Ints w mA xs) (hlen:xs.length≤1000) (hl:DishesAt w lA ls) (hll:ls.length≤1000) (hG:zS K xs ls=0)
include k m hlen hl hll hG
theorem runs_stop {h i:Nat} {er:Int} (hs:(runK K xs ls).stop=some (h,i,er)) :
  Calls (Pf fs) 24 #[ktV K gA dA hA gc dc hc,.slice mA xs.length mc,.slice lA ls.length lc] w fun e w'=>e=.returned (.tuple #[.slice none 0 0,.int .i64 er])∧Grown w w':=
 (runs_any (fs:=fs) K gA dA hA gc dc hc xs mA mc ls lA lc w k m hlen hl hll).mono fun e w' ⟨v,e1,g1,ho⟩=>by
  rcases ho with hne|⟨_,_,_,_,hne⟩|⟨_,_,_,hne,_⟩
  ·exact absurd hG hne
  ·cases hs.symm.trans hne
   exact⟨e1,g1⟩
  ·exact absurd (hs.symm.trans hne) (by simp)
theorem runs_none (hs:(runK K xs ls).stop=none) :
  Calls (Pf fs) 24 #[ktV K gA dA hA gc dc hc,.slice mA xs.length mc,.slice lA ls.length lc] w fun e w'=>∃ M c,e=.returned (.tuple #[.slice M (runK K xs ls).left.length c,.int .i64 0])∧Grown w w'∧DishesAt w' M (runK K xs ls).left:=
 (runs_any (fs:=fs) K gA dA hA gc dc hc xs mA mc ls lA lc w k m hlen hl hll).mono fun e w' ⟨v,e1,g1,ho⟩=>by
  rcases ho with hne|⟨_,_,_,_,hne⟩|⟨M,c,_,_,hd⟩
  ·exact absurd hG hne
  ·exact absurd (hs.symm.trans hne) (by simp)
  ·exact⟨M,c,e1,g1,hd⟩
end
section
variable {fs:Array Func} [Like fs]
end
section
variable {fs:Array Func} [LikeS fs]
end
def behindN:Nat→Code→Code
 | 0,c=>c
 | n+1,.seq _ b=>behindN n b
 | _,c=>c
end
section
def usesRow (K:Kt) (xs:List Int) (h n:Nat):List Int:=(List.range n).map fun i=>((usN (dsOf K xs) h i:Nat):Int)
def usesL (K:Kt) (xs:List Int) (n:Nat):List (List Int):=(List.range n).map fun h=>usesRow K xs h K.goods.length
theorem usesRow_len (K:Kt) (xs:List Int) (h n:Nat):(usesRow K xs h n).length=n:=by simp[usesRow]
theorem usesL_len (K:Kt) (xs:List Int) (n:Nat):(usesL K xs n).length=n:=by simp[usesL]
theorem usesRow_succ (K:Kt) (xs:List Int) (h n:Nat):usesRow K xs h (n+1)=usesRow K xs h n++[((usN (dsOf K xs) h n:Nat):Int)]:=by simp[usesRow,List.range_succ]
theorem usesL_succ (K:Kt) (xs:List Int) (n:Nat):usesL K xs (n+1)=usesL K xs n++[usesRow K xs n K.goods.length]:=by simp[usesL,List.range_succ]
structure USt (V W:World) (tp:Nat) (ls:List (List Int)) (A:Option Addr) (c:Nat):Prop where
 row:LdList W V.heap.size tp A c ls
 gr:Grown V W
 top:tp≤W.heap.size
theorem USt.to {V W W2:World} {tp:Nat} {ls:List (List Int)} {A:Option Addr} {c:Nat} (h:USt V W tp ls A c) (k:Grown W W2):USt V W2 tp ls A c:=⟨h.row.grown k,h.gr.trans k,Nat.le_trans h.top k.size⟩
section
variable {fs:Array Func} [LikeS fs]
theorem uses_at (K:Kt) (gA dA hA:Option Addr) (gc dc hc:Nat) (xs:List Int) (mA:Option Addr) (mc:Nat) (h i:Nat) (w:World) (k:KtAt w K gA dA hA) (m:Ints w mA xs) (hA':qe K xs=0) (hh:h<K.hauls.length) (hi:i<K.goods.length) :
  Calls (Pf fs) 75 #[ktV K gA dA hA gc dc hc,.slice mA xs.length mc,.int .i64 h,.int .i64 i] w fun e w'=>e=.returned (.int .i64 (usN (dsOf K xs) h i))∧Grown w w':=by
 obtain⟨hC,hR⟩:=askedE_zero hA'
 obtain⟨A,eA,eM,hkit⟩:=kitAt_of gc dc hc mc k m hC hR
 have hxl:xs.length=K.hauls.length:=by
  unfold qf at hR
  split at hR
  ·rename_i q;exact absurd hR q
  ·rename_i q
   have:=manyE_zero (Decidable.not_not.1 q)
   omega
 have enh:A.nh=K.hauls.length:=by
  unfold Kit1.k Kit1.hs ktV at eA
  injection eA with eA
  injection eA with eA
  injection eA with e1 e2
  injection e2 with e2 e3
  injection e3 with e3 e4
  injection e3
 have enm:A.nm=xs.length:=by
  unfold Kit1.m at eM
  injection eM
 have kk:=hkit i _ (gdAt_get hi)
 have hl:(goodOf K xs i (gdAt K.goods i)).hauls[h]?=some (hlG (goodOf K xs i (gdAt K.goods i)) h):=by
  unfold hlG
  rw[List.getD_eq_getElem?_getD,List.getElem?_eq_getElem (by rw[goodOf_len K xs i _ hxl];exact hh)]
  rfl
 have hu:=uses_any (fs:=fs) w (kk.hauls h _ hl) (by omega) (by omega)
 rw[eA,eM] at hu
 refine hu.mono fun e w' ⟨e1,b⟩=>⟨?_,⟨b.size,b.block,b.os⟩⟩
 rw[e1]
 unfold usN
 rw[atG_dsOf hi]
 have eg:K.goods[i]=gdAt K.goods i:=by
  have:=gdAt_get hi
  rw[List.getElem?_eq_getElem hi] at this
  injection this
 rw[eg]
 rfl
set_option maxRecDepth 20000 in
set_option maxHeartbeats 4000000 in
theorem usesAll_any (K:Kt) (gA dA hA:Option Addr) (gc dc hc:Nat) (xs:List Int) (mA:Option Addr) (mc:Nat) (w:World) (k:KtAt w K gA dA hA) (m:Ints w mA xs) (hlen:xs.length≤1000) (hA':qe K xs=0) :
  Calls (Pf fs) 34 #[ktV K gA dA hA gc dc hc,.slice mA xs.length mc] w fun e w'=>∃ A c,e=.returned (.tuple #[.slice A K.hauls.length c,.int .i64 0])∧Grown w w'∧DishesAt w' A (usesL K xs K.hauls.length):=by
 have hasked:=fun W (g:Grown w W)=>asked_any (fs:=fs) K gA dA hA gc dc hc xs mA mc W (k.grown g) (m.grown g) hlen
 rw[hA'] at hasked
 have huse:=fun W h i (g:Grown w W) (hh:h<K.hauls.length) (hi:i<K.goods.length)=>uses_at (fs:=fs) K gA dA hA gc dc hc xs mA mc h i W (k.grown g) (m.grown g) hA' hh hi
 have hnh:=k.nh
 have hng:=k.ng
 have HC:=Lib.hid hasked
 have HU:=Lib.hid huse
 obtain⟨V,hV⟩:∃ V,V=w.alloc (.cells #[.slice gA K.goods.length gc,.slice dA K.dishes.length dc,.slice hA K.hauls.length hc] 29):=⟨_,rfl⟩
 have v0:V.heap[w.heap.size]?=some (.cells #[.slice gA K.goods.length gc,.slice dA K.dishes.length dc,.slice hA K.hauls.length hc] 29 (0,0)):=by rw[hV];exact heap_alloc_new w _
 have vg:Grown w V:=by rw[hV];exact Grown.alloc _ _
 have HY:=Lib.hid (show ∀ W,Grown V W→W.cell? ⟨w.heap.size,0,none⟩=some (.slice gA K.goods.length gc)∧W.cell? ⟨w.heap.size,1,none⟩=some (.slice dA K.dishes.length dc)∧W.cell? ⟨w.heap.size,2,none⟩=some (.slice hA K.hauls.length hc) from fun W g =>
  ⟨za (zg v0 g) 0,za (zg v0 g) 1,za (zg v0 g) 2⟩)
 have HVG:=Lib.hid vg
 have HVE:=Lib.hid hV
 clear k m hasked huse v0 vg hV hA'
 unfold ktV at *
 go_enter LK.func34,Try.ntmps34
 go_upto_region 4 with (go_at_call 69;have hg0:=HVG.out;rw[HVE.out] at hg0;refine (HC.out _ hg0).mono ?_;rintro e w1 ⟨rfl,hg1⟩;rw[← HVE.out] at hg1;have HG1:=Lib.hid hg1;clear hg1 hg0)
 obtain⟨y0,y1,y2⟩:=HY.out w1 HG1.out
 go_wp2_with fail
 clear y0 y1 y2
 go_loopw [7,20] (fun v i W=>∃ (n:Nat) (A:Option Addr) (c tp:Nat),n≤K.hauls.length∧i=.int .i64 n∧v=.slice A n c∧Hid (USt V W tp (usesL K xs n) A c)) (fun _ i _=>K.hauls.length-(intOf i).toNat)
 case atStart=>exact⟨0,none,0,0,Nat.zero_le _,rfl,rfl,Lib.hid ⟨RecList.nil,HG1.out,Nat.zero_le _⟩⟩
 case round =>
  obtain⟨n,A,c,tp,hn,rfl,rfl,HS⟩:=hrel
  obtain⟨w0,rfl⟩:∃ w0,w0=wr:=⟨_,rfl⟩
  obtain⟨y0,y1,y2⟩:=HY.out w0 HS.out.gr
  by_cases hnl:n<K.hauls.length
  ·have hni:(n:Int)<K.hauls.length:=by omega
   go_wp2_with fail
   clear y0 y1 y2
   go_loopw [9,26] (fun v i W=>∃ (q:Nat) (nA:Option Addr) (nc:Nat),q≤K.goods.length∧i=.int .i64 q∧v=.slice nA q nc∧Hid (L.OwnInts W w0.heap.size nA nc (usesRow K xs n q))∧Hid (Grown w0 W)) (fun _ i _=>K.goods.length-(intOf i).toNat)
   case atStart=>exact⟨0,none,0,Nat.zero_le _,rfl,rfl,Lib.hid (L.OwnInts.nil _ _),Lib.hid (Grown.refl _)⟩
   case round =>
    obtain⟨q,nA,nc,hq,rfl,rfl,HO,HG⟩:=hrel
    obtain⟨y0,y1,y2⟩:=HY.out wr (HS.out.gr.trans HG.out)
    have hll:=usesRow_len K xs n q
    by_cases hql:q<K.goods.length
    ·have hqi:(q:Int)<K.goods.length:=by omega
     have hsu:=usesRow_succ K xs n q
     have HUA:=Lib.hid (HU.out wr n q (HVG.out.trans (HS.out.gr.trans HG.out)) hnl hql)
     have HSU:=Lib.hid hsu
     generalize hrow:usesRow K xs n q=row at HO HSU hll
     generalize ((usN (dsOf K xs) n q:Nat):Int)=x at HUA HSU
     obtain rfl:q=row.length:=hll.symm
     clear hsu hrow
     go_wp2_with (first|(go_at_call 75;refine HUA.out.mono ?_;rintro e w3 ⟨rfl,g3⟩;have HG3:=Lib.hid (HG.out.trans g3);have HO3:=Lib.hid (own_grown HO.out g3);clear g3)|(at_builtin;refine L.wpl_app_ints rfl (.tmp 29) (.tmp 35) 22 rfl w0.heap.size ((like_under 22).trans Try.underlying22) inf3 nA nc row rfl (own_grown HO3.out (Grown.alloc _ _)) (w3.heap.size+1) (some ⟨w3.heap.size,0,none⟩) 1 [x] rfl ints1 (by simp;omega) (by have:=HG3.out.size;simp;omega) ?_;intro A2 c2 w5 hO5 hg5 hat5))
     have hG5:Grown w0 w5:=Grown.by hg5 w0 (HG3.out.trans (Grown.alloc _ _)) fun k hk=>(zV HO.out hk).1
     go_roundw
     case rel=>exact⟨row.length+1,A2,c2,by omega,by go_num,by simp,by rw[HSU.out];exact Lib.hid hO5,Lib.hid hG5⟩
     case measure=>simp[intOf];omega
    ·have hqi:¬ (q:Int)<K.goods.length:=by omega
     obtain rfl:q=K.goods.length:=by omega
     have HSU:=Lib.hid (usesL_succ K xs n)
     have hll2:=usesL_len K xs n
     generalize usesRow K xs n K.goods.length=row at HO HSU hll
     generalize usesL K xs n=ls at HS HSU hll2
     have HS9:=Lib.hid (HS.out.to (HG.out.trans (Grown.alloc wr (.cells #[.slice nA K.goods.length nc] 22))))
     have hO9:L.OwnInts (wr.alloc (.cells #[.slice nA K.goods.length nc] 22)) V.heap.size nA nc row:=own_weaken (own_grown HO.out (Grown.alloc _ _)) HS.out.gr.size
     have hT9:∀ k,nA.map (·.block)=some k→tp≤k:=fun k hk=>by
      have h1:=(zV HO.out (by rw[qn];exact hk)).1
      have h2:=HS.out.top
      omega
     have HO9:=Lib.hid hO9
     have HT9:=Lib.hid hT9
     have HN9:=Lib.hid (heap_alloc_new wr (.cells #[.slice nA K.goods.length nc] 22))
     obtain rfl:n=ls.length:=hll2.symm
     clear hO9 hT9 y0 y1 y2
     go_wp2_with (at_builtin;refine wpl_app_rec rfl (.tmp 38) (.tmp 40) 32 rfl ((like_under 32).trans Try.underlying32) _ 24 inf22 rfl (by decide) (by decide) rfl HS9.out.row wr.heap.size 1 rfl row nA nc _ 22 (by rw[HN9.out,← hll];rfl) rfl rfl (by intro u hu;simp[encD] at hu;subst hu;rfl) HO9.out HT9.out (by decide) (by omega) HS9.out.gr.size HS9.out.top ?_;intro A2 c2 w9 hR9 hg9)
     have hG9:Grown V w9:=Grown.by hg9 V HS9.out.gr fun k hk=>(HS9.out.row.tag hk).2.1
     go_roundw
     case rel=>exact⟨ls.length+1,A2,c2,_,by omega,by go_num,by simp,by rw[HSU.out];exact Lib.hid ⟨hR9,hG9,Nat.le_refl _⟩⟩
     case measure=>simp[intOf];omega
  ·have hni:¬ (n:Int)<K.hauls.length:=by omega
   obtain rfl:n=K.hauls.length:=by omega
   go_wp2_with fail
   refine bodyPost_ret (v:=.tuple #[.slice A K.hauls.length c,.int .i64 0]) (by simp[results,Try.results34,go_sem]) rfl ⟨A,⟨c,rfl⟩,HVG.out.trans HS.out.gr,DsList.at_ HS.out.row fun d hd=>?_⟩
   obtain⟨h,_,rfl⟩:=List.mem_map.1 hd
   rw[usesRow_len]
   exact hng
end
end
section
section
variable {fs:Array Func} [LikeS fs]
set_option maxRecDepth 20000 in
set_option maxHeartbeats 2000000 in
theorem melted_stop (K:Kt) (gA dA hA:Option Addr) (gc dc hc:Nat) (xs:List Int) (mA:Option Addr) (mc:Nat) (ls:List (List Int)) (lA:Option Addr) (lc:Nat) (w:World) (k:KtAt w K gA dA hA) (m:Ints w mA xs) (hlen:xs.length≤1000) (hl:DishesAt w lA ls) (hll:ls.length≤1000) (hG:zS K xs ls=0) {h i:Nat} {er:Int} (hs:(runK K xs ls).stop=some (h,i,er)) :
  Calls (Pf fs) 61 #[ktV K gA dA hA gc dc hc,.slice mA xs.length mc,.slice lA ls.length lc] w fun e w'=>e=.returned (.tuple #[.slice none 0 0,.int .i64 er])∧Grown w w':=by
 have hne:¬ er=0:=by
  obtain⟨_,_,_,q⟩:=runG_stop hs
  omega
 have HGB:=Lib.hid (Grown.alloc w (.cells #[.slice gA K.goods.length gc,.slice dA K.dishes.length dc,.slice hA K.hauls.length hc] 29))
 have hC:=fun W (g:Grown w W)=>given_any (fs:=fs) K gA dA hA gc dc hc xs mA mc ls lA lc W (k.grown g) (m.grown g) hlen (hl.grown g) hll
 rw[hG] at hC
 have HC:=Lib.hid hC
 have HB:=Lib.hid (heap_alloc_new w (.cells #[.slice gA K.goods.length gc,.slice dA K.dishes.length dc,.slice hA K.hauls.length hc] 29))
 have hY:∀ W,Grown (w.alloc (.cells #[.slice gA K.goods.length gc,.slice dA K.dishes.length dc,.slice hA K.hauls.length hc] 29)) W→W.cell? ⟨w.heap.size,0,none⟩=some (.slice gA K.goods.length gc)∧W.cell? ⟨w.heap.size,1,none⟩=some (.slice dA K.dishes.length dc)∧W.cell? ⟨w.heap.size,2,none⟩=some (.slice hA K.hauls.length hc):=fun W g =>
  ⟨za (zg HB.out g) 0,za (zg HB.out g) 1,za (zg HB.out g) 2⟩
 have HY:=Lib.hid hY
 have hA:=fun W (g:Grown w W)=>runK_stop (fs:=fs) K gA dA hA gc dc hc xs mA mc ls lA lc W (k.grown g) (m.grown g) (hl.grown g) hG hs
 have HA:=Lib.hid hA
 clear hY hC hA k m hl hs hG
 unfold ktV at *
 go_enter LK.func61,Try.ntmps61
 go_wp2_with (first|(go_at_call 66;refine (HC.out _ HGB.out).mono ?_;rintro e w1 ⟨rfl,hg1⟩;have hy:=HY.out w1 hg1;have HG1:=Lib.hid (HGB.out.trans hg1);clear hg1)|(go_at_call 67;refine (HA.out _ HG1.out).mono ?_;rintro e w2 ⟨⟨M,n,c,rfl⟩,hg2⟩;have HG2:=Lib.hid (HG1.out.trans hg2);clear hg2))
 go_quiet (fail)
 go_wp2_with fail
 refine bodyPost_ret (v:=.tuple #[.slice none 0 0,.int .i64 er]) (by simp[results,Try.results61,go_sem]) rfl ⟨rfl,?_⟩
 exact ((HG2.out.trans (.alloc _ _)).trans (.alloc _ _)).drewN _
set_option maxRecDepth 20000 in
set_option maxHeartbeats 2000000 in
theorem melted_ok (K:Kt) (gA dA hA:Option Addr) (gc dc hc:Nat) (xs:List Int) (mA:Option Addr) (mc:Nat) (ls:List (List Int)) (lA:Option Addr) (lc:Nat) (w:World) (k:KtAt w K gA dA hA) (m:Ints w mA xs) (hlen:xs.length≤1000) (hl:DishesAt w lA ls) (hll:ls.length≤1000) (hG:zS K xs ls=0) (hs:(runK K xs ls).stop=none) (hg3:K.goods.length≤3) :
  Calls (Pf fs) 61 #[ktV K gA dA hA gc dc hc,.slice mA xs.length mc,.slice lA ls.length lc] w fun e w'=>∃ A c,e=.returned (.tuple #[.slice A K.goods.length c,.int .i64 0])∧Grown w w'∧Ints w' A ((List.range K.goods.length).map fun i=>(((runK K xs ls).mel i:Nat):Int)):=by
 have HGB:=Lib.hid (Grown.alloc w (.cells #[.slice gA K.goods.length gc,.slice dA K.dishes.length dc,.slice hA K.hauls.length hc] 29))
 have hC:=fun W (g:Grown w W)=>given_any (fs:=fs) K gA dA hA gc dc hc xs mA mc ls lA lc W (k.grown g) (m.grown g) hlen (hl.grown g) hll
 rw[hG] at hC
 have HC:=Lib.hid hC
 have HB:=Lib.hid (heap_alloc_new w (.cells #[.slice gA K.goods.length gc,.slice dA K.dishes.length dc,.slice hA K.hauls.length hc] 29))
 have hY:∀ W,Grown (w.alloc (.cells #[.slice gA K.goods.length gc,.slice dA K.dishes.length dc,.slice hA K.hauls.length hc] 29)) W→W.cell? ⟨w.heap.size,0,none⟩=some (.slice gA K.goods.length gc)∧W.cell? ⟨w.heap.size,1,none⟩=some (.slice dA K.dishes.length dc)∧W.cell? ⟨w.heap.size,2,none⟩=some (.slice hA K.hauls.length hc):=fun W g =>
  ⟨za (zg HB.out g) 0,za (zg HB.out g) 1,za (zg HB.out g) 2⟩
 have HY:=Lib.hid hY
 have hA:=fun W (g:Grown w W)=>runK_none (fs:=fs) K gA dA hA gc dc hc xs mA mc ls lA lc W (k.grown g) (m.grown g) (hl.grown g) hG hs
 have HA:=Lib.hid hA
 clear hY hC hA k m hl hs hG
 unfold ktV at *
 have HCL:Hid (∀ (a:Nat→Nat) (W:World) (b:Nat),W.heap[b]?=some (.cells #[.int .i64 (a 0),.int .i64 (a 1),.int .i64 (a 2)] 97 (0,0))→Calls (Pf fs) 93 #[.slice (some ⟨b,0,none⟩) K.goods.length 3] W fun e w'=>∃ A c',e=.returned (.slice A K.goods.length c')∧Grown W w'∧Ints w' A ((List.range K.goods.length).map fun i=>((a i:Nat):Int))):=fun a W b hb=>by
  have hi:Ints W (some ⟨b,0,none⟩) ((List.range K.goods.length).map fun i=>((a i:Nat):Int)):=fun q x hx=>by
   rw[List.getElem?_map] at hx
   have hq:q<K.goods.length:=by
    rcases Nat.lt_or_ge q K.goods.length with r|r
    ·exact r
    ·rw[List.getElem?_eq_none (by simpa using r)] at hx;cases hx
   rw[List.getElem?_range hq] at hx
   cases hx
   refine⟨b,0,rfl,?_⟩
   rw[Nat.zero_add,za hb]
   rcases q with _|_|_|q
   ·rfl
   ·rfl
   ·rfl
   ·omega
  have:=clone_any (fs:=fs) _ _ 3 W hi (by simp;omega)
  rw[List.length_map,List.length_range] at this
  exact this.mono fun e w' ⟨A,c',e1,g1,o1⟩=>⟨A,c',e1,g1,ints_own o1⟩
 generalize (runK K xs ls).mel=mel at HA ⊢
 generalize (runK K xs ls).left=left at HA
 have hgi:(K.goods.length:Int)≤3:=by omega
 go_enter LK.func61,Try.ntmps61
 go_upto_region 7 with (first|(go_at_call 66;refine (HC.out _ HGB.out).mono ?_;rintro e w1 ⟨rfl,hg1⟩;have hy:=HY.out w1 hg1;have HG1:=Lib.hid (HGB.out.trans hg1);have HV1:=Lib.hid hg1;clear hg1)|(go_at_call 67;refine (HA.out _ HG1.out).mono ?_;rintro e w2 ⟨⟨M,c,rfl,hd⟩,hg2⟩;have HG2:=Lib.hid (HG1.out.trans hg2);have HV2:=Lib.hid (HV1.out.trans hg2);clear hg2 hd hy))
 have hn:((w2.alloc (.cells #[.int .i64 (mel 0),.int .i64 (mel 1),.int .i64 (mel 2)] 97)).alloc (.cells #[.int .i64 (-1),.int .i64 (-1),.int .i64 0] 99)).heap[w2.heap.size]?=some (.cells #[.int .i64 (mel 0),.int .i64 (mel 1),.int .i64 (mel 2)] 97 (0,0)):=zt (heap_alloc_new w2 _) _
 have HN:=Lib.hid hn
 have HG3:=Lib.hid (show Grown w ((w2.alloc (.cells #[.int .i64 (mel 0),.int .i64 (mel 1),.int .i64 (mel 2)] 97)).alloc (.cells #[.int .i64 (-1),.int .i64 (-1),.int .i64 0] 99)) from (HG2.out.trans (.alloc _ _)).trans (.alloc _ _))
 obtain⟨y0,y1,y2⟩:=HY.out ((w2.alloc (.cells #[.int .i64 (mel 0),.int .i64 (mel 1),.int .i64 (mel 2)] 97)).alloc (.cells #[.int .i64 (-1),.int .i64 (-1),.int .i64 0] 99)) ((HV2.out.trans (.alloc _ _)).trans (.alloc _ _))
 generalize ((w2.alloc (.cells #[.int .i64 (mel 0),.int .i64 (mel 1),.int .i64 (mel 2)] 97)).alloc (.cells #[.int .i64 (-1),.int .i64 (-1),.int .i64 0] 99))=w3 at hn HN HG3 y0 y1 y2 ⊢
 go_wp2_with (go_at_call 93;refine (HCL.out mel w3 w2.heap.size HN.out).mono ?_;rintro e w4 ⟨A4,c4,rfl,g4,hi4⟩)
 refine bodyPost_ret (v:=.tuple #[.slice A4 K.goods.length c4,.int .i64 0]) (by simp[results,Try.results61,go_sem]) rfl ⟨A4,c4,rfl,HG3.out.trans g4,hi4⟩
end
end
section
section
variable (D:Good1) (ld:Nat→Nat)
def lossD (h:Nat):Nat:=melted (hlG D h).hours D.melts (nowD D ld h+ld h)
def goneD:Nat→Nat
 | 0=>0
 | h+1=>goneD h+lossD D ld h
end
section
variable {Ds:List Good1} {ls:List (List Int)}
theorem runG_mel:∀ {r h:Nat} {now mel:Nat→Nat},(∀ i,i<Ds.length→now i=nowD (atG Ds i) (ldI ls i) h)→(∀ i,i<Ds.length→mel i=goneD (atG Ds i) (ldI ls i) h)→(runG Ds ls r h now mel).stop=none →
  ∀ i,i<Ds.length→(runG Ds ls r h now mel).mel i=goneD (atG Ds i) (ldI ls i) (h+r)
 | 0,h,now,mel,_,hm,_=>fun i hi=>hm i hi
 | r+1,h,now,mel,hn,hm,hs=>by
  cases hf:(List.range Ds.length).find? (barAt Ds ls h now) with
  | some k=>rw[runG_bar hf] at hs;cases hs
  | none =>
   cases hg:(List.range Ds.length).find? (shortAt Ds ls h now) with
   | some k=>rw[runG_short hf hg] at hs;cases hs
   | none =>
    rw[runG_step hf hg] at hs ⊢
    intro i hi
    have:=runG_mel (r:=r) (h:=h+1) (step_now hn) (mel:=zv Ds.length mel fun i=>mel i+lossAt Ds ls h now i) (fun j hj=>by
     unfold zv
     rw[if_pos hj]
     show mel j+lossAt Ds ls h now j=goneD _ _ h+lossD _ _ h
     rw[hm j hj]
     congr 1
     unfold lossAt lossD
     rw[hn j hj]) hs i hi
    rw[show h+(r+1)=h+1+r by omega]
    exact this
end
theorem runK_mel {K:Kt} {xs:List Int} {ls:List (List Int)} (hs:(runK K xs ls).stop=none) {i:Nat} (hi:i<K.goods.length):(runK K xs ls).mel i=goneD (atG (dsOf K xs) i) (ldI ls i) K.hauls.length:=by
 have:=runG_mel (r:=K.hauls.length) (h:=0) start_now (mel:=fun _=>0) (fun _ _=>rfl) hs i (by rw[dsOf_len];exact hi)
 rw[Nat.zero_add] at this
 exact this
theorem leg_law {K:Kt} {xs:List Int} {ls:List (List Int)} (hs:(runK K xs ls).stop=none) {h i:Nat} (hh:h<K.hauls.length) (hi:i<K.goods.length) :
  nowD (atG (dsOf K xs) i) (ldI ls i) h+ldN ls h i≤(atG (dsOf K xs) i).room∧(atG (dsOf K xs) i).reserve≤nowD (atG (dsOf K xs) i) (ldI ls i) (h+1) ∧
  nowD (atG (dsOf K xs) i) (ldI ls i) (h+1)+usN (dsOf K xs) h i+lossD (atG (dsOf K xs) i) (ldI ls i) h=nowD (atG (dsOf K xs) i) (ldI ls i) h+ldN ls h i:=by
 obtain⟨hw,_⟩:=runK_well hs
 obtain⟨w1,w2⟩:=hw h hh i (by rw[dsOf_len];exact hi)
 unfold barD barB at w1
 simp only[Bool.or_eq_false_iff,decide_eq_false_iff_not,ldI] at w1
 unfold shortD at w2
 rw[decide_eq_false_iff_not,after_eq] at w2
 have hm:=melted_le (hlG (atG (dsOf K xs) i) h).hours (atG (dsOf K xs) i).melts (nowD (atG (dsOf K xs) i) (ldI ls i) h+ldI ls i h)
 have hn:nowD (atG (dsOf K xs) i) (ldI ls i) (h+1)=(after (atG (dsOf K xs) i) (hlG (atG (dsOf K xs) i) h) (nowD (atG (dsOf K xs) i) (ldI ls i) h+ldI ls i h)).toNat:=rfl
 rw[after_eq] at hn
 unfold lossD usN
 simp only[ldI] at w2 hm hn ⊢
 refine⟨by omega,by omega,by omega⟩
end
section
section
variable {fs:Array Func} [Like fs]
set_option maxRecDepth 20000 in
set_option maxHeartbeats 1000000 in
theorem shaped_yes (K:Kt) (gA dA hA:Option Addr) (gc dc hc:Nat) (A:Option Addr) (c:Nat) (ls:List (List Int)) (w:World) (h:DishesAt w A ls) (hl:ls.length≤1000) (h1:ls.length=K.hauls.length) (h2:∀ l∈ls,l.length=K.goods.length) :
  Calls (Pf fs) 31 #[ktV K gA dA hA gc dc hc,.slice A ls.length c] w fun e w'=>e=.returned (.bool true)∧Grown w w':=by
 unfold ktV
 rw[← h1]
 generalize K.goods.length=ng at *
 generalize K.dishes.length=nd at *
 have HG:=Lib.hid (Grown.alloc w (.cells #[.slice gA ng gc,.slice dA nd dc,.slice hA ls.length hc] 29))
 have HB:=Lib.hid (heap_alloc_new w (.cells #[.slice gA ng gc,.slice dA nd dc,.slice hA ls.length hc] 29))
 have HD:=Lib.hid (h.grown HG.out)
 clear h h1
 go_enter LK.func31,Try.ntmps31
 go_wp2_with fail
 generalize w.alloc (.cells #[.slice gA ng gc,.slice dA nd dc,.slice hA ls.length hc] 29)=w1 at HG HB HD ⊢
 go_loopw [5] (fun i wr=>∃ k:Nat,k≤ls.length∧i=.int .i64 k∧∃ q,wr=w1.drewN q) (fun i _=>ls.length-(intOf i).toNat)
 case atStart=>exact⟨0,by omega,rfl,0,rfl⟩
 case round =>
  obtain⟨k,hk,rfl,q,rfl⟩:=hrel
  have b0:=za HB.out 0
  simp only[List.getElem?_toArray,List.getElem?_cons_zero] at b0
  by_cases hkl:k<ls.length
  ·have k1:(k:Int)<(ls.length:Int):=by omega
   obtain⟨b,off,rfl,xA,xc,c1,_,_⟩:=HD.out k _ (List.getElem?_eq_getElem hkl)
   rw[h2 _ (List.getElem_mem hkl)] at c1
   go_wp2_with fail
   go_quiet (fail)
   go_wp2_with fail
   go_roundw
   case rel=>exact⟨k+1,by omega,by go_num,_,rfl⟩
   case measure=>simp[intOf];omega
  ·have k1:¬ (k:Int)<(ls.length:Int):=by omega
   go_wp2_with fail
   go_ret
   exact⟨rfl,HG.out.trans ((Grown.refl _).drewN _)⟩
end
def oneK (K:Kt) (g:Nat):Kt:=⟨[gdAt K.goods g],K.dishes.map fun d=>[d.getD g 0],K.hauls.map fun h=>{ h with prices:=[h.prices.getD g 0] }⟩
def oneG (K:Kt) (xs:List Int) (g:Nat):Good1:=goodOf K xs g (gdAt K.goods g)
theorem oneK_goods {K:Kt} {xs:List Int} {g:Nat} : dsOf (oneK K g) xs=[oneG K xs g]:=by
 unfold dsOf oneG
 show List.mapIdx _ [gdAt K.goods g]=_
 simp only[List.mapIdx_cons,List.mapIdx_nil]
 congr 1
 unfold goodOf
 congr 1
 simp only[oneK,List.zip_map_left,List.map_map]
 refine List.map_congr_left fun p _=>?_
 obtain⟨h,d⟩:=p
 simp only[Function.comp,Prod.map,id,haulOf]
 congr 1
 simp only[List.getD_eq_getElem?_getD,List.getElem?_map]
 cases K.dishes[d.toNat]?<;>simp
theorem dsOf_at {K:Kt} {xs:List Int} {g:Nat} (hg:g<K.goods.length):(dsOf K xs)[g]?=some (oneG K xs g):=by
 rw[dsOf_get,gdAt_get hg]
 rfl
theorem oneK_rows {K:Kt} {xs:List Int} {g h:Nat} (hh:h<K.hauls.length):(rowsOf (oneK K g) xs)[h]?=some [ldAt h (oneG K xs g)]:=by
 unfold rowsOf
 rw[oneK_goods,rowsTo_get (by simpa[oneK] using hh),if_neg (by omega)]
 rfl
theorem rowsOf_at {K:Kt} {xs:List Int} {h:Nat} (hh:h<K.hauls.length):(rowsOf K xs)[h]?=some ((dsOf K xs).map (ldAt h)):=by
 unfold rowsOf
 rw[rowsTo_get hh,if_neg (by omega),List.take_length]
theorem rowsOf_shape {K:Kt} {xs:List Int} : ∀ l∈rowsOf K xs,l.length=K.goods.length:=fun l hl=>by
 obtain⟨h,hh⟩:=List.getElem?_of_mem hl
 have hlt:h<K.hauls.length:=by have:=(List.getElem?_eq_some_iff.1 hh).1;rwa [rowsOf_len] at this
 rw[rowsOf_at hlt] at hh
 cases hh
 simp[dsOf_len]
def sumTo (K:Kt) (xs:List Int):Nat→Nat
 | 0=>0
 | g+1=>sumTo K xs g+(if (zf (oneG K xs g)).2.2 then 0 else (zf (oneG K xs g)).2.1)
def fineTo (K:Kt) (xs:List Int):Nat→Bool
 | 0=>true
 | g+1=>fineTo K xs g&&!(zf (oneG K xs g)).2.2
theorem fineTo_iff {K:Kt} {xs:List Int} : ∀ {n:Nat},fineTo K xs n=true↔∀ g,g<n→(zf (oneG K xs g)).2.2=false
 | 0=>⟨fun _ g h=>by omega,fun _=>rfl⟩
 | n+1=>by
  unfold fineTo
  rw[Bool.and_eq_true,fineTo_iff]
  constructor
  ·rintro⟨a,b⟩ g hg
   rcases Nat.lt_or_ge g n with q|q
   ·exact a g q
   ·obtain rfl:g=n:=by omega
    simpa using b
  ·intro h
   exact⟨fun g hg=>h g (by omega),by simpa using h n (by omega)⟩
theorem fineTo_all {K:Kt} {xs:List Int} : fineTo K xs K.goods.length=!noneB K xs:=by
 have key:fineTo K xs K.goods.length=true↔noneB K xs=false:=by
  rw[fineTo_iff]
  unfold noneB
  rw[List.any_eq_false]
  constructor
  ·intro h D hD
   obtain⟨i,hi⟩:=List.getElem?_of_mem hD
   have hlt:i<K.goods.length:=by have:=(List.getElem?_eq_some_iff.1 hi).1;rwa [dsOf_len] at this
   rw[dsOf_at hlt] at hi
   cases hi
   simp[h i hlt]
  ·intro h g hg
   simpa using h _ (List.mem_of_getElem? (dsOf_at hg))
 cases h1:fineTo K xs K.goods.length<;>cases h2:noneB K xs<;>simp_all
section
variable {fs:Array Func} [LikeS fs]
theorem cheapest_bad (K:Kt) (gA dA hA:Option Addr) (gc dc hc:Nat) (xs:List Int) (mA:Option Addr) (mc:Nat) (w:World) (k:KtAt w K gA dA hA) (m:Ints w mA xs) (hlen:xs.length≤1000) (ha:qe K xs=0) (hn:noneB K xs=true) :
  Calls (Pf fs) 29 #[ktV K gA dA hA gc dc hc,.slice mA xs.length mc] w fun e w'=>e=.returned (.tuple #[.slice none 0 0,.int .i64 0,.int .i64 11])∧Grown w w':=
 (cheapest_any K gA dA hA gc dc hc xs mA mc w k m hlen).mono fun e w' ⟨v,e1,g,h⟩=>by
  cases h with
  | asked h1=>exact absurd ha h1
  | bad _ h1=>exact⟨e1,g⟩
  | good _ h1 M hM=>rw[hn] at h1;cases h1
theorem cheapest_good (K:Kt) (gA dA hA:Option Addr) (gc dc hc:Nat) (xs:List Int) (mA:Option Addr) (mc:Nat) (w:World) (k:KtAt w K gA dA hA) (m:Ints w mA xs) (hlen:xs.length≤1000) (ha:qe K xs=0) (hn:noneB K xs=false) :
  Calls (Pf fs) 29 #[ktV K gA dA hA gc dc hc,.slice mA xs.length mc] w fun e w'=>∃ M,e=.returned (.tuple #[.slice (some ⟨M,0,none⟩) K.hauls.length K.hauls.length,.int .i64 (qy K xs),.int .i64 0])∧Grown w w'∧DishesAt w' (some ⟨M,0,none⟩) (rowsOf K xs):=
 (cheapest_any K gA dA hA gc dc hc xs mA mc w k m hlen).mono fun e w' ⟨v,e1,g,h⟩=>by
  cases h with
  | asked h1=>exact absurd ha h1
  | bad _ h1=>rw[hn] at h1;cases h1
  | good _ h1 M hM=>exact⟨M,e1,g,hM⟩
end
end
section
structure OneF (W0:World) (base:Nat) (K:Kt) (db hb:Nat) (nb nc pb pc:Nat→Nat):Prop where
 ne:db≠hb
 bd:base≤db∧base≤hb
 dish:∀ j d,K.dishes[j]?=some d→Ints W0 (some ⟨nb j,0,none⟩) d∧nb j≠db∧nb j≠hb∧K.goods.length≤nc j
 haul:∀ j h,K.hauls[j]?=some h→Ints W0 (some ⟨pb j,0,none⟩) h.prices∧pb j≠db∧pb j≠hb∧K.goods.length≤pc j
structure OneJ (W0 W:World) (K:Kt) (g db hb n m:Nat) (nb nc pb pc:Nat→Nat):Prop where
 size:W.heap.size=W0.heap.size
 os:W.os=W0.os
 same:∀ b,b≠db→b≠hb→W.heap[b]?=W0.heap[b]?
 drow:∃ cur,W.heap[db]?=some (.cells cur 48 (0,0))∧∀ j,j<K.dishes.length→cur[j]?=some (if j<n then .slice (some ⟨nb j,g,none⟩) 1 (nc j-g) else .slice (some ⟨nb j,0,none⟩) K.goods.length (nc j))
 hrow:∃ cur,W.heap[hb]?=some (.cells cur 46 (0,0))∧∀ j h,K.hauls[j]?=some h→cur[j*3]?=some (.int .i64 h.hours)∧cur[j*3+1]?=some (.int .i64 h.covers)∧cur[j*3+2]?=some (if j<m then .slice (some ⟨pb j,g,none⟩) 1 (pc j-g) else .slice (some ⟨pb j,0,none⟩) K.goods.length (pc j))
section
variable {W0 W:World} {base:Nat} {K:Kt} {g db hb n m:Nat} {nb nc pb pc:Nat→Nat}
end
end
section
structure Apart5 (wS:World) (K:Kt) (ms:List Int) (gA dA hA mA:Option Addr) (gc dc hc bx:Nat):Prop where
 kt:KtAt wS K gA dA hA
 m:Ints wS mA ms
 box:wS.heap[bx]?=some (.cells #[.slice gA K.goods.length gc,.slice dA K.dishes.length dc,.slice hA K.hauls.length hc] 29 (0,0))
 valid:zT K=0
 asked:qe K ms=0
 ml:ms.length≤1000
 n : 1≤K.goods.length∧1≤K.dishes.length∧1≤K.hauls.length
 n3:K.goods.length≤3
 dlen:∀ d∈K.dishes,d.length=K.goods.length
 plen:∀ x∈K.hauls,x.prices.length=K.goods.length
theorem Apart5.cells {wS:World} {K:Kt} {ms:List Int} {gA dA hA mA:Option Addr} {gc dc hc bx:Nat} (s:Apart5 wS K ms gA dA hA mA gc dc hc bx) {W:World} (g:Grown wS W):W.cell? ⟨bx,0,none⟩=some (.slice gA K.goods.length gc)∧W.cell? ⟨bx,1,none⟩=some (.slice dA K.dishes.length dc)∧W.cell? ⟨bx,2,none⟩=some (.slice hA K.hauls.length hc):=⟨za (zg s.box g) 0,za (zg s.box g) 1,za (zg s.box g) 2⟩
section
variable {fs:Array Func} [LikeS fs]
end
end
section
section
variable {fs:Array Func} [LikeS fs]
end
end
section
section
variable {fs:Array Func} [LikeS fs]
end
end
section
def Fits (D:Good1):List Haul1→Nat→List Nat→Prop
 | [],_,[]=>True
 | h::hs,t,n::l=>n<tries D h t∧(D.reserve:Int)≤after D h (t+n)∧Fits D hs (after D h (t+n)).toNat l
 | [],_,_::_=>False
 | _::_,_,[]=>False
theorem planFrom_fits (D:Good1):∀ (hs:List Haul1) (t:Nat),(zM D hs t).2.2=false→Fits D hs t (zM D hs t).1
 | [],_,_=>trivial
 | h::hs,t,hf=>by
  have key:∀ k,k≤tries D h t→(zx D h hs t k).2.2=false→Fits D (h::hs) t (zx D h hs t k).1:=by
   intro k
   induction k with
   | zero=>intro _ hb;simp[bestTo_zero] at hb
   | succ k ih =>
    intro hk hb
    rw[bestTo_succ] at hb ⊢
    unfold tryN at hb ⊢
    split at hb
    ·rename_i h1
     rw[if_pos h1]
     exact ih (by omega) hb
    ·rename_i h1
     rw[if_neg h1]
     dsimp only at hb ⊢
     split at hb
     ·rename_i h2
      rw[if_pos h2]
      simp only[Bool.and_eq_true,Bool.not_eq_true'] at h2
      exact⟨by omega,by omega,planFrom_fits D hs _ h2.1⟩
     ·rename_i h2
      rw[if_neg h2]
      exact ih (by omega) hb
  rw[← bestTo_all] at hf ⊢
  exact key _ (Nat.le_refl _) hf
theorem asked_len {K:Kt} {xs:List Int} (hA:qe K xs=0):xs.length=K.hauls.length:=by
 obtain⟨_,hR⟩:=askedE_zero hA
 unfold qf at hR
 split at hR
 ·rename_i q;exact absurd hR q
 ·rename_i q
  have:=manyE_zero (Decidable.not_not.1 q)
  omega
end
section
section
variable {w W:World} {base:Nat} {K:Kt} {gb db hb h g:Nat} {nb nc pb pc:Nat→Nat}
end
section
variable {fs:Array Func} [LikeS fs]
end
end
end Go.Gal
