/- Plain laws of runs: each good by itself, haul by haul. Walks: first (the first hauls of a kitchen, a menu and loads). Walks: Uses. Walks: the reference's use and Uses; the program's Uses .. -/
import Derived.Test.YtlgiofglcgbjgaaM42
namespace Go.Gal
open Go Go.Par Go.Proofs Go.RowKit
section
section
variable (D:Good1) (ld:Nat→Nat)
end
section
variable {Ds:List Good1} {ls:List (List Int)} {h i:Nat} {now:Nat→Nat}
end
section
variable {Ds:List Good1} {ls:List (List Int)}
end
structure AlikeTo (m:Nat) (D D':Good1) (ld ld':Nat→Nat):Prop where
 room:D'.room=D.room
 melts:D'.melts=D.melts
 start:D'.start=D.start
 reserve:D'.reserve=D.reserve
 haul:∀ h,h<m→hlG D' h=hlG D h
 load:∀ h,h<m→ld' h=ld h
section
variable {m:Nat} {D D':Good1} {ld ld':Nat→Nat}
end
theorem zdv {K:Kt} {xs:List Int} {i:Nat} (hi:i<K.goods.length):atG (dsOf K xs) i=Zd K xs i K.goods[i]:=by
 unfold atG
 rw[List.getD_eq_getElem?_getD,QE,List.getElem?_eq_getElem hi]
 rfl
theorem hlG_goodOf {K:Kt} {xs:List Int} {i h:Nat} {g:Gd} (hl:xs.length=K.hauls.length) (hh:h<K.hauls.length):hlG (Zd K xs i g) h=zdG K i K.hauls[h] (xs[h]'(by omega)):=by
 unfold hlG Zd
 simp only
 rw[List.getD_eq_getElem?_getD,List.getElem?_map,List.getElem?_eq_getElem (by simp;omega)]
 simp
def zcB (K:Kt) (m:Nat):Kt:={ K with hauls:=K.hauls.take m }
def gdAt (gs:List Gd) (i:Nat):Gd:=gs.getD i ⟨0,0,0,0⟩
theorem zdg {gs:List Gd} {i:Nat} (h:i<gs.length):gs[i]?=some (gdAt gs i):=by
 unfold gdAt
 rw[List.getD_eq_getElem?_getD,List.getElem?_eq_getElem h]
 rfl
def zex (K:Kt) (g m:Nat):Kt:=⟨K.goods.set g { gdAt K.goods g with reserve:=0 },K.dishes.map fun d=>d.set g 0,K.hauls.take m⟩
section
variable {K:Kt} {xs:List Int} {ls:List (List Int)} {m g:Nat}
end
structure ShortN (K:Kt) (ms:List Int) (ls:List (List Int)) (haul good:Nat) (room res mel st hours covers d nq N X:Nat) (l ds:List Int):Prop where
 hh:haul<K.hauls.length
 hg:good<K.goods.length
 gd:K.goods[good]?=some ⟨room,res,mel,st⟩
 hl:∃ pr,K.hauls[haul]?=some ⟨hours,covers,pr⟩
 menu:ms[haul]?=some (d:Int)
 hd:d<K.dishes.length
 dish:K.dishes[d]?=some ds
 dlen:ds.length=K.goods.length
 need:ds[good]?=some (nq:Int)
 load:ls[haul]?=some l
 llen:l.length=K.goods.length
 ld:l[good]?=some (X:Int)
 zero:haul=0→N=st
 more : 1≤haul→qm (zcB K haul) (ms.take haul) (ls.take haul)=0∧(runK (zcB K haul) (ms.take haul) (ls.take haul)).stop=none∧(runK (zcB K haul) (ms.take haul) (ls.take haul)).left.length=haul ∧
   ∃ row,(runK (zcB K haul) (ms.take haul) (ls.take haul)).left[haul-1]?=some row∧row.length=K.goods.length∧row[good]?=some (N:Int)
 short:((N+X-melted hours mel (N+X):Nat):Int)-((covers*nq:Nat):Int)<(res:Int)
 bds:N+X≤room∧room≤20∧hours≤24∧covers≤9∧nq≤3∧mel≤12∧res≤20∧N≤20∧X≤20
 spare:qm (zex K good (haul+1)) (ms.take (haul+1)) (ls.take (haul+1))=0
 last:∀ h i er,(runK (zex K good (haul+1)) (ms.take (haul+1)) (ls.take (haul+1))).stop=some (h,i,er)→er=9∨(er=11∧h=haul∧good<i∧i<K.goods.length)
end
section
section
variable {fs:Array Func} [LikeS fs]
variable (K:Kt) (gA dA hA:Option Addr) (gc dc hc:Nat) (xs:List Int) (mA:Option Addr) (mc:Nat) (ls:List (List Int)) (lA:Option Addr) (lc:Nat) (w:World) (k:KtAt w K gA dA hA) (m:Ints w mA xs) (hlen:xs.length≤1000) (hl:DishesAt w lA ls) (hll:ls.length≤1000) (hG:qm K xs ls=0)
include k m hlen hl hll hG
end
section
variable {fs:Array Func} [Like fs]
end
section
variable {fs:Array Func} [LikeS fs]
end
end
section
def jy (K:Kt) (xs:List Int) (h n:Nat):List Int:=(List.range n).map fun i=>((usN (dsOf K xs) h i:Nat):Int)
def usesL (K:Kt) (xs:List Int) (n:Nat):List (List Int):=(List.range n).map fun h=>jy K xs h K.goods.length
theorem Zi (K:Kt) (xs:List Int) (h n:Nat):(jy K xs h n).length=n:=by simp[jy]
theorem ZA (K:Kt) (xs:List Int) (n:Nat):(usesL K xs n).length=n:=by simp[usesL]
theorem JG (K:Kt) (xs:List Int) (h n:Nat):jy K xs h (n+1)=jy K xs h n++[((usN (dsOf K xs) h n:Nat):Int)]:=by simp[jy,List.range_succ]
theorem zai (K:Kt) (xs:List Int) (n:Nat):usesL K xs (n+1)=usesL K xs n++[jy K xs n K.goods.length]:=by simp[usesL,List.range_succ]
structure USt (V W:World) (tp:Nat) (ls:List (List Int)) (A:Option Addr) (c:Nat):Prop where
 row:zeM W V.heap.size tp A c ls
 gr:Grown V W
 top:tp≤W.heap.size
theorem USt.to {V W W2:World} {tp:Nat} {ls:List (List Int)} {A:Option Addr} {c:Nat} (h:USt V W tp ls A c) (k:Grown W W2):USt V W2 tp ls A c:=⟨h.row.grown k,h.gr.trans k,Nat.le_trans h.top k.size⟩
section
variable {fs:Array Func} [LikeS fs]
theorem uses_at (K:Kt) (gA dA hA:Option Addr) (gc dc hc:Nat) (xs:List Int) (mA:Option Addr) (mc:Nat) (h i:Nat) (w:World) (k:KtAt w K gA dA hA) (m:Ints w mA xs) (hA':zW K xs=0) (hh:h<K.hauls.length) (hi:i<K.goods.length) :
  Calls (Pf fs) 75 #[ktV K gA dA hA gc dc hc,.slice mA xs.length mc,.int .i64 h,.int .i64 i] w fun e w'=>e=.returned (.int .i64 (usN (dsOf K xs) h i))∧Grown w w':=by
 obtain⟨hC,hR⟩:=jU hA'
 obtain⟨A,eA,eM,hkit⟩:=zaU gc dc hc mc k m hC hR
 have hxl:xs.length=K.hauls.length:=by
  unfold qk at hR
  split at hR
  ·rename_i q;exact absurd hR q
  ·rename_i q
   have:=jN (Decidable.not_not.1 q)
   omega
 have enh:A.nh=K.hauls.length:=by
  unfold Kit1.k Kit1.hs ktV at eA
  injection eA with eA
  injection eA with eA
  injection eA with e1 e2
  injection e2 with e2 e3
  injection e3 with e3 e4
  injection e3
 have enm:A.nm=xs.length:=by
  unfold Kit1.m at eM
  injection eM
 have kk:=hkit i _ (zdg hi)
 have hl:(Zd K xs i (gdAt K.goods i)).hauls[h]?=some (hlG (Zd K xs i (gdAt K.goods i)) h):=by
  unfold hlG
  rw[List.getD_eq_getElem?_getD,List.getElem?_eq_getElem (by rw[Jx K xs i _ hxl];exact hh)]
  rfl
 have hu:=zah (fs:=fs) w (kk.hauls h _ hl) (by omega) (by omega)
 rw[eA,eM] at hu
 refine hu.mono fun e w' ⟨e1,b⟩=>⟨?_,⟨b.size,b.block,b.os⟩⟩
 rw[e1]
 unfold usN
 rw[zdv hi]
 have eg:K.goods[i]=gdAt K.goods i:=by
  have:=zdg hi
  rw[List.getElem?_eq_getElem hi] at this
  injection this
 rw[eg]
 rfl
set_option maxRecDepth 20000 in
set_option maxHeartbeats 4000000 in
theorem usesAll_any (K:Kt) (gA dA hA:Option Addr) (gc dc hc:Nat) (xs:List Int) (mA:Option Addr) (mc:Nat) (w:World) (k:KtAt w K gA dA hA) (m:Ints w mA xs) (hlen:xs.length≤1000) (hA':zW K xs=0) :
  Calls (Pf fs) 34 #[ktV K gA dA hA gc dc hc,.slice mA xs.length mc] w fun e w'=>∃ A c,e=.returned (.tuple #[.slice A K.hauls.length c,.int .i64 0])∧Grown w w'∧DishesAt w' A (usesL K xs K.hauls.length):=by
 have hasked:=fun W (g:Grown w W)=>ZH (fs:=fs) K gA dA hA gc dc hc xs mA mc W (k.grown g) (m.grown g) hlen
 rw[hA'] at hasked
 have huse:=fun W h i (g:Grown w W) (hh:h<K.hauls.length) (hi:i<K.goods.length)=>uses_at (fs:=fs) K gA dA hA gc dc hc xs mA mc h i W (k.grown g) (m.grown g) hA' hh hi
 have hnh:=k.nh
 have hng:=k.ng
 have HC:=Lib.hid hasked
 have HU:=Lib.hid huse
 obtain⟨V,hV⟩:∃ V,V=w.alloc (.cells #[.slice gA K.goods.length gc,.slice dA K.dishes.length dc,.slice hA K.hauls.length hc] 29):=⟨_,rfl⟩
 have v0:V.heap[w.heap.size]?=some (.cells #[.slice gA K.goods.length gc,.slice dA K.dishes.length dc,.slice hA K.hauls.length hc] 29 (0,0)):=by rw[hV];exact heap_alloc_new w _
 have vg:Grown w V:=by rw[hV];exact Grown.alloc _ _
 have HY:=Lib.hid (show ∀ W,Grown V W→W.cell? ⟨w.heap.size,0,none⟩=some (.slice gA K.goods.length gc)∧W.cell? ⟨w.heap.size,1,none⟩=some (.slice dA K.dishes.length dc)∧W.cell? ⟨w.heap.size,2,none⟩=some (.slice hA K.hauls.length hc) from fun W g =>
  ⟨za (zf v0 g) 0,za (zf v0 g) 1,za (zf v0 g) 2⟩)
 have HVG:=Lib.hid vg
 have HVE:=Lib.hid hV
 clear k m hasked huse v0 vg hV hA'
 unfold ktV at *
 go_enter LK.func34,Try.ntmps34
 go_upto_region 4 with (go_at_call 69;have hg0:=HVG.out;rw[HVE.out] at hg0;refine (HC.out _ hg0).mono ?_;rintro e w1 ⟨rfl,hg1⟩;rw[← HVE.out] at hg1;have HG1:=Lib.hid hg1;clear hg1 hg0)
 obtain⟨y0,y1,y2⟩:=HY.out w1 HG1.out
 go_wp2_with fail
 clear y0 y1 y2
 go_loopw [7,20] (fun v i W=>∃ (n:Nat) (A:Option Addr) (c tp:Nat),n≤K.hauls.length∧i=.int .i64 n∧v=.slice A n c∧Hid (USt V W tp (usesL K xs n) A c)) (fun _ i _=>K.hauls.length-(intOf i).toNat)
 case atStart=>exact⟨0,none,0,0,Nat.zero_le _,rfl,rfl,Lib.hid ⟨RecList.nil,HG1.out,Nat.zero_le _⟩⟩
 case round =>
  obtain⟨n,A,c,tp,hn,rfl,rfl,HS⟩:=hrel
  obtain⟨w0,rfl⟩:∃ w0,w0=wr:=⟨_,rfl⟩
  obtain⟨y0,y1,y2⟩:=HY.out w0 HS.out.gr
  by_cases hnl:n<K.hauls.length
  ·have hni:(n:Int)<K.hauls.length:=by omega
   go_wp2_with fail
   clear y0 y1 y2
   go_loopw [9,26] (fun v i W=>∃ (q:Nat) (nA:Option Addr) (nc:Nat),q≤K.goods.length∧i=.int .i64 q∧v=.slice nA q nc∧Hid (L.OwnInts W w0.heap.size nA nc (jy K xs n q))∧Hid (Grown w0 W)) (fun _ i _=>K.goods.length-(intOf i).toNat)
   case atStart=>exact⟨0,none,0,Nat.zero_le _,rfl,rfl,Lib.hid (L.OwnInts.nil _ _),Lib.hid (Grown.refl _)⟩
   case round =>
    obtain⟨q,nA,nc,hq,rfl,rfl,HO,HG⟩:=hrel
    obtain⟨y0,y1,y2⟩:=HY.out wr (HS.out.gr.trans HG.out)
    have hll:=Zi K xs n q
    by_cases hql:q<K.goods.length
    ·have hqi:(q:Int)<K.goods.length:=by omega
     have hsu:=JG K xs n q
     have HUA:=Lib.hid (HU.out wr n q (HVG.out.trans (HS.out.gr.trans HG.out)) hnl hql)
     have HSU:=Lib.hid hsu
     generalize hrow:jy K xs n q=row at HO HSU hll
     generalize ((usN (dsOf K xs) n q:Nat):Int)=x at HUA HSU
     obtain rfl:q=row.length:=hll.symm
     clear hsu hrow
     go_wp2_with (first|(go_at_call 75;refine HUA.out.mono ?_;rintro e w3 ⟨rfl,g3⟩;have HG3:=Lib.hid (HG.out.trans g3);have HO3:=Lib.hid (qr HO.out g3);clear g3)|(at_builtin;refine L.wpl_app_ints rfl (.tmp 29) (.tmp 35) 22 rfl w0.heap.size ((like_under 22).trans Try.underlying22) inf3 nA nc row rfl (qr HO3.out (Grown.alloc _ _)) (w3.heap.size+1) (some ⟨w3.heap.size,0,none⟩) 1 [x] rfl ints1 (by simp;omega) (by have:=HG3.out.size;simp;omega) ?_;intro A2 c2 w5 hO5 hg5 hat5))
     have hG5:Grown w0 w5:=Grown.by hg5 w0 (HG3.out.trans (Grown.alloc _ _)) fun k hk=>(zV HO.out hk).1
     go_roundw
     case rel=>exact⟨row.length+1,A2,c2,by omega,by go_num,by simp,by rw[HSU.out];exact Lib.hid hO5,Lib.hid hG5⟩
     case measure=>simp[intOf];omega
    ·have hqi:¬ (q:Int)<K.goods.length:=by omega
     obtain rfl:q=K.goods.length:=by omega
     have HSU:=Lib.hid (zai K xs n)
     have hll2:=ZA K xs n
     generalize jy K xs n K.goods.length=row at HO HSU hll
     generalize usesL K xs n=ls at HS HSU hll2
     have HS9:=Lib.hid (HS.out.to (HG.out.trans (Grown.alloc wr (.cells #[.slice nA K.goods.length nc] 22))))
     have hO9:L.OwnInts (wr.alloc (.cells #[.slice nA K.goods.length nc] 22)) V.heap.size nA nc row:=qS (qr HO.out (Grown.alloc _ _)) HS.out.gr.size
     have hT9:∀ k,nA.map (·.block)=some k→tp≤k:=fun k hk=>by
      have h1:=(zV HO.out (by rw[qu];exact hk)).1
      have h2:=HS.out.top
      omega
     have HO9:=Lib.hid hO9
     have HT9:=Lib.hid hT9
     have HN9:=Lib.hid (heap_alloc_new wr (.cells #[.slice nA K.goods.length nc] 22))
     obtain rfl:n=ls.length:=hll2.symm
     clear hO9 hT9 y0 y1 y2
     go_wp2_with (at_builtin;refine jR rfl (.tmp 38) (.tmp 40) 32 rfl ((like_under 32).trans Try.underlying32) _ 24 inf22 rfl (by decide) (by decide) rfl HS9.out.row wr.heap.size 1 rfl row nA nc _ 22 (by rw[HN9.out,← hll];rfl) rfl rfl (by intro u hu;simp[encD] at hu;subst hu;rfl) HO9.out HT9.out (by decide) (by omega) HS9.out.gr.size HS9.out.top ?_;intro A2 c2 w9 hR9 hg9)
     have hG9:Grown V w9:=Grown.by hg9 V HS9.out.gr fun k hk=>(HS9.out.row.tag hk).2.1
     go_roundw
     case rel=>exact⟨ls.length+1,A2,c2,_,by omega,by go_num,by simp,by rw[HSU.out];exact Lib.hid ⟨hR9,hG9,Nat.le_refl _⟩⟩
     case measure=>simp[intOf];omega
  ·have hni:¬ (n:Int)<K.hauls.length:=by omega
   obtain rfl:n=K.hauls.length:=by omega
   go_wp2_with fail
   refine bodyPost_ret (v:=.tuple #[.slice A K.hauls.length c,.int .i64 0]) (by simp[results,Try.results34,go_sem]) rfl ⟨A,⟨c,rfl⟩,HVG.out.trans HS.out.gr,DsList.at_ HS.out.row fun d hd=>?_⟩
   obtain⟨h,_,rfl⟩:=List.mem_map.1 hd
   rw[Zi]
   exact hng
end
end
section
section
variable {fs:Array Func} [Like fs]
set_option maxRecDepth 20000 in
theorem use_any (K:Kt) (gA dA hA:Option Addr) (gc dc hc:Nat) (h d g:Nat) (x:Hl) (ns:List Int) (n:Int) (w:World) (k:KtAt w K gA dA hA) (hx:K.hauls[h]?=some x) (hd:K.dishes[d]?=some ns) (hn:ns[g]?=some n) (b1 : 0≤x.covers∧x.covers≤1000) (b2 : 0≤n∧n≤1000) :
  Calls (Pf fs) 77 #[ktV K gA dA hA gc dc hc,.int .i64 h,.int .i64 d,.int .i64 g] w fun e w'=>e=.returned (.int .i64 (x.covers*n))∧Grown w w':=by
 obtain⟨hb,ho,rfl,pA,pc,_,h2,_,_,_⟩:=k.hauls h x hx
 obtain⟨db,dof,rfl,nA,nc,d1,d2,d3⟩:=k.dishes d ns hd
 obtain⟨nb,no,rfl,n1⟩:=d2 g n hn
 have hg:=Grown.alloc w (.cells #[.slice gA K.goods.length gc,.slice (some ⟨db,dof,none⟩) K.dishes.length dc,.slice (some ⟨hb,ho,none⟩) K.hauls.length hc] 29)
 obtain⟨y0,y1,y2⟩:=yR (w:=w) (v0:=.slice gA K.goods.length gc) (v1:=.slice (some ⟨db,dof,none⟩) K.dishes.length dc) (v2:=.slice (some ⟨hb,ho,none⟩) K.hauls.length hc) _ (Grown.refl _)
 have e1:=hg.cell h2
 have e2:=hg.cell d1
 have e3:=hg.cell n1
 have hl1:=(List.getElem?_eq_some_iff.1 hx).1
 have hl2:=(List.getElem?_eq_some_iff.1 hd).1
 have hl3:=(List.getElem?_eq_some_iff.1 hn).1
 have i1:(h:Int)<K.hauls.length:=by omega
 have i2:(d:Int)<K.dishes.length:=by omega
 have i3:(g:Int)<ns.length:=by omega
 have hpr:wrap64 (x.covers*n)=x.covers*n:=by
  have m1 : 0≤x.covers*n:=Int.mul_nonneg b1.1 b2.1
  have m2:x.covers*n≤1000*1000:=Int.mul_le_mul b1.2 b2.2 b2.1 (by omega)
  exact IntWalk.wrap64_in _ ⟨by omega,by omega⟩
 have HPR:=Lib.hid hpr
 have HG:=Lib.hid hg
 clear hpr hg b1 b2 h2 d1 n1 d2 hn hd hx k y0
 unfold ktV at *
 go_enter LK.func77,Try.ntmps77
 go_upto_region 1 with fail
 go_quiet (fail)
 go_wp2_with fail
 go_ret
 refine⟨?_,HG.out.drewN _⟩
 show Ending.returned (.int .i64 (wrap64 (x.covers*n)))=_
 rw[HPR.out]
end
theorem use_val {K:Kt} {xs:List Int} (hA:zW K xs=0) {h i:Nat} (hh:h<K.hauls.length) (hi:i<K.goods.length) :
  ∃ x d ns n,K.hauls[h]?=some x∧xs[h]?=some ((d:Nat):Int)∧K.dishes[d]?=some ns∧ns[i]?=some n∧(0≤x.covers∧x.covers≤9)∧(0≤n∧n≤3)∧x.covers*n=((usN (dsOf K xs) h i:Nat):Int):=by
 obtain⟨hC,hR⟩:=jU hA
 obtain⟨c1,c2,c3⟩:=qK hC
 obtain⟨d1,d2,d3⟩:=ya c2
 obtain⟨h1,h2,h3⟩:=qH c3
 obtain⟨r1,r2⟩:=yy hR
 have hx:=List.getElem?_eq_getElem hh
 have hm:=List.getElem?_eq_getElem (show h<xs.length by omega)
 have hb:=r2 _ (List.mem_of_getElem? hm)
 obtain⟨x1,x2,x3,x4,x5,x6⟩:=h3 _ (List.mem_of_getElem? hx)
 have hdl:xs[h].toNat<K.dishes.length:=by omega
 have hd:=List.getElem?_eq_getElem hdl
 obtain⟨dl,dm⟩:=d3 _ (List.mem_of_getElem? hd)
 have hn:=List.getElem?_eq_getElem (show i<K.dishes[xs[h].toNat].length by omega)
 have hnb:=dm _ (List.mem_of_getElem? hn)
 refine⟨_,xs[h].toNat,_,_,hx,?_,hd,hn,⟨x3,x4⟩,hnb,?_⟩
 ·rw[hm,Int.toNat_of_nonneg hb.1]
 ·unfold usN
  rw[zdv hi,hlG_goodOf r1 hh]
  show _=((K.hauls[h].covers.toNat*((K.dishes.getD xs[h].toNat []).getD i 0).toNat:Nat):Int)
  simp only[List.getD_eq_getElem?_getD,hd,hn,Option.getD_some]
  push_cast
  rw[Int.toNat_of_nonneg x3,Int.toNat_of_nonneg hnb.1]
def usesR (K:Kt) (xs:List Int):List (List Int):=if zW K xs=0 then usesL K xs K.hauls.length else []
section
variable {fs:Array Func} [LikeS fs]
theorem usesP_any (K:Kt) (gA dA hA:Option Addr) (gc dc hc:Nat) (xs:List Int) (mA:Option Addr) (mc:Nat) (w:World) (k:KtAt w K gA dA hA) (m:Ints w mA xs) (hlen:xs.length≤1000) :
  Calls (Pf fs) 34 #[ktV K gA dA hA gc dc hc,.slice mA xs.length mc] w fun e w'=>∃ A c,e=.returned (.tuple #[.slice A (usesR K xs).length c,.int .i64 (zW K xs)])∧Grown w w'∧DishesAt w' A (usesR K xs):=by
 by_cases hA':zW K xs=0
 ·have hu:usesR K xs=usesL K xs K.hauls.length:=if_pos hA'
  rw[hu,hA',ZA]
  exact usesAll_any K gA dA hA gc dc hc xs mA mc w k m hlen hA'
 ·have hu:usesR K xs=[]:=if_neg hA'
  rw[hu]
  have hasked:=fun W (g:Grown w W)=>ZH (fs:=fs) K gA dA hA gc dc hc xs mA mc W (k.grown g) (m.grown g) hlen
  generalize zW K xs=E at hasked hA' ⊢
  have HC:=Lib.hid hasked
  have vg:=Lib.hid (Grown.alloc w (.cells #[.slice gA K.goods.length gc,.slice dA K.dishes.length dc,.slice hA K.hauls.length hc] 29))
  clear k m hasked
  unfold ktV at *
  go_enter LK.func34,Try.ntmps34
  go_wp2_with (go_at_call 69;refine (HC.out _ vg.out).mono ?_;rintro e w1 ⟨rfl,hg1⟩)
  refine bodyPost_ret (v:=.tuple #[.slice none 0 0,.int .i64 E]) (by simp[results,Try.results34,go_sem]) rfl ?_
  first|exact⟨none,0,rfl,vg.out.trans hg1,fun j d hj=>by cases hj⟩|exact⟨none,⟨0,rfl⟩,vg.out.trans hg1,fun j d hj=>by cases hj⟩
set_option maxRecDepth 20000 in
set_option maxHeartbeats 4000000 in
theorem ruses_any (K:Kt) (gA dA hA:Option Addr) (gc dc hc:Nat) (xs:List Int) (mA:Option Addr) (mc:Nat) (w:World) (k:KtAt w K gA dA hA) (m:Ints w mA xs) (hlen:xs.length≤1000) :
  Calls (Pf fs) 35 #[ktV K gA dA hA gc dc hc,.slice mA xs.length mc] w fun e w'=>∃ A c,e=.returned (.tuple #[.slice A (usesR K xs).length c,.int .i64 (zW K xs)])∧Grown w w'∧DishesAt w' A (usesR K xs):=by
 have hasked:=fun W (g:Grown w W)=>rmenu_any (fs:=fs) K gA dA hA gc dc hc xs mA mc W (k.grown g) (m.grown g) hlen
 obtain⟨V,hV⟩:∃ V,V=w.alloc (.cells #[.slice gA K.goods.length gc,.slice dA K.dishes.length dc,.slice hA K.hauls.length hc] 29):=⟨_,rfl⟩
 have vg:Grown w V:=by rw[hV];exact Grown.alloc _ _
 have HY:Hid (∀ W,Grown V W→W.cell? ⟨w.heap.size,0,none⟩=some (.slice gA K.goods.length gc)∧W.cell? ⟨w.heap.size,1,none⟩=some (.slice dA K.dishes.length dc)∧W.cell? ⟨w.heap.size,2,none⟩=some (.slice hA K.hauls.length hc)):=by rw[hV];exact yR
 have HVG:=Lib.hid vg
 have HVE:=Lib.hid hV
 clear vg hV
 by_cases hA':zW K xs=0
 ·have hu:usesR K xs=usesL K xs K.hauls.length:=if_pos hA'
  obtain⟨hC,hR⟩:=jU hA'
  have hnh:=k.nh
  have hng:=k.ng
  have HXL:=Lib.hid (show xs.length=K.hauls.length from (yy hR).1)
  have huse:Hid (∀ (h i:Nat),h<K.hauls.length→i<K.goods.length→∃ d:Nat,xs[h]?=some (d:Int)∧∀ W,Grown w W→Calls (Pf fs) 77 #[ktV K gA dA hA gc dc hc,.int .i64 h,.int .i64 d,.int .i64 i] W fun e w'=>e=.returned (.int .i64 ((usN (dsOf K xs) h i:Nat):Int))∧Grown W w'):=fun h i hh hi=>by
   obtain⟨x,d,ns,n,e1,e2,e3,e4,e5,e6,e7⟩:=use_val hA' hh hi
   refine⟨d,e2,fun W g=>?_⟩
   have:=use_any (fs:=fs) K gA dA hA gc dc hc h d i x ns n W (k.grown g) e1 e3 e4 (by omega) (by omega)
   rw[e7] at this
   exact this
  have HM:=Lib.hid m
  rw[hA',hu,ZA]
  rw[hA'] at hasked
  have HC:=Lib.hid hasked
  clear k m hasked hA' hu hC hR
  unfold ktV at *
  go_enter LK.func35,Try.ntmps35
  go_upto_region 4 with (go_at_call 76;have hg0:=HVG.out;rw[HVE.out] at hg0;refine (HC.out _ hg0).mono ?_;rintro e w1 ⟨rfl,hg1⟩;rw[← HVE.out] at hg1;have HG1:=Lib.hid hg1;clear hg1 hg0)
  go_wp2_with fail
  go_loopw [7,8] (fun v i W=>∃ (n:Nat) (A:Option Addr) (c tp:Nat),n≤K.hauls.length∧i=.int .i64 n∧v=.slice A n c∧Hid (USt V W tp (usesL K xs n) A c)) (fun _ i _=>K.hauls.length-(intOf i).toNat)
  case atStart=>exact⟨0,none,0,0,Nat.zero_le _,rfl,rfl,Lib.hid ⟨RecList.nil,HG1.out,Nat.zero_le _⟩⟩
  case round =>
   obtain⟨n,A,c,tp,hn,rfl,rfl,HS⟩:=hrel
   obtain⟨w0,rfl⟩:∃ w0,w0=wr:=⟨_,rfl⟩
   by_cases hnl:n<K.hauls.length
   ·have hni:(n:Int)<xs.length:=by have:=HXL.out;omega
    go_wp2_with fail
    go_loopw [9,10] (fun v i W=>∃ (q:Nat) (nA:Option Addr) (nc:Nat),q≤K.goods.length∧i=.int .i64 q∧v=.slice nA q nc∧Hid (L.OwnInts W w0.heap.size nA nc (jy K xs n q))∧Hid (Grown w0 W)) (fun _ i _=>K.goods.length-(intOf i).toNat)
    case atStart=>exact⟨0,none,0,Nat.zero_le _,rfl,rfl,Lib.hid (L.OwnInts.nil _ _),Lib.hid (Grown.refl _)⟩
    case round =>
     obtain⟨q,nA,nc,hq,rfl,rfl,HO,HGW⟩:=hrel
     obtain⟨y0,y1,y2⟩:=HY.out wr (HS.out.gr.trans HGW.out)
     have hll:=Zi K xs n q
     by_cases hql:q<K.goods.length
     ·have hqi:(q:Int)<K.goods.length:=by omega
      have hsu:=JG K xs n q
      obtain⟨d,hxd,hua⟩:=huse.out n q hnl hql
      obtain⟨mb,mo,rfl,hmc⟩:=HM.out n _ hxd
      have HUA:=Lib.hid (fun W (g:Grown wr.drew W)=>hua W (HVG.out.trans (HS.out.gr.trans (HGW.out.trans (((Grown.refl wr).drewN 1).trans g)))))
      have HSU:=Lib.hid hsu
      have HSB:Hid (∀ W,Grown w0 W→(W).cell? ⟨w.heap.size,0,none⟩=some (.slice gA K.goods.length gc)∧(W).cell? ⟨w.heap.size,1,none⟩=some (.slice dA K.dishes.length dc)∧(W).cell? ⟨w.heap.size,2,none⟩=some (.slice hA K.hauls.length hc)∧(W).cell? ⟨mb,mo+n,none⟩=some (.int .i64 d)):=fun W g=>⟨(HY.out W (HS.out.gr.trans g)).1,(HY.out W (HS.out.gr.trans g)).2.1,(HY.out W (HS.out.gr.trans g)).2.2,((HVG.out.trans (HS.out.gr.trans g)).cell hmc)⟩
      have HSK:Hid (∀ W,Grown wr.drew W→(W).cell? ⟨w.heap.size,0,none⟩=some (.slice gA K.goods.length gc)∧(W).cell? ⟨w.heap.size,1,none⟩=some (.slice dA K.dishes.length dc)∧(W).cell? ⟨w.heap.size,2,none⟩=some (.slice hA K.hauls.length hc)∧(W).cell? ⟨mb,mo+n,none⟩=some (.int .i64 d)):=fun W g=>HSB.out W (HGW.out.trans (((Grown.refl wr).drewN 1).trans g))
      generalize hrow:jy K xs n q=row at HO HSU hll
      generalize ((usN (dsOf K xs) n q:Nat):Int)=x at HUA HSU
      obtain rfl:q=row.length:=hll.symm
      clear hsu hrow hua hxd hmc
      go_upto_region 12 with fail
      have hS:(wr.drew).cell? ⟨w.heap.size,0,none⟩=some (.slice gA K.goods.length gc)∧(wr.drew).cell? ⟨w.heap.size,1,none⟩=some (.slice dA K.dishes.length dc)∧(wr.drew).cell? ⟨w.heap.size,2,none⟩=some (.slice hA K.hauls.length hc)∧(wr.drew).cell? ⟨mb,mo+n,none⟩=some (.int .i64 d):=HSK.out _ (Grown.refl _)
      clear y0 y1 y2
      refine qh (by kernel_rfl) (fun W=>(W).cell? ⟨w.heap.size,0,none⟩=some (.slice gA K.goods.length gc)∧(W).cell? ⟨w.heap.size,1,none⟩=some (.slice dA K.dishes.length dc)∧(W).cell? ⟨w.heap.size,2,none⟩=some (.slice hA K.hauls.length hc)∧(W).cell? ⟨mb,mo+n,none⟩=some (.int .i64 d)) [] ?_
      have HGD:=Lib.hid (show Grown wr wr.drew from (Grown.refl wr).drewN 1)
      generalize wr.drew=W0 at hS HUA HSK HGD ⊢
      have HO:=Lib.hid (qr HO.out HGD.out)
      have HGW:=Lib.hid (HGW.out.trans HGD.out)
      have HG0:=Lib.hid (Grown.refl W0)
      refine zh 0 ?_ rfl ?_ ?_;case refine_2=>(intro w _;go_simp;try rfl)
      refine zx 1 ?_ rfl hS ?_ ?_;case refine_2=>(intro w hSw;(try dsimp only at hSw);go_simp;try rfl)
      refine zh 2 ?_ rfl ?_ ?_;case refine_2=>(intro w _;go_simp;try rfl)
      refine zh 3 ?_ rfl ?_ ?_;case refine_2=>(intro w _;go_simp;try rfl)
      refine zh 4 ?_ rfl ?_ ?_;case refine_2=>(intro w _;go_simp;try rfl)
      refine zh 5 ?_ rfl ?_ ?_;case refine_2=>(intro w _;go_simp;try rfl)
      refine zx 6 ?_ rfl hS ?_ ?_;case refine_2=>(intro w hSw;(try dsimp only at hSw);go_simp;try rfl)
      refine zh 7 ?_ rfl ?_ ?_;case refine_2=>(intro w _;go_simp;try rfl)
      refine zw (i:=8) rfl (by kernel_rfl) ?_
      intro Kq hKq
      go_simp
      refine (HUA.out _ HG0.out).mono ?_
      rintro e w3 ⟨rfl,g3⟩
      have HG3:=Lib.hid (HG0.out.trans g3)
      have hS:(w3).cell? ⟨w.heap.size,0,none⟩=some (.slice gA K.goods.length gc)∧(w3).cell? ⟨w.heap.size,1,none⟩=some (.slice dA K.dishes.length dc)∧(w3).cell? ⟨w.heap.size,2,none⟩=some (.slice hA K.hauls.length hc)∧(w3).cell? ⟨mb,mo+n,none⟩=some (.int .i64 d):=HSK.out w3 HG3.out
      refine hKq.out _ _ hS (fun _=>?_)
      clear hKq Kq g3
      refine zw (i:=9) rfl (by kernel_rfl) ?_
      intro Kq hKq
      go_simp
      have HG4:=Lib.hid (HG3.out.trans (Grown.alloc w3 (.cells #[.int .i64 x] 3)))
      have hS:(w3.alloc (.cells #[.int .i64 x] 3)).cell? ⟨w.heap.size,0,none⟩=some (.slice gA K.goods.length gc)∧(w3.alloc (.cells #[.int .i64 x] 3)).cell? ⟨w.heap.size,1,none⟩=some (.slice dA K.dishes.length dc)∧(w3.alloc (.cells #[.int .i64 x] 3)).cell? ⟨w.heap.size,2,none⟩=some (.slice hA K.hauls.length hc)∧(w3.alloc (.cells #[.int .i64 x] 3)).cell? ⟨mb,mo+n,none⟩=some (.int .i64 d):=HSK.out _ HG4.out
      refine hKq.out _ _ hS (fun _=>?_)
      clear hKq Kq
      refine zw (i:=10) rfl (by kernel_rfl) ?_
      intro Kq hKq
      refine step_app_ints rfl (.tmp 30) (.tmp 39) 22 rfl w0.heap.size ((like_under 22).trans Try.underlying22) inf3 nA nc row rfl (qr HO.out (HG4.out)) (w3.heap.size+1) (some ⟨w3.heap.size,0,none⟩) 1 [x] rfl ints1 (by simp;omega) (by have:=HGW.out.size;have:=HG3.out.size;simp;omega) ?_
      intro A2 c2 w5 hO5 hg5 _
      have HG5:=Lib.hid (show Grown w0 w5 from Grown.by hg5 w0 (HGW.out.trans HG4.out) fun k hk=>(zV HO.out hk).1)
      have hS:(w5).cell? ⟨w.heap.size,0,none⟩=some (.slice gA K.goods.length gc)∧(w5).cell? ⟨w.heap.size,1,none⟩=some (.slice dA K.dishes.length dc)∧(w5).cell? ⟨w.heap.size,2,none⟩=some (.slice hA K.hauls.length hc)∧(w5).cell? ⟨mb,mo+n,none⟩=some (.int .i64 d):=HSB.out w5 HG5.out
      refine hKq.out _ _ hS (fun _=>?_)
      clear hKq Kq hg5
      refine zh 11 ?_ rfl ?_ ?_;case refine_2=>(intro w _;go_simp;try rfl)
      refine qd (by kernel_rfl) ?_
      try simp only[Act.put,List.getElem_toArray,List.getElem_cons_succ,List.getElem_cons_zero,List.setIfInBounds_toArray,List.set_cons_zero,List.set_cons_succ]
      go_wp2_with fail
      go_roundw
      case rel=>exact⟨row.length+1,A2,c2,by omega,by go_num,by simp,by rw[HSU.out];exact Lib.hid hO5,HG5⟩
      case measure=>simp[intOf];omega
     ·have hqi:¬ (q:Int)<K.goods.length:=by omega
      obtain rfl:q=K.goods.length:=by omega
      have HSU:=Lib.hid (zai K xs n)
      have hll2:=ZA K xs n
      generalize jy K xs n K.goods.length=row at HO HSU hll
      generalize usesL K xs n=ls at HS HSU hll2
      have HS9:=Lib.hid (HS.out.to (HGW.out.trans (Grown.alloc wr (.cells #[.slice nA K.goods.length nc] 22))))
      have hO9:L.OwnInts (wr.alloc (.cells #[.slice nA K.goods.length nc] 22)) V.heap.size nA nc row:=qS (qr HO.out (Grown.alloc _ _)) HS.out.gr.size
      have hT9:∀ k,nA.map (·.block)=some k→tp≤k:=fun k hk=>by
       have h1:=(zV HO.out (by rw[qu];exact hk)).1
       have h2:=HS.out.top
       omega
      have HO9:=Lib.hid hO9
      have HT9:=Lib.hid hT9
      have HN9:=Lib.hid (heap_alloc_new wr (.cells #[.slice nA K.goods.length nc] 22))
      obtain rfl:n=ls.length:=hll2.symm
      clear hO9 hT9
      go_wp2_with (at_builtin;refine jR rfl (.tmp 41) (.tmp 43) 32 rfl ((like_under 32).trans Try.underlying32) _ 24 inf22 rfl (by decide) (by decide) rfl HS9.out.row wr.heap.size 1 rfl row nA nc _ 22 (by rw[HN9.out,← hll];rfl) rfl rfl (by intro u hu;simp[encD] at hu;subst hu;rfl) HO9.out HT9.out (by decide) (by omega) HS9.out.gr.size HS9.out.top ?_;intro A2 c2 w9 hR9 hg9)
      have hG9:Grown V w9:=Grown.by hg9 V HS9.out.gr fun k hk=>(HS9.out.row.tag hk).2.1
      go_roundw
      case rel=>exact⟨ls.length+1,A2,c2,_,by omega,by go_num,by simp,by rw[HSU.out];exact Lib.hid ⟨hR9,hG9,Nat.le_refl _⟩⟩
      case measure=>simp[intOf];omega
   ·have hni:¬ (n:Int)<xs.length:=by have:=HXL.out;omega
    obtain rfl:n=K.hauls.length:=by omega
    go_wp2_with fail
    refine bodyPost_ret (v:=.tuple #[.slice A K.hauls.length c,.int .i64 0]) (by simp[results,Try.results35,go_sem]) rfl ⟨A,⟨c,rfl⟩,HVG.out.trans HS.out.gr,DsList.at_ HS.out.row fun d hd=>?_⟩
    obtain⟨h,_,rfl⟩:=List.mem_map.1 hd
    rw[Zi]
    exact hng
 ·have hu:usesR K xs=[]:=if_neg hA'
  rw[hu]
  generalize zW K xs=E at hasked hA' ⊢
  have HC:=Lib.hid hasked
  clear k m hasked
  unfold ktV at *
  go_enter LK.func35,Try.ntmps35
  go_wp2_with (go_at_call 76;have hg0:=HVG.out;rw[HVE.out] at hg0;refine (HC.out _ hg0).mono ?_;rintro e w1 ⟨rfl,hg1⟩)
  rw[← HVE.out] at hg1
  refine bodyPost_ret (v:=.tuple #[.slice none 0 0,.int .i64 E]) (by simp[results,Try.results35,go_sem]) rfl ?_
  first|exact⟨none,0,rfl,HVG.out.trans hg1,fun j d hj=>by cases hj⟩|exact⟨none,⟨0,rfl⟩,HVG.out.trans hg1,fun j d hj=>by cases hj⟩
end
end
end Go.Gal
