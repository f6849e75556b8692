/- Walks: Cost. Plain: the cheapest plan of a good is the least of all that will do; prices that are so many times as much, or that rise. Walks: Rise. Plain: prices that are so many times .. -/
import Derived.Test.YtlgiofglcgbjgaaM40
namespace Go.Gal
open Go Go.Par Go.Proofs Go.RowKit
section
def dotTo (l p:List Int):Nat→Int
 | 0=>0
 | n+1=>dotTo l p n+l.getD n 0*p.getD n 0
def costR (K:Kt) (ls:List (List Int)):Nat→Int
 | 0=>0
 | h+1=>costR K ls h+dotTo (ls.getD h []) (hlAt K.hauls h).prices K.goods.length
theorem dotTo_bound {l p:List Int} (hl:∀ x∈l,0≤x∧x≤20) (hp:∀ x∈p,0≤x∧x≤50):∀ n:Nat,0≤dotTo l p n∧dotTo l p n≤(n:Int)*1000
 | 0=>by simp[dotTo]
 | n+1=>by
  obtain⟨a,b⟩:=dotTo_bound hl hp n
  have h1 : 0≤l.getD n 0∧l.getD n 0≤20:=by
   rw[List.getD_eq_getElem?_getD]
   cases hq:l[n]? with
   | none=>simp
   | some x=>exact hl x (List.mem_of_getElem? hq)
  have h2 : 0≤p.getD n 0∧p.getD n 0≤50:=by
   rw[List.getD_eq_getElem?_getD]
   cases hq:p[n]? with
   | none=>simp
   | some x=>exact hp x (List.mem_of_getElem? hq)
  have h3 : 0≤l.getD n 0*p.getD n 0:=Int.mul_nonneg h1.1 h2.1
  have h4:l.getD n 0*p.getD n 0≤20*50:=Int.mul_le_mul h1.2 h2.2 h2.1 (by decide)
  unfold dotTo
  omega
theorem costR_bound {K:Kt} {ls:List (List Int)} (hC:zR K=0) (hL:qN K ls=0):∀ {h:Nat},h≤K.hauls.length→0≤costR K ls h∧costR K ls h≤(h:Int)*3000
 | 0,_=>by simp[costR]
 | h+1,hh=>by
  obtain⟨a,b⟩:=costR_bound hC hL (h:=h) (by omega)
  obtain⟨e1,e2⟩:=loadedE_zero hL
  have g3:=(qP (qb hC).1).2.1
  have hp:=((qm (qb hC).2.2).2.2 _ (List.mem_of_getElem? (jG (show h<K.hauls.length by omega)))).2.2.2.2.2
  have hx:=List.getElem?_eq_getElem (show h<ls.length by omega)
  have hl:∀ x∈ls.getD h [],0≤x∧x≤20:=by
   rw[List.getD_eq_getElem?_getD,hx]
   exact (e2 _ (List.mem_of_getElem? hx)).2
  obtain⟨c,d⟩:=dotTo_bound hl hp K.goods.length
  unfold costR
  have:(K.goods.length:Int)*1000≤3*1000:=by omega
  omega
section
variable {fs:Array Func} [LikeS fs]
set_option maxRecDepth 20000 in
set_option maxHeartbeats 4000000 in
theorem cost_ok (K:Kt) (gA dA:Option Addr) (hb ho gc dc hc:Nat) (ls:List (List Int)) (lA:Option Addr) (lc:Nat) (w:World) (k:KtAt w K gA dA (some ⟨hb,ho,none⟩)) (hC:zR K=0) (hl:DishesAt w lA ls) (hL:qN K ls=0) :
  Calls (Pf fs) 43 #[ktV K gA dA (some ⟨hb,ho,none⟩) gc dc hc,.slice lA ls.length lc] w fun e w'=>e=.returned (.tuple #[.int .i64 (costR K ls K.hauls.length),.int .i64 0])∧Grown w w':=by
 obtain⟨e1,e2⟩:=loadedE_zero hL
 have hnh:=k.nh
 have hck:=fun W (g:Grown w W)=>check_any (fs:=fs) K gA dA (some ⟨hb,ho,none⟩) gc dc hc W (k.grown g)
 have hld:=fun W (g:Grown w W)=>loaded_any (fs:=fs) K gA dA (some ⟨hb,ho,none⟩) gc dc hc ls lA lc W (hl.grown g) (by omega)
 rw[hC] at hck
 rw[hL] at hld
 simp only[e1] at hld
 have HCK:=Lib.hid hck
 have HLD:=Lib.hid hld
 have HK:=Lib.hid k
 have HL:=Lib.hid hl
 have HCB:=Lib.hid (fun h (hh:h≤K.hauls.length)=>costR_bound hC hL hh)
 have HE:=Lib.hid e2
 have g3:=(qP (qb hC).1).2.1
 have h5:=(qm (qb hC).2.2).2.1
 have HP:=Lib.hid (qm (qb hC).2.2).2.2
 obtain⟨V,hV⟩:∃ V,V=w.alloc (.cells #[.slice gA K.goods.length gc,.slice dA K.dishes.length dc,.slice (some ⟨hb,ho,none⟩) K.hauls.length hc] 29):=⟨_,rfl⟩
 have v0:V.heap[w.heap.size]?=some (.cells #[.slice gA K.goods.length gc,.slice dA K.dishes.length dc,.slice (some ⟨hb,ho,none⟩) K.hauls.length hc] 29 (0,0)):=by rw[hV];exact heap_alloc_new w _
 have vg:Grown w V:=by rw[hV];exact Grown.alloc _ _
 have HY:=Lib.hid (show ∀ W,Grown V W→W.cell? ⟨w.heap.size,0,none⟩=some (.slice gA K.goods.length gc)∧W.cell? ⟨w.heap.size,1,none⟩=some (.slice dA K.dishes.length dc)∧W.cell? ⟨w.heap.size,2,none⟩=some (.slice (some ⟨hb,ho,none⟩) K.hauls.length hc) from fun W g =>
  ⟨za (zk v0 g) 0,za (zk v0 g) 1,za (zk v0 g) 2⟩)
 have HVG:=Lib.hid vg
 have HVE:=Lib.hid hV
 clear k hl hck hld v0 vg hV hC hL e2
 rw[e1]
 unfold ktV at *
 go_enter LK.func43,Try.ntmps43
 go_upto_region 7 with (first|(go_at_call 36;have hg0:=HVG.out;rw[HVE.out] at hg0;refine (HCK.out _ hg0).mono ?_;rintro e w1 ⟨rfl,hg1⟩;rw[← HVE.out] at hg1;have HG1:=Lib.hid hg1;obtain⟨y0,y1,y2⟩:=HY.out w1 hg1;clear hg1 hg0)|(go_at_call 83;refine (HLD.out _ (HVG.out.trans HG1.out)).mono ?_;rintro e w2 ⟨rfl,g2⟩;have HG2:=Lib.hid (HG1.out.trans g2);clear g2))
 clear y0 y1 y2
 go_wp2_with fail
 go_loopw [8,26] (fun a i W=>∃ h:Nat,i=.int .i64 h∧h≤K.hauls.length∧a=.int .i64 (costR K ls h)∧Hid (Grown V W)) (fun _ i _=>K.hauls.length-(intOf i).toNat)
 case atStart=>exact⟨0,rfl,Nat.zero_le _,rfl,HG2⟩
 case round =>
  obtain⟨h,rfl,hh,rfl,HGW⟩:=hrel
  obtain⟨y0,y1,y2⟩:=HY.out wr HGW.out
  by_cases hhl:h<K.hauls.length
  ·have i1:(h:Int)<K.hauls.length:=by omega
   have hx:=List.getElem?_eq_getElem (show h<ls.length by omega)
   obtain⟨q1,q2⟩:=HE.out _ (List.mem_of_getElem? hx)
   obtain⟨l,hle⟩:∃ l,l=ls[h]'(by omega):=⟨_,rfl⟩
   rw[← hle] at hx q1 q2
   have hgl:ls.getD h []=l:=by rw[List.getD_eq_getElem?_getD,hx];rfl
   obtain⟨lb,lo,rfl,rA,rc,r1,r2,_⟩:=HL.out h l hx
   have r1:=(HVG.out.trans HGW.out).cell r1
   rw[q1] at r1
   obtain⟨hb',ho',eh,pA,pc,_,_,y3,y4,_⟩:=HK.out.hauls h _ (jG hhl)
   cases eh
   have y3:=(HVG.out.trans HGW.out).cell y3
   obtain⟨_,_,_,_,p1,p2⟩:=HP.out _ (List.mem_of_getElem? (jG hhl))
   rw[p1] at y3
   obtain⟨pr,hpr⟩:∃ pr,pr=(hlAt K.hauls h).prices:=⟨_,rfl⟩
   rw[← hpr] at y4 p1 p2
   have HCS:Hid (costR K ls (h+1)=costR K ls h+dotTo l pr K.goods.length):=by
    show _=_
    rw[costR,hgl,hpr]
   obtain⟨b1,b2⟩:=HCB.out h hh
   have HR2:=Lib.hid r2
   have HY4:=Lib.hid y4
   have HDB:=Lib.hid (dotTo_bound q2 p2)
   have HY3:=Lib.hid y3
   clear hle hgl hpr r2 y4
   generalize costR K ls h=base at *
   generalize ls.length=lsl at *
   go_wp2_with fail
   have HGR:=HGW
   clear y3 y0 y1 y2 r1
   go_loopw [8,33] (fun a i W=>∃ g:Nat,i=.int .i64 g∧g≤K.goods.length∧a=.int .i64 (base+dotTo l pr g)∧Hid (Grown V W)∧Hid (Grown wr W)) (fun _ i _=>K.goods.length-(intOf i).toNat)
   case atStart=>exact⟨0,rfl,Nat.zero_le _,by simp[dotTo],HGR,Lib.hid (Grown.refl _)⟩
   case round =>
    obtain⟨g,rfl,hg,rfl,HGV,HGQ⟩:=hrel
    obtain⟨y0,y1,y2⟩:=HY.out _ HGV.out
    have y3:=HGQ.out.cell HY3.out
    by_cases hgl:g<K.goods.length
    ·have i2:(g:Int)<K.goods.length:=by omega
     have hlx:=List.getElem?_eq_getElem (show g<l.length by omega)
     have hpx:=List.getElem?_eq_getElem (show g<pr.length by omega)
     obtain⟨xb,xo,rfl,z1⟩:=HR2.out g _ hlx
     obtain⟨zb,zo,rfl,z2⟩:=HY4.out g _ hpx
     have z1:=(HVG.out.trans HGV.out).cell z1
     have z2:=(HVG.out.trans HGV.out).cell z2
     have hb1:=q2 _ (List.mem_of_getElem? hlx)
     have hb2:=p2 _ (List.mem_of_getElem? hpx)
     have hd1:dotTo l pr (g+1)=dotTo l pr g+l[g]'(by omega)*pr[g]'(by omega):=by
      rw[dotTo,List.getD_eq_getElem?_getD,List.getD_eq_getElem?_getD,hlx,hpx]
      rfl
     generalize l[g]'(by omega)=x at *
     generalize pr[g]'(by omega)=y at *
     have m1 : 0≤x*y:=Int.mul_nonneg hb1.1 hb2.1
     have m2:x*y≤20*50:=Int.mul_le_mul hb1.2 hb2.2 hb2.1 (by decide)
     obtain⟨c1,c2⟩:=HDB.out g
     have hw1:IntKind.i64.wrap (x*y)=x*y:=wrap_of rfl (by omega) (by omega)
     have hw2:IntKind.i64.wrap (base+dotTo l pr g+x*y)=base+dotTo l pr (g+1):=wrap_of (by rw[hd1];omega) (by rw[hd1];omega) (by rw[hd1];omega)
     clear m1 m2 c1 c2 hd1 hb1 hb2 hlx hpx
     generalize hnx:base+dotTo l pr (g+1)=nx at hw2
     have HNX:=Lib.hid hnx
     clear hnx
     go_wp2_with fail
     go_roundw
     case rel=>exact⟨g+1,by go_num,by omega,by rw[HNX.out],HGV,HGQ⟩
     case measure=>simp[intOf];omega
    ·have i2:¬ (g:Int)<K.goods.length:=by omega
     obtain rfl:g=K.goods.length:=by omega
     go_wp2_with fail
     go_roundw
     case rel=>exact⟨h+1,by go_num,by omega,by rw[HCS.out],HGV⟩
     case measure=>simp[intOf];omega
  ·have i1:¬ (h:Int)<K.hauls.length:=by omega
   obtain rfl:h=K.hauls.length:=by omega
   go_wp2_with fail
   refine bodyPost_ret (v:=.tuple #[.int .i64 (costR K ls K.hauls.length),.int .i64 0]) (by simp[results,Try.results43,go_sem]) rfl ⟨rfl,HVG.out.trans HGW.out⟩
end
end
section
def costL:List Haul1→List Nat→Nat
 | h::hs,n::l=>costL hs l+n*h.price
 | [],_=>0
 | _::_,[]=>0
theorem planFrom_costL (D:Good1):∀ (hs:List Haul1) (t:Nat),(zz D hs t).2.2=false→(zz D hs t).2.1=costL hs (zz D hs t).1
 | [],_,_=>rfl
 | h::hs,t,hf=>by
  have key:∀ k,(zw D h hs t k).2.2=false→(zw D h hs t k).2.1=costL (h::hs) (zw D h hs t k).1:=by
   intro k
   induction k with
   | zero=>intro hb;simp[bestTo_zero] at hb
   | succ k ih =>
    intro hb
    rw[qr] at hb ⊢
    unfold tryN at hb ⊢
    split at hb
    ·rename_i h1
     rw[if_pos h1]
     exact ih hb
    ·rename_i h1
     rw[if_neg h1]
     dsimp only at hb ⊢
     split at hb
     ·rename_i h2
      rw[if_pos h2]
      simp only[Bool.and_eq_true,Bool.not_eq_true'] at h2
      show _+_=costL hs _+_
      rw[planFrom_costL D hs _ h2.1]
     ·rename_i h2
      rw[if_neg h2]
      exact ih hb
  rw[← bestTo_all] at hf ⊢
  exact key _ hf
theorem tryN_keeps {D:Good1} {h:Haul1} {R:Nat→Plan} {t:Nat} {b:Plan} {n c:Nat} (h1:b.2.2=false) (h2:b.2.1≤c):(tryN D h R t b n).2.2=false∧(tryN D h R t b n).2.1≤c:=by
 unfold tryN
 split
 ·exact⟨h1,h2⟩
 ·dsimp only
  split
  ·rename_i h3
   simp only[h1,Bool.and_eq_true,Bool.or_eq_true,decide_eq_true_eq,Bool.false_eq_true,false_or] at h3
   exact⟨rfl,by show _+_≤c;omega⟩
  ·exact⟨h1,h2⟩
theorem jA (D:Good1):∀ {hs:List Haul1} {t:Nat} {l:List Nat},Fits D hs t l→(zz D hs t).2.2=false∧(zz D hs t).2.1≤costL hs l
 | [],_,[],_=>⟨rfl,Nat.le_refl _⟩
 | h::hs,t,n::l,⟨h1,h2,h3⟩=>by
  obtain⟨i1,i2⟩:=jA D h3
  have hb:(zw D h hs t (n+1)).2.2=false∧(zw D h hs t (n+1)).2.1≤costL (h::hs) (n::l):=by
   rw[qr]
   unfold tryN
   rw[if_neg (by omega)]
   dsimp only
   split
   ·exact⟨rfl,by show _+_≤costL hs l+_;omega⟩
   ·rename_i h4
    rw[i1] at h4
    simp only[Bool.not_false,Bool.true_and,Bool.or_eq_true,decide_eq_true_eq,not_or,Nat.not_lt] at h4
    exact⟨by simpa using h4.1,by show _≤costL hs l+_;omega⟩
  have key:∀ k,n+1≤k→(zw D h hs t k).2.2=false∧(zw D h hs t k).2.1≤costL (h::hs) (n::l):=by
   intro k
   induction k with
   | zero=>intro h;omega
   | succ k ih =>
    intro hk
    rcases Nat.lt_or_ge n k with q|q
    ·obtain⟨j1,j2⟩:=ih q
     rw[qr]
     exact tryN_keeps j1 j2
    ·rw[show k=n by omega]
     exact hb
  rw[← bestTo_all]
  exact key _ h1
 | [],_,_::_,h=>h.elim
 | _::_,_,[],h=>h.elim
end
section
section
variable {fs:Array Func} [LikeS fs]
end
end
section
section
variable {K:Kt} {xs:List Int} {h g:Nat} {p:Int}
end
end
section
structure EasyH (D D':Good1) (h h':Haul1):Prop where
 price:h'.price=h.price
 after:∀ x y:Nat,x≤y→after D h x≤after D' h' y
structure EasyGd (x y:Gd):Prop where
 room:x.room≤y.room
 reserve:y.reserve≤x.reserve
 melts:y.melts=x.melts∨y.melts=0∨(0<x.melts∧x.melts≤y.melts)
 start:y.start=x.start
structure EasyK (K K':Kt):Prop where
 goods:K'.goods.length=K.goods.length∧∀ i,i<K.goods.length→EasyGd (gdAt K.goods i) (gdAt K'.goods i)
 dishes:K'.dishes=K.dishes
 hauls:K'.hauls.length=K.hauls.length∧∀ i,i<K.hauls.length→(hlAt K'.hauls i).hours=(hlAt K.hauls i).hours∧(hlAt K'.hauls i).prices=(hlAt K.hauls i).prices∧(hlAt K'.hauls i).covers≤(hlAt K.hauls i).covers
end
section
theorem bestTo_head {D:Good1} {h:Haul1} {hs:List Haul1} {t:Nat} : ∀ {k:Nat},(zw D h hs t k).2.2=false→∃ n,n<k∧(D.reserve:Int)≤after D h (t+n)∧(zz D hs (after D h (t+n)).toNat).2.2=false∧(zw D h hs t k).1=n::(zz D hs (after D h (t+n)).toNat).1∧(zw D h hs t k).2.1=(zz D hs (after D h (t+n)).toNat).2.1+n*h.price
 | 0,hb=>by simp[bestTo_zero] at hb
 | k+1,hb=>by
  have up:(zw D h hs t k).2.2=false→∃ n,n<k+1∧(D.reserve:Int)≤after D h (t+n)∧(zz D hs (after D h (t+n)).toNat).2.2=false∧(zw D h hs t k).1=n::(zz D hs (after D h (t+n)).toNat).1∧(zw D h hs t k).2.1=(zz D hs (after D h (t+n)).toNat).2.1+n*h.price:=fun q=>by
   obtain⟨n,a,b⟩:=bestTo_head q
   exact⟨n,by omega,b⟩
  rw[qr] at hb ⊢
  unfold tryN at hb ⊢
  split at hb
  ·rename_i h1
   rw[if_pos h1]
   exact up hb
  ·rename_i h1
   rw[if_neg h1]
   dsimp only at hb ⊢
   split at hb
   ·rename_i h2
    rw[if_pos h2]
    simp only[Bool.and_eq_true,Bool.not_eq_true'] at h2
    exact⟨k,Nat.lt_succ_self k,by omega,h2.1,rfl,rfl⟩
   ·rename_i h2
    rw[if_neg h2]
    exact up hb
theorem bestTo_min {D:Good1} {h:Haul1} {hs:List Haul1} {t m:Nat} {l:List Nat} (h2:(D.reserve:Int)≤after D h (t+m)) (h3:Fits D hs (after D h (t+m)).toNat l):∀ {k:Nat},m<k→(zw D h hs t k).2.2=false∧(zw D h hs t k).2.1≤costL (h::hs) (m::l)
 | 0,hk=>by omega
 | k+1,hk=>by
  rcases Nat.lt_or_ge m k with q|q
  ·obtain⟨j1,j2⟩:=bestTo_min h2 h3 q
   rw[qr]
   exact tryN_keeps j1 j2
  ·obtain rfl:k=m:=by omega
   obtain⟨i1,i2⟩:=jA D h3
   rw[qr]
   unfold tryN
   rw[if_neg (by omega)]
   dsimp only
   split
   ·exact⟨rfl,by show _+_≤costL hs l+_;omega⟩
   ·rename_i h4
    rw[i1] at h4
    simp only[Bool.not_false,Bool.true_and,Bool.or_eq_true,decide_eq_true_eq,not_or,Nat.not_lt] at h4
    exact⟨by simpa using h4.1,by show _≤costL hs l+_;omega⟩
theorem bestTo_first {D:Good1} {h:Haul1} {hs:List Haul1} {t m:Nat} {l:List Nat} (h2:(D.reserve:Int)≤after D h (t+m)) (h3:Fits D hs (after D h (t+m)).toNat l):∀ {k:Nat} {n:Nat} {r:List Nat},(zw D h hs t k).2.2=false→(zw D h hs t k).1=n::r→m<n→(zw D h hs t k).2.1<costL (h::hs) (m::l)
 | 0,n,r,hb,_,_=>by simp[bestTo_zero] at hb
 | k+1,n,r,hb,he,hm=>by
  rw[qr] at hb he ⊢
  unfold tryN at hb he ⊢
  split at hb
  ·rename_i h1
   rw[if_pos h1] at he ⊢
   exact bestTo_first h2 h3 hb he hm
  ·rename_i h1
   rw[if_neg h1] at he ⊢
   dsimp only at hb he ⊢
   split at hb
   ·rename_i h4
    rw[if_pos h4] at he ⊢
    simp only[List.cons.injEq] at he
    obtain⟨rfl,_⟩:=he
    obtain⟨a1,a2⟩:=bestTo_min h2 h3 hm
    rw[a1] at h4
    simp only[Bool.and_eq_true,Bool.false_or,decide_eq_true_eq] at h4
    exact Nat.lt_of_lt_of_le h4.2 a2
   ·rename_i h4
    rw[if_neg h4] at he ⊢
    exact bestTo_first h2 h3 hb he hm
theorem planFrom_first (D:Good1):∀ {hs:List Haul1} {t:Nat} {l:List Nat},Fits D hs t l→costL hs l≤(zz D hs t).2.1→∀ j:Nat,(∀ i:Nat,i<j→l[i]?=(zz D hs t).1[i]?)→∀ a b,l[j]?=some a→(zz D hs t).1[j]?=some b→b≤a
 | [],_,[],_,_,j,_,a,b,ha,_=>by simp at ha
 | h::hs,t,m::l,⟨h1,h2,h3⟩,hc,j,hj,a,b,ha,hb=>by
  have hf:=(jA D (hs:=h::hs) (t:=t) (l:=m::l) ⟨h1,h2,h3⟩).1
  rw[← bestTo_all] at hf hc hj hb
  obtain⟨n,n1,n2,n3,n4,n5⟩:=bestTo_head hf
  rw[n4] at hj hb
  cases j with
  | zero =>
   simp only[List.getElem?_cons_zero,Option.some.injEq] at ha hb
   subst ha hb
   rcases Nat.lt_or_ge m n with q|q
   ·have:=bestTo_first h2 h3 hf n4 q
    omega
   ·exact q
  | succ j =>
   have e0:=hj 0 (by omega)
   simp only[List.getElem?_cons_zero,Option.some.injEq] at e0
   subst e0
   rw[n5] at hc
   have hc2:costL hs l+m*h.price≤(zz D hs (after D h (t+m)).toNat).2.1+m*h.price:=hc
   exact planFrom_first D h3 (by omega) j (fun i hi=>by have:=hj (i+1) (by omega);simpa using this) a b (by simpa using ha) (by simpa using hb)
 | [],_,_::_,h,_,_,_,_,_,_,_=>h.elim
 | _::_,_,[],h,_,_,_,_,_,_,_=>h.elim
def colN (ld:Nat→Nat) (h r:Nat):List Nat:=(List.range' h r).map ld
theorem fits_of_well {D:Good1} {ld:Nat→Nat} : ∀ {r h:Nat},h+r=D.hauls.length→nowD D ld h≤D.room→(∀ j,h≤j→j<h+r→barD D ld j=false∧shortD D ld j=false)→Fits D (D.hauls.drop h) (nowD D ld h) (colN ld h r)
 | 0,h,hh,_,_=>by
  rw[List.drop_eq_nil_of_le (by omega)]
  exact trivial
 | r+1,h,hh,hn,hw=>by
  obtain⟨w1,w2⟩:=hw h (Nat.le_refl _) (by omega)
  have hx:=List.getElem?_eq_getElem (show h<D.hauls.length by omega)
  have e:hlG D h=D.hauls[h]:=by unfold hlG;rw[List.getD_eq_getElem?_getD,hx];rfl
  rw[List.drop_eq_getElem_cons (show h<D.hauls.length by omega)]
  unfold colN
  rw[List.range'_succ,List.map_cons,← e]
  unfold barD barB at w1
  unfold shortD at w2
  simp only[Bool.or_eq_false_iff,Bool.and_eq_false_iff,decide_eq_false_iff_not,Nat.not_lt] at w1
  simp only[decide_eq_false_iff_not,Int.not_lt] at w2
  have h2:nowD D ld (h+1)≤D.room:=by
   show (after D (hlG D h) (nowD D ld h+ld h)).toNat≤D.room
   have:after D (hlG D h) (nowD D ld h+ld h)≤(nowD D ld h+ld h:Nat):=by unfold after;omega
   omega
  refine⟨?_,w2,fits_of_well (r:=r) (h:=h+1) (by omega) h2 fun j a b=>hw j (by omega) (by omega)⟩
  unfold tries
  split
  ·rename_i q
   rcases w1.1 with z|z
   ·omega
   ·exact absurd q z
  ·omega
theorem well_of_fits {D:Good1} {ld:Nat→Nat} : ∀ {r h:Nat},h+r=D.hauls.length→Fits D (D.hauls.drop h) (nowD D ld h) (colN ld h r)→∀ j,h≤j→j<h+r→barD D ld j=false∧shortD D ld j=false
 | 0,h,hh,_,j,a,b=>by omega
 | r+1,h,hh,hf,j,a,b=>by
  have hx:=List.getElem?_eq_getElem (show h<D.hauls.length by omega)
  have e:hlG D h=D.hauls[h]:=by unfold hlG;rw[List.getD_eq_getElem?_getD,hx];rfl
  rw[List.drop_eq_getElem_cons (show h<D.hauls.length by omega)] at hf
  unfold colN at hf
  rw[List.range'_succ,List.map_cons,← e] at hf
  obtain⟨f1,f2,f3⟩:=hf
  rcases Nat.lt_or_ge h j with q|q
  ·exact well_of_fits (r:=r) (h:=h+1) (by omega) f3 j (by omega) (by omega)
  ·obtain rfl:j=h:=by omega
   unfold barD barB shortD
   simp only[Bool.or_eq_false_iff,Bool.and_eq_false_iff,decide_eq_false_iff_not,Nat.not_lt,Int.not_lt]
   unfold tries at f1
   refine⟨⟨?_,?_⟩,f2⟩
   ·split at f1
    ·rename_i q
     left
     omega
    ·rename_i q
     right
     exact q
   ·split at f1<;>omega
end
section
def RowLt (n:Nat) (a b:List Int):Prop:=∃ g,g<n∧(a.getD g 0).toNat<(b.getD g 0).toNat
theorem rowsL_pair {K:Kt} {h:Nat} : ∀ g:Nat,(rowsL K h g).Pairwise (RowLt g)
 | 0=>by simp[rowsL]
 | g+1=>by
  unfold rowsL
  rw[List.pairwise_flatMap]
  refine⟨fun r hr=>?_,(rowsL_pair (K:=K) (h:=h) g).imp_of_mem ?_⟩
  ·rw[List.pairwise_map]
   refine List.pairwise_lt_range.imp ?_
   intro m n hmn
   have hl:=rowsL_len r hr
   refine⟨g,Nat.lt_succ_self g,?_⟩
   simp only[List.getD_eq_getElem?_getD]
   rw[List.getElem?_append_right (by omega),List.getElem?_append_right (by omega),hl,Nat.sub_self]
   simp only[List.getElem?_cons_zero,Option.getD_some]
   omega
  ·intro a b ha hb ⟨g0,h1,h2⟩ x hx y hy
   obtain⟨m,_,rfl⟩:=List.mem_map.1 hx
   obtain⟨n,_,rfl⟩:=List.mem_map.1 hy
   have hla:=rowsL_len a ha
   have hlb:=rowsL_len b hb
   refine⟨g0,by omega,?_⟩
   simp only[List.getD_eq_getElem?_getD] at h2 ⊢
   rw[List.getElem?_append_left (by omega),List.getElem?_append_left (by omega)]
   exact h2
def LdLt (n G:Nat) (a b:List (List Int)):Prop:=∃ h g,h<n∧g<G∧(∀ h',h'<h→a[h']?=b[h']?)∧ldN a h g<ldN b h g
theorem allL_pair {K:Kt} : ∀ n:Nat,(allL K n).Pairwise (LdLt n K.goods.length)
 | 0=>by simp[allL]
 | n+1=>by
  unfold allL
  rw[List.pairwise_flatMap]
  refine⟨fun l hl=>?_,(allL_pair (K:=K) n).imp_of_mem ?_⟩
  ·rw[List.pairwise_map]
   refine (rowsL_pair (K:=K) (h:=n) K.goods.length).imp ?_
   intro r r' ⟨g,h1,h2⟩
   have hln:=allL_len l hl
   refine⟨n,g,Nat.lt_succ_self n,h1,fun h' q=>by rw[List.getElem?_append_left (by omega),List.getElem?_append_left (by omega)],?_⟩
   unfold ldN
   rw[List.getD_eq_getElem?_getD (l:=l++[r]),List.getD_eq_getElem?_getD (l:=l++[r']),List.getElem?_append_right (by omega),List.getElem?_append_right (by omega),hln,Nat.sub_self]
   exact h2
  ·intro a b ha hb ⟨h0,g0,h1,h2,h3,h4⟩ x hx y hy
   obtain⟨r,_,rfl⟩:=List.mem_map.1 hx
   obtain⟨r',_,rfl⟩:=List.mem_map.1 hy
   have hla:=allL_len a ha
   have hlb:=allL_len b hb
   refine⟨h0,g0,by omega,h2,fun h' q=>by rw[List.getElem?_append_left (by omega),List.getElem?_append_left (by omega)];exact h3 h' q,?_⟩
   unfold ldN at h4 ⊢
   rw[List.getD_eq_getElem?_getD (l:=a++[r]),List.getD_eq_getElem?_getD (l:=b++[r']),List.getElem?_append_left (by omega),List.getElem?_append_left (by omega),← List.getD_eq_getElem?_getD,← List.getD_eq_getElem?_getD]
   exact h4
theorem rowsL_mem {K:Kt} {h:Nat} : ∀ {g:Nat} {r:List Int},r∈rowsL K h g↔r.length=g∧∀ i,i<g→∃ m:Nat,m≤mostN K h i∧r[i]?=some (m:Int)
 | 0,r=>by
  simp only[rowsL,List.mem_singleton]
  constructor
  ·rintro rfl
   exact⟨rfl,fun i hi=>by omega⟩
  ·rintro⟨h1,_⟩
   exact List.eq_nil_of_length_eq_zero h1
 | g+1,r=>by
  unfold rowsL
  rw[List.mem_flatMap]
  constructor
  ·rintro⟨r0,h0,h1⟩
   obtain⟨n,hn,rfl⟩:=List.mem_map.1 h1
   obtain⟨e1,e2⟩:=rowsL_mem.1 h0
   refine⟨by simp[e1],fun i hi=>?_⟩
   rcases Nat.lt_or_ge i g with q|q
   ·rw[List.getElem?_append_left (by omega)]
    exact e2 i q
   ·obtain rfl:i=g:=by omega
    refine⟨n,by have:=List.mem_range.1 hn;omega,?_⟩
    rw[List.getElem?_append_right (by omega),e1,Nat.sub_self]
    rfl
  ·rintro⟨e1,e2⟩
   obtain⟨m,hm,he⟩:=e2 g (Nat.lt_succ_self g)
   refine⟨r.take g,rowsL_mem.2 ⟨by simp[e1],fun i hi=>?_⟩,List.mem_map.2 ⟨m,List.mem_range.2 (by omega),?_⟩⟩
   ·rw[List.getElem?_take_of_lt hi]
    exact e2 i (by omega)
   ·have:=List.take_add_one (l:=r) (i:=g)
    rw[he,show g+1=r.length by omega,List.take_length] at this
    exact this.symm
theorem allL_mem {K:Kt} : ∀ {n:Nat} {l:List (List Int)},l∈allL K n↔l.length=n∧∀ h,h<n→∃ r,l[h]?=some r∧r∈rowsL K h K.goods.length
 | 0,l=>by
  simp only[allL,List.mem_singleton]
  constructor
  ·rintro rfl
   exact⟨rfl,fun i hi=>by omega⟩
  ·rintro⟨h1,_⟩
   exact List.eq_nil_of_length_eq_zero h1
 | n+1,l=>by
  unfold allL
  rw[List.mem_flatMap]
  constructor
  ·rintro⟨l0,h0,h1⟩
   obtain⟨r,hr,rfl⟩:=List.mem_map.1 h1
   obtain⟨e1,e2⟩:=allL_mem.1 h0
   refine⟨by simp[e1],fun i hi=>?_⟩
   rcases Nat.lt_or_ge i n with q|q
   ·rw[List.getElem?_append_left (by omega)]
    exact e2 i q
   ·obtain rfl:i=n:=by omega
    refine⟨r,?_,hr⟩
    rw[List.getElem?_append_right (by omega),e1,Nat.sub_self]
    rfl
  ·rintro⟨e1,e2⟩
   obtain⟨r,he,hr⟩:=e2 n (Nat.lt_succ_self n)
   refine⟨l.take n,allL_mem.2 ⟨by simp[e1],fun i hi=>?_⟩,List.mem_map.2 ⟨r,hr,?_⟩⟩
   ·rw[List.getElem?_take_of_lt hi]
    exact e2 i (by omega)
   ·have:=List.take_add_one (l:=l) (i:=n)
    rw[he,show n+1=l.length by omega,List.take_length] at this
    exact this.symm
def sumN (f:Nat→Nat):Nat→Nat
 | 0=>0
 | n+1=>sumN f n+f n
theorem sumN_add {f g:Nat→Nat} : ∀ n,sumN (fun i=>f i+g i) n=sumN f n+sumN g n
 | 0=>rfl
 | n+1=>by simp only[sumN,sumN_add n];omega
theorem sumN_zero:∀ n,sumN (fun _=>0) n=0
 | 0=>rfl
 | n+1=>by simp only[sumN,sumN_zero n]
theorem sumN_congr {f g:Nat→Nat} : ∀ {n:Nat},(∀ i,i<n→f i=g i)→sumN f n=sumN g n
 | 0,_=>rfl
 | n+1,h=>by simp only[sumN];rw[sumN_congr fun i hi=>h i (by omega),h n (Nat.lt_succ_self n)]
theorem sumN_le {f g:Nat→Nat} : ∀ {n:Nat},(∀ i,i<n→f i≤g i)→sumN f n≤sumN g n
 | 0,_=>Nat.le_refl _
 | n+1,h=>by
  have h1:=sumN_le (f:=f) (g:=g) (n:=n) fun i hi=>h i (by omega)
  have h2:=h n (Nat.lt_succ_self n)
  simp only[sumN]
  omega
theorem sumN_same {f g:Nat→Nat} : ∀ {n:Nat},(∀ i,i<n→f i≤g i)→sumN g n≤sumN f n→∀ i,i<n→g i≤f i
 | n+1,h,hs,i,hi=>by
  have h1:=sumN_le (f:=f) (g:=g) (n:=n) fun i hi=>h i (by omega)
  have h2:=h n (Nat.lt_succ_self n)
  simp only[sumN] at hs
  rcases Nat.lt_or_ge i n with q|q
  ·exact sumN_same (n:=n) (fun i hi=>h i (by omega)) (by omega) i q
  ·obtain rfl:i=n:=by omega
   omega
theorem sumN_swap (e:Nat→Nat→Nat) (G:Nat):∀ H,sumN (fun h=>sumN (e h) G) H=sumN (fun g=>sumN (fun h=>e h g) H) G
 | 0=>by simp only[sumN];exact (sumN_zero G).symm
 | H+1=>by
  simp only[sumN]
  rw[sumN_swap e G H,← sumN_add]
theorem costL_sum {D:Good1} {ld:Nat→Nat} : ∀ {r h:Nat},h+r=D.hauls.length→costL (D.hauls.drop h) (colN ld h r)+sumN (fun j=>ld j*(hlG D j).price) h=sumN (fun j=>ld j*(hlG D j).price) (h+r)
 | 0,h,hh=>by
  unfold colN
  rw[List.drop_eq_nil_of_le (by omega)]
  show 0+sumN _ h=sumN _ h
  omega
 | r+1,h,hh=>by
  have hx:=List.getElem?_eq_getElem (show h<D.hauls.length by omega)
  have e:hlG D h=D.hauls[h]:=by unfold hlG;rw[List.getD_eq_getElem?_getD,hx];rfl
  have ih:=costL_sum (D:=D) (ld:=ld) (r:=r) (h:=h+1) (by omega)
  rw[List.drop_eq_getElem_cons (show h<D.hauls.length by omega),← e]
  unfold colN at ih ⊢
  rw[List.range'_succ,List.map_cons]
  show costL _ _+ld h*(hlG D h).price+_=_
  rw[show h+(r+1)=h+1+r by omega,← ih]
  simp only[sumN]
  omega
end
section
theorem atG_one {K:Kt} {xs:List Int} {g:Nat} (hg:g<K.goods.length):atG (dsOf K xs) g=oneG K xs g:=by
 unfold atG
 rw[List.getD_eq_getElem?_getD,dsOf_at hg]
 rfl
section
variable {K:Kt} {xs:List Int} (hA:qn K xs=0)
include hA
theorem one_hauls (g:Nat):(oneG K xs g).hauls.length=K.hauls.length:=goodOf_len K xs g _ (rightE_zero (jd hA).2).1
theorem one_price (g:Nat) {h:Nat} (hh:h<K.hauls.length):(hlG (oneG K xs g) h).price=((hlAt K.hauls h).prices.getD g 0).toNat:=by
 unfold oneG
 rw[hlG_goodOf (rightE_zero (jd hA).2).1 hh]
 have e:K.hauls[h]=hlAt K.hauls h:=by
  have:=jG hh
  rw[List.getElem?_eq_getElem hh] at this
  exact Option.some.inj this
 rw[e]
 rfl
theorem one_start {g:Nat} (hg:g<K.goods.length):(oneG K xs g).start≤(oneG K xs g).room:=by
 obtain⟨_,_,_,_,_,_,r1,r2⟩:=jK ((qP (qb (jd hA).1).1).2.2 _ (List.mem_of_getElem? (gdAt_get hg)))
 show (gdAt K.goods g).start.toNat≤(gdAt K.goods g).room.toNat
 omega
theorem well_fits {ls:List (List Int)} (hs:(runK K xs ls).stop=none) {g:Nat} (hg:g<K.goods.length):Fits (oneG K xs g) (oneG K xs g).hauls (oneG K xs g).start (colN (ldI ls g) 0 K.hauls.length):=by
 obtain⟨w,_⟩:=runK_well hs
 have:=fits_of_well (D:=oneG K xs g) (ld:=ldI ls g) (r:=K.hauls.length) (h:=0) (by rw[one_hauls hA];omega) (one_start hA hg) fun j _ hj=>by
  have q:=w j (by omega) g (by rw[dsOf_len];exact hg)
  rw[atG_one hg] at q
  exact q
 simpa[nowD] using this
theorem fits_well {ls:List (List Int)} (hf:∀ g,g<K.goods.length→Fits (oneG K xs g) (oneG K xs g).hauls (oneG K xs g).start (colN (ldI ls g) 0 K.hauls.length)):(runK K xs ls).stop=none:=by
 refine runK_none_of fun j hj g hg=>?_
 rw[dsOf_len] at hg
 rw[atG_one hg]
 exact well_of_fits (D:=oneG K xs g) (ld:=ldI ls g) (r:=K.hauls.length) (h:=0) (by rw[one_hauls hA];omega) (by simpa[nowD] using hf g hg) j (Nat.zero_le _) (by omega)
omit hA in
theorem dot_sum {l p:List Int} (h1:∀ g,0≤l.getD g 0) (h2:∀ g,0≤p.getD g 0):∀ n:Nat,dotTo l p n=((sumN (fun g=>(l.getD g 0).toNat*(p.getD g 0).toNat) n:Nat):Int)
 | 0=>rfl
 | n+1=>by
  have a:=Int.toNat_of_nonneg (h1 n)
  have b:=Int.toNat_of_nonneg (h2 n)
  rw[dotTo,dot_sum h1 h2 n,sumN,Int.natCast_add,Int.natCast_mul,a,b]
theorem costR_sum {ls:List (List Int)} (hl:∀ h g,0≤(ls.getD h []).getD g 0):costR K ls K.hauls.length=((sumN (fun g=>costL (oneG K xs g).hauls (colN (ldI ls g) 0 K.hauls.length)) K.goods.length:Nat):Int):=by
 have hp:∀ h g,0≤(hlAt K.hauls h).prices.getD g 0:=fun h g=>by
  rcases Nat.lt_or_ge h K.hauls.length with q|q
  ·have hp:=((qm (qb (jd hA).1).2.2).2.2 _ (List.mem_of_getElem? (jG q))).2.2.2.2.2
   rw[List.getD_eq_getElem?_getD]
   cases hq:(hlAt K.hauls h).prices[g]? with
   | none=>simp
   | some x=>exact (hp x (List.mem_of_getElem? hq)).1
  ·unfold hlAt
   rw[List.getD_eq_getElem?_getD (l:=K.hauls),List.getElem?_eq_none q]
   simp
 have key:∀ n:Nat,costR K ls n=((sumN (fun h=>sumN (fun g=>ldN ls h g*((hlAt K.hauls h).prices.getD g 0).toNat) K.goods.length) n:Nat):Int):=by
  intro n
  induction n with
  | zero=>rfl
  | succ n ih =>
   rw[costR,ih,sumN,Int.natCast_add,dot_sum (hl n) (hp n)]
   rfl
 rw[key,sumN_swap]
 congr 1
 refine sumN_congr fun g hg=>?_
 have:=costL_sum (D:=oneG K xs g) (ld:=ldI ls g) (r:=K.hauls.length) (h:=0) (by rw[one_hauls hA];omega)
 simp only[List.drop_zero,sumN,Nat.add_zero,Nat.zero_add] at this
 rw[this]
 refine sumN_congr fun h hh=>?_
 rw[one_price hA g hh]
omit hA in
theorem allL_nonneg {ls:List (List Int)} (hl:ls∈allL K K.hauls.length):∀ h g,0≤(ls.getD h []).getD g 0:=fun h g=>by
 obtain⟨e1,e2⟩:=allL_mem.1 hl
 rcases Nat.lt_or_ge h K.hauls.length with q|q
 ·obtain⟨r,h1,h2⟩:=e2 h q
  obtain⟨f1,f2⟩:=rowsL_mem.1 h2
  rw[List.getD_eq_getElem?_getD (l:=ls),h1,Option.getD_some]
  rcases Nat.lt_or_ge g K.goods.length with p|p
  ·obtain⟨m,_,hm⟩:=f2 g p
   rw[List.getD_eq_getElem?_getD,hm]
   simp
  ·rw[List.getD_eq_getElem?_getD,List.getElem?_eq_none (by omega)]
   simp
 ·rw[List.getD_eq_getElem?_getD (l:=ls),List.getElem?_eq_none (by omega)]
  simp
omit hA in
theorem ldN_rows {h g:Nat} (hh:h<K.hauls.length) (hg:g<K.goods.length):ldN (qD K xs) h g=(zh (oneG K xs g)).1.getD h 0:=by
 unfold ldN
 rw[List.getD_eq_getElem?_getD (l:=qD K xs),rowsOf_at hh,Option.getD_some,List.getD_eq_getElem?_getD,rowsOf_cell hg]
 simp[ldAt]
omit hA in
theorem plan_fine (hn:noneB K xs=false) {g:Nat} (hg:g<K.goods.length):(zh (oneG K xs g)).2.2=false:=fineTo_iff.1 (show fineTo K xs K.goods.length=true by rw[fineTo_all,hn];rfl) g hg
theorem col_rows (hn:noneB K xs=false) {g:Nat} (hg:g<K.goods.length):colN (ldI (qD K xs) g) 0 K.hauls.length=(zh (oneG K xs g)).1:=by
 have hf:=planFrom_fits _ _ _ (plan_fine hn hg)
 have hl:(zh (oneG K xs g)).1.length=K.hauls.length:=(fits_len hf).trans (one_hauls hA g)
 refine List.ext_getElem? fun j=>?_
 unfold colN
 rw[List.getElem?_map]
 rcases Nat.lt_or_ge j K.hauls.length with q|q
 ·rw[List.getElem?_range' (by omega),Option.map_some,Nat.one_mul,Nat.zero_add,show ldI (qD K xs) g j=ldN (qD K xs) j g from rfl,ldN_rows q hg,List.getD_eq_getElem?_getD,List.getElem?_eq_getElem (by omega)]
  rfl
 ·rw[List.getElem?_eq_none (by simp;omega),List.getElem?_eq_none (by omega)]
  rfl
omit hA in
theorem fits_at {D:Good1} : ∀ {hs:List Haul1} {t:Nat} {l:List Nat} {j n:Nat} {h:Haul1},Fits D hs t l→l[j]?=some n→hs[j]?=some h→(h.price=0→n=0)∧n≤D.room
 | h::hs,t,m::l,0,n,H,⟨h1,_,_⟩,hj,hh=>by
  simp only[List.getElem?_cons_zero,Option.some.injEq] at hj hh
  subst hj hh
  unfold tries at h1
  split at h1
  ·exact⟨fun _=>by omega,by omega⟩
  ·rename_i q
   exact⟨fun e=>absurd e q,by omega⟩
 | h::hs,t,m::l,j+1,n,H,⟨_,_,h3⟩,hj,hh=>fits_at h3 (by simpa using hj) (by simpa using hh)
 | [],_,[],j,_,_,_,hj,_=>by simp at hj
 | [],_,_::_,_,_,_,h,_,_=>h.elim
 | _::_,_,[],_,_,_,h,_,_=>h.elim
theorem rows_in (hn:noneB K xs=false):qD K xs∈allL K K.hauls.length:=by
 refine allL_mem.2 ⟨rowsOf_len K xs,fun h hh=>⟨_,rowsOf_at hh,rowsL_mem.2 ⟨by simp[dsOf_len],fun g hg=>⟨(zh (oneG K xs g)).1.getD h 0,?_,by rw[rowsOf_cell hg];rfl⟩⟩⟩⟩
 have hf:=planFrom_fits _ _ _ (plan_fine hn hg)
 have hl:(zh (oneG K xs g)).1.length=K.hauls.length:=(fits_len hf).trans (one_hauls hA g)
 have hx:=List.getElem?_eq_getElem (show h<(zh (oneG K xs g)).1.length by omega)
 have hy:=List.getElem?_eq_getElem (show h<(oneG K xs g).hauls.length by rw[one_hauls hA];exact hh)
 obtain⟨f1,f2⟩:=fits_at hf hx hy
 have hp:(oneG K xs g).hauls[h]'(by rw[one_hauls hA];exact hh)=hlG (oneG K xs g) h:=by
  unfold hlG
  rw[List.getD_eq_getElem?_getD,hy]
  rfl
 rw[hp,one_price hA g hh] at f1
 rw[List.getD_eq_getElem?_getD,hx,Option.getD_some]
 unfold mostN
 split
 ·rename_i q
  rw[q] at f1
  exact Nat.le_of_eq (f1 rfl)
 ·exact f2
theorem rows_well (hn:noneB K xs=false):(runK K xs (qD K xs)).stop=none:=fits_well hA fun g hg=>by
 rw[col_rows hA hn hg]
 exact planFrom_fits _ _ _ (plan_fine hn hg)
omit hA in
theorem cost_sum (hn:noneB K xs=false):qy K xs=sumN (fun g=>(zh (oneG K xs g)).2.1) K.goods.length:=by
 rw[← sumTo_full hn]
 have key:∀ n,n≤K.goods.length→sumTo K xs n=sumN (fun g=>(zh (oneG K xs g)).2.1) n:=by
  intro n
  induction n with
  | zero=>intro _;rfl
  | succ n ih =>
   intro hh
   rw[sumTo,sumN,ih (by omega),plan_fine hn (show n<K.goods.length by omega)]
   simp
 exact key _ (Nat.le_refl _)
theorem rows_cost (hn:noneB K xs=false):costR K (qD K xs) K.hauls.length=(qy K xs:Int):=by
 rw[costR_sum hA (allL_nonneg (rows_in hA hn)),cost_sum hn]
 congr 1
 refine sumN_congr fun g hg=>?_
 rw[col_rows hA hn hg]
 exact (planFrom_costL _ _ _ (plan_fine hn hg)).symm
theorem well_cost {ls:List (List Int)} (hl:ls∈allL K K.hauls.length) (hs:(runK K xs ls).stop=none):noneB K xs=false∧(qy K xs:Int)≤costR K ls K.hauls.length:=by
 have hn:noneB K xs=false:=by
  have:fineTo K xs K.goods.length=true:=fineTo_iff.2 fun g hg=>(jA _ (well_fits hA hs hg)).1
  rw[fineTo_all] at this
  simpa using this
 refine⟨hn,?_⟩
 rw[costR_sum hA (allL_nonneg hl),cost_sum hn]
 exact Int.ofNat_le.2 (sumN_le fun g hg=>(jA _ (well_fits hA hs hg)).2)
theorem rows_first {ls:List (List Int)} {i j:Nat} (hn:noneB K xs=false) (hi:(allL K K.hauls.length)[i]?=some (qD K xs)) (hj:(allL K K.hauls.length)[j]?=some ls) (hs:(runK K xs ls).stop=none) (hc:costR K ls K.hauls.length=(qy K xs:Int)):i≤j:=by
 have hl:=List.mem_of_getElem? hj
 refine Nat.le_of_not_lt fun hlt=>?_
 obtain⟨i1,i2⟩:=List.getElem?_eq_some_iff.1 hi
 obtain⟨j1,j2⟩:=List.getElem?_eq_some_iff.1 hj
 have hp:=List.pairwise_iff_getElem.1 (allL_pair (K:=K) K.hauls.length) j i j1 i1 hlt
 rw[i2,j2] at hp
 obtain⟨h,g,hh,hg,h3,h4⟩:=hp
 rw[costR_sum hA (allL_nonneg hl),cost_sum hn] at hc
 have hcg:=sumN_same (fun g hg=>(jA _ (well_fits hA hs hg)).2) (Nat.le_of_eq (Int.ofNat_inj.1 hc)) g hg
 have hfirst:=planFrom_first (oneG K xs g) (well_fits hA hs hg) hcg h
 have hcol:∀ i,i<K.hauls.length→∀ l:List (List Int),(colN (ldI l g) 0 K.hauls.length)[i]?=some (ldN l i g):=fun i hi l=>by
  unfold colN
  rw[List.getElem?_map,List.getElem?_range' (by omega),Option.map_some,Nat.one_mul,Nat.zero_add]
 have hplan:∀ i,i<K.hauls.length→(zz (oneG K xs g) (oneG K xs g).hauls (oneG K xs g).start).1[i]?=some (ldN (qD K xs) i g):=fun i hi=>by
  have:=hcol i hi (qD K xs)
  rw[col_rows hA hn hg] at this
  exact this
 have:=hfirst (fun i hi=>by
  rw[hcol i (by omega),hplan i (by omega)]
  unfold ldN
  rw[List.getD_eq_getElem?_getD (l:=ls),List.getD_eq_getElem?_getD (l:=qD K xs),h3 i hi]) _ _ (hcol h hh ls) (hplan h hh)
 omega
def bestL (K:Kt) (xs:List Int) (n:Nat) (b c:Int):Prop:=
 (b=-1∧∀ i ls,i<n→(allL K K.hauls.length)[i]?=some ls→(runK K xs ls).stop≠none) ∨
 ∃ (j:Nat) (ls:List (List Int)),b=(j:Int)∧j<n∧(allL K K.hauls.length)[j]?=some ls∧(runK K xs ls).stop=none∧c=costR K ls K.hauls.length∧(∀ i l,i<n→(allL K K.hauls.length)[i]?=some l→(runK K xs l).stop=none→c≤costR K l K.hauls.length)∧(∀ i l,i<j→(allL K K.hauls.length)[i]?=some l→(runK K xs l).stop=none→c<costR K l K.hauls.length)
omit hA in
theorem bestL_zero:bestL K xs 0 (-1) 0:=.inl ⟨rfl,fun i ls h=>by omega⟩
omit hA in
theorem bestL_bad {n:Nat} {b c:Int} {ls:List (List Int)} (h:bestL K xs n b c) (hn:(allL K K.hauls.length)[n]?=some ls) (hs:(runK K xs ls).stop≠none):bestL K xs (n+1) b c:=by
 rcases h with ⟨h1,h2⟩|⟨j,l,h1,h2,h3,h4,h5,h6,h7⟩
 ·refine .inl ⟨h1,fun i l hi hl=>?_⟩
  rcases Nat.lt_or_ge i n with q|q
  ·exact h2 i l q hl
  ·obtain rfl:i=n:=by omega
   rw[hn] at hl
   cases hl
   exact hs
 ·refine .inr ⟨j,l,h1,by omega,h3,h4,h5,fun i l' hi hl hs'=>?_,h7⟩
  rcases Nat.lt_or_ge i n with q|q
  ·exact h6 i l' q hl hs'
  ·obtain rfl:i=n:=by omega
   rw[hn] at hl
   cases hl
   exact absurd hs' hs
omit hA in
theorem bestL_keep {n:Nat} {b c:Int} {ls:List (List Int)} (h:bestL K xs n b c) (hb : 0≤b) (hn:(allL K K.hauls.length)[n]?=some ls) (hc:c≤costR K ls K.hauls.length):bestL K xs (n+1) b c:=by
 rcases h with ⟨h1,h2⟩|⟨j,l,h1,h2,h3,h4,h5,h6,h7⟩
 ·omega
 ·refine .inr ⟨j,l,h1,by omega,h3,h4,h5,fun i l' hi hl hs'=>?_,h7⟩
  rcases Nat.lt_or_ge i n with q|q
  ·exact h6 i l' q hl hs'
  ·obtain rfl:i=n:=by omega
   rw[hn] at hl
   cases hl
   exact hc
omit hA in
theorem bestL_new {n:Nat} {b c:Int} {ls:List (List Int)} (h:bestL K xs n b c) (hn:(allL K K.hauls.length)[n]?=some ls) (hs:(runK K xs ls).stop=none) (hc:b<0∨costR K ls K.hauls.length<c):bestL K xs (n+1) n (costR K ls K.hauls.length):=by
 refine .inr ⟨n,ls,rfl,Nat.lt_succ_self n,hn,hs,rfl,fun i l hi hl hs'=>?_,fun i l hi hl hs'=>?_⟩
 ·rcases Nat.lt_or_ge i n with q|q
  ·rcases h with ⟨_,h2⟩|⟨j,l',h1,h2,h3,h4,h5,h6,h7⟩
   ·exact absurd hs' (h2 i l q hl)
   ·have:=h6 i l q hl hs'
    omega
  ·obtain rfl:i=n:=by omega
   rw[hn] at hl
   cases hl
   exact Int.le_refl _
 ·rcases h with ⟨_,h2⟩|⟨j,l',h1,h2,h3,h4,h5,h6,h7⟩
  ·exact absurd hs' (h2 i l hi hl)
  ·have:=h6 i l hi hl hs'
   omega
theorem bestL_end {b c:Int} (h:bestL K xs (allL K K.hauls.length).length b c):(b=-1∧noneB K xs=true)∨(noneB K xs=false∧c=(qy K xs:Int)∧∃ j:Nat,b=(j:Int)∧(allL K K.hauls.length)[j]?=some (qD K xs)):=by
 rcases h with ⟨h1,h2⟩|⟨j,l,h1,h2,h3,h4,h5,h6,h7⟩
 ·refine .inl ⟨h1,?_⟩
  cases hn:noneB K xs with
  | true=>rfl
  | false =>
   obtain⟨i,hi⟩:=List.getElem?_of_mem (rows_in hA hn)
   exact absurd (rows_well hA hn) (h2 i _ (List.getElem?_eq_some_iff.1 hi).1 hi)
 ·obtain⟨hn,hc⟩:=well_cost hA (List.mem_of_getElem? h3) h4
  obtain⟨i,hi⟩:=List.getElem?_of_mem (rows_in hA hn)
  have h8:=h6 i _ (List.getElem?_eq_some_iff.1 hi).1 hi (rows_well hA hn)
  rw[rows_cost hA hn] at h8
  have hcc:c=(qy K xs:Int):=by rw[← h5] at hc;omega
  have hij:=rows_first hA hn hi h3 h4 (by rw[← h5,hcc])
  have hji:¬ i<j:=fun q=>by
   have:=h7 i _ q hi (rows_well hA hn)
   rw[rows_cost hA hn] at this
   omega
  obtain rfl:i=j:=by omega
  exact .inr ⟨hn,hcc,i,h1,hi⟩
end
end
end Go.Gal
