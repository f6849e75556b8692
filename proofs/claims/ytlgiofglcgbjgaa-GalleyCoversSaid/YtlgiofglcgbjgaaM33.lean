/- Walks: the three rounds of run at a haul. -/
import Derived.Test.YtlgiofglcgbjgaaM32
namespace Go.Gal
open Go Go.Par Go.Proofs Go.RowKit
structure RunIn (w0:World) (A:Kit1) (Ds:List Good1) (ls:List (List Int)) (lA:Option Addr):Prop where
 len:Ds.length=A.ng
 kit:∀ i D,Ds[i]? = some D→KitAt w0 (fun _=>True) A i D
 lsa:DishesAt w0 lA ls
 lsl:ls.length=A.nh
 lsr:∀ (h:Nat) l,ls[h]? = some l→l.length=A.ng∧∀ x∈l,0≤x∧x≤20
 room:∀ (i:Nat) D,Ds[i]? = some D→D.room≤20∧D.start≤D.room
structure RunCx (w0 w:World) (A:Kit1) (ls:List (List Int)) (lA:Option Addr) (lc kb mb sb lb hb L h:Nat):Prop where
 old:Grown w0 w
 hL:w0.heap.size≤L
 k0:w.cell? ⟨kb,0,none⟩=some A.gs
 k1:w.cell? ⟨kb,1,none⟩=some A.ds
 k2:w.cell? ⟨kb,2,none⟩=some A.hs
 m:w.cell? ⟨mb,0,none⟩=some A.m
 s:w.cell? ⟨sb,0,none⟩=some (.slice lA ls.length lc)
 l:w.cell? ⟨lb,0,none⟩=some (.pointer (some ⟨L,0,none⟩))
 h:w.cell? ⟨hb,0,none⟩=some (int h)
 ne:kb≠L∧mb≠L∧sb≠L∧lb≠L∧hb≠L
theorem RunCx.but {w0 w w':World} {A:Kit1} {ls:List (List Int)} {lA:Option Addr} {lc kb mb sb lb hb L h:Nat} (c:RunCx w0 w A ls lA lc kb mb sb lb hb L h) (b:But L w w'):RunCx w0 w' A ls lA lc kb mb sb lb hb L h:=by
 obtain ⟨n1,n2,n3,n4,n5⟩:=c.ne
 exact ⟨⟨Nat.le_trans c.old.size b.size,fun x hx=>(b.same x (by have:=c.hL;omega) (Nat.lt_of_lt_of_le hx c.old.size)).trans (c.old.same x hx),b.os.trans c.old.os⟩,c.hL,b.cell n1 c.k0,b.cell n1 c.k1,b.cell n1 c.k2,b.cell n2 c.m,b.cell n3 c.s,b.cell n4 c.l,b.cell n5 c.h,c.ne⟩
section
variable {fs:Array Func} [LikeS fs]
variable {w0 w:World} {A:Kit1} {Ds:List Good1} {ls:List (List Int)} {lA:Option Addr} {lc kb mb sb lb hb L h:Nat} {now mel:Nat→Nat}
theorem RunIn.at_ (R:RunIn w0 A Ds ls lA) {i:Nat} (hi:i < A.ng):Ds[i]? = some (atG Ds i):=by
 unfold atG
 rw [List.getD_eq_getElem?_getD,List.getElem?_eq_getElem (by rw [R.len];exact hi)]
 rfl
theorem RunIn.haul (R:RunIn w0 A Ds ls lA) {i:Nat} (hi:i < A.ng) (hh:h < A.nh):HaulAt w0 (fun _=>True) A.hb A.ho A.mb A.mo A.db A.dof A.nd i h (hlG (atG Ds i) h):=by
 have k:=R.kit i _ (R.at_ hi)
 refine k.hauls h _ ?_
 unfold hlG
 rw [List.getD_eq_getElem?_getD,List.getElem?_eq_getElem (by rw [k.len];exact hh)]
 rfl
theorem RunIn.ld (R:RunIn w0 A Ds ls lA) {i:Nat} (hi:i < A.ng) (hh:h < A.nh):∃ l,ls[h]? = some l∧l[i]? = some ((ldN ls h i:Nat):Int)∧ldN ls h i≤20:=by
 obtain ⟨l,hl⟩:∃ l,ls[h]? = some l:=⟨_,List.getElem?_eq_getElem (by rw [R.lsl];exact hh)⟩
 obtain ⟨r1,r2⟩:=R.lsr h l hl
 obtain ⟨x,hx⟩:∃ x,l[i]? = some x:=⟨_,List.getElem?_eq_getElem (by omega)⟩
 obtain ⟨b1,b2⟩:=r2 x (List.mem_of_getElem? hx)
 have e:ldN ls h i=x.toNat:=by unfold ldN;simp [List.getD,hl,hx]
 refine ⟨l,hl,?_,by omega⟩
 rw [hx,e,Int.toNat_of_nonneg b1]
theorem do_load (R:RunIn w0 A Ds ls lA) (hng:A.ng≤3) (hh:h < A.nh) (cx:RunCx w0 w A ls lA lc kb mb sb lb hb L h) (hL:w.heap[L]? = some (.cells (larderC A now mel) 125 (0,0))) (hn:∀ i,i < A.ng→now i≤20) :
  Calls (Pf fs) 95 #[.func (.func 96) #[] #[],.func (.func 97) #[] #[.pointer (some ⟨sb,0,none⟩),.pointer (some ⟨hb,0,none⟩)],.int .i64 9,.pointer (some ⟨kb,0,none⟩),.pointer (some ⟨lb,0,none⟩),.pointer (some ⟨hb,0,none⟩)] w
   (DoPost L A.ng h 9 (fun i=>!barAt Ds ls h now i) (fun i=>larderC A (stepTo i now fun j=>now j + ldN ls h j) mel) w):=by
 obtain ⟨n1,n2,n3,n4,n5⟩:=cx.ne
 refine do_any 96 97 _ (fun args wr=>LK.call96 args wr) (fun args wr=>LK.call97 args wr) 9 w hng cx.k0 cx.l cx.h n1 n4 n5 _ (fun i=>ldN ls h i) _ hL (fun i W hi hb=>?_) fun i W hi hb hW=>?_
 ·have c2:=cx.but hb
  obtain ⟨l,hl,hx,_⟩:=R.ld hi hh
  refine (n97_any W c2.s c2.h (R.lsa.grown c2.old) hl hx).mono fun e w' ⟨e1,e2⟩=>⟨e1,by rw [e2];exact Grown.refl _⟩
 ·have c2:=cx.but hb
  obtain ⟨_,_,_,hl20⟩:=R.ld hi hh
  have k:=(R.kit i _ (R.at_ hi)).mono (w1:=W) fun b o v hc=>c2.old.cell hc
  obtain ⟨⟨pb,po,np,cp,d,nb,no,nn,cn,_,_,x1,x2,x3,x4,x5,_⟩,_⟩:=R.haul hi hh
  have y3:=c2.old.cell x3
  have y5:=c2.old.cell x5
  have hgb:A.gb≠L:=by have:=cell_lt (R.kit i _ (R.at_ hi)).room;have:=cx.hL;omega
  have hhb:A.hb≠L:=by have:=cell_lt x3;have:=cx.hL;omega
  have hpb:pb≠L:=by have:=cell_lt x5;have:=cx.hL;omega
  have hi3:i < 3:=by omega
  refine (load_any (A:=A) (i:=i) W h (now i) (ldN ls h i) (atG Ds i).room (hlG (atG Ds i) h).price pb po np cp hW rfl rfl ((larderC_now hi3).trans (by rw [stepTo_at])) hi hng hh k.room y3 x4 y5 hgb hhb hpb (by have:=hn i hi;omega) (by omega)).mono fun e w' ⟨e1,q,e2⟩=>⟨e1,?_,fun _=>?_⟩
  ·rw [e2]
   exact ((But.refl L W).set _ _).drewN q
  ·rw [e2]
   show (W.setCell ⟨L,3 + i,none⟩ _).heap[L]? = _
   rw [blk_set hW,larderC_setNow hi3,← stepTo_succ]
theorem do_melt (R:RunIn w0 A Ds ls lA) (hng:A.ng≤3) (hh:h < A.nh) (cx:RunCx w0 w A ls lA lc kb mb sb lb hb L h) (hL:w.heap[L]? = some (.cells (larderC A now mel) 125 (0,0))) (hn:∀ i,i < A.ng→now i≤255) (hm:∀ i,i < A.ng→mel i≤1000000) :
  Calls (Pf fs) 95 #[.func (.func 98) #[] #[],.func (.func 99) #[] #[],.int .i64 0,.pointer (some ⟨kb,0,none⟩),.pointer (some ⟨lb,0,none⟩),.pointer (some ⟨hb,0,none⟩)] w
   (DoPost L A.ng h 0 (fun _=>true) (fun i=>larderC A (stepTo i now fun j=>now j - melted (hlG (atG Ds j) h).hours (atG Ds j).melts (now j)) (stepTo i mel fun j=>mel j + melted (hlG (atG Ds j) h).hours (atG Ds j).melts (now j))) w):=by
 obtain ⟨n1,n2,n3,n4,n5⟩:=cx.ne
 refine do_any 98 99 _ (fun args wr=>LK.call98 args wr) (fun args wr=>LK.call99 args wr) 0 w hng cx.k0 cx.l cx.h n1 n4 n5 _ (fun i=>0) _ hL (fun i W hi hb=>?_) fun i W hi hb hW=>?_
 ·exact (n99_any i W).mono fun e w' ⟨e1,e2⟩=>⟨e1,by rw [e2];exact Grown.refl _⟩
 ·have c2:=cx.but hb
  have k:=(R.kit i _ (R.at_ hi)).mono (w1:=W) fun b o v hc=>c2.old.cell hc
  have hk:=R.haul hi hh
  obtain ⟨⟨pb,po,np,cp,d,nb,no,nn,cn,_,_,x1,x2,x3,x4,x5,_⟩,hr1,_⟩:=hk
  have hi3:i < 3:=by omega
  refine (melt_any (A:=A) (i:=i) (hours:=(hlG (atG Ds i) h).hours) (melts:=(atG Ds i).melts) W (now i) (mel i) hW rfl rfl ((larderC_now hi3).trans (by rw [stepTo_at])) ((larderC_mel hi3).trans (by rw [stepTo_at])) hi hng hh k.melts (c2.old.cell x1) (by have:=hn i hi;omega) (hm i hi) (by omega) 0).mono fun e w' ⟨e1,q,e2⟩=>⟨e1,?_,fun _=>?_⟩
  ·rw [e2]
   split
   ·exact (((But.refl L W).set _ _).set _ _).drewN q
   ·exact (But.refl L W).drewN q
  ·rw [e2]
   have hs:=stepTo_succ i now fun j=>now j - melted (hlG (atG Ds j) h).hours (atG Ds j).melts (now j)
   have ht:=stepTo_succ i mel fun j=>mel j + melted (hlG (atG Ds j) h).hours (atG Ds j).melts (now j)
   split
   ·show ((W.setCell ⟨L,3 + i,none⟩ _).setCell ⟨L,6 + i,none⟩ _).heap[L]? = _
    rw [blk_set (blk_set hW _),larderC_setNow hi3,larderC_setMel hi3,hs,ht]
   ·rename_i h0
    have e0:melted (hlG (atG Ds i) h).hours (atG Ds i).melts (now i)=0:=by unfold melted;rw [if_neg h0]
    show W.heap[L]? = _
    rw [hW,← hs,← ht,e0]
    congr 3
    ·funext j
     unfold upd
     split
     ·rename_i hj;subst hj;rw [stepTo_at];rfl
     ·rfl
    ·funext j
     unfold upd
     split
     ·rename_i hj;subst hj;rw [stepTo_at];rfl
     ·rfl
def usN (Ds:List Good1) (h i:Nat):Nat:=(hlG (atG Ds i) h).covers * (hlG (atG Ds i) h).need
theorem do_eat (R:RunIn w0 A Ds ls lA) (hng:A.ng≤3) (hh:h < A.nh) (cx:RunCx w0 w A ls lA lc kb mb sb lb hb L h) (hL:w.heap[L]? = some (.cells (larderC A now mel) 125 (0,0))) (hn:∀ i,i < A.ng→now i≤255) :
  Calls (Pf fs) 95 #[.func (.func 100) #[] #[],.func (.func 101) #[] #[.pointer (some ⟨kb,0,none⟩),.pointer (some ⟨mb,0,none⟩),.pointer (some ⟨hb,0,none⟩)],.int .i64 11,.pointer (some ⟨kb,0,none⟩),.pointer (some ⟨lb,0,none⟩),.pointer (some ⟨hb,0,none⟩)] w
   (DoPost L A.ng h 11 (fun i=>decide (((atG Ds i).reserve:Int)≤(now i:Int) - (usN Ds h i:Nat))) (fun i=>larderC A (stepTo i now fun j=>((now j:Int) - (usN Ds h j:Nat)).toNat) mel) w):=by
 obtain ⟨n1,n2,n3,n4,n5⟩:=cx.ne
 refine do_any 100 101 _ (fun args wr=>LK.call100 args wr) (fun args wr=>LK.call101 args wr) 11 w hng cx.k0 cx.l cx.h n1 n4 n5 _ (fun i=>usN Ds h i) _ hL (fun i W hi hb=>?_) fun i W hi hb hW=>?_
 ·have c2:=cx.but hb
  have k:=R.kit i _ (R.at_ hi)
  exact (n101_any W ((R.haul hi hh).all (w1:=W) fun b o v hc=>c2.old.cell hc) hh (by have:=k.nm;omega) c2.k0 c2.k1 c2.k2 c2.m c2.h).mono fun e w' ⟨e1,e2⟩=>⟨e1,e2⟩
 ·have c2:=cx.but hb
  have k:=(R.kit i _ (R.at_ hi)).mono (w1:=W) fun b o v hc=>c2.old.cell hc
  obtain ⟨⟨pb,po,np,cp,d,nb,no,nn,cn,_,_,x1,x2,x3,x4,x5,_⟩,hr1,hr2,hr3,hr4⟩:=R.haul hi hh
  have hgb:A.gb≠L:=by have:=cell_lt (R.kit i _ (R.at_ hi)).room;have:=cx.hL;omega
  have hi3:i < 3:=by omega
  have hu:usN Ds h i≤65025:=Nat.le_trans (Nat.mul_le_mul hr2 hr4) (by decide)
  refine (eat_any (A:=A) (i:=i) (D:=atG Ds i) W h (now i) (usN Ds h i) hW rfl ((larderC_now hi3).trans (by rw [stepTo_at])) hi hng k.reserve hgb (hn i hi) hu).mono fun e w' ⟨e1,q,e2⟩=>⟨e1,?_,fun hok=>?_⟩
  ·rw [e2]
   exact ((But.refl L W).set _ _).drewN q
  ·rw [e2]
   have h3:((atG Ds i).reserve:Int)≤(now i:Int) - (usN Ds h i:Nat):=of_decide_eq_true hok
   have e3:(Value.int .i64 ((now i:Int) - (usN Ds h i:Nat)))=int ((now i:Int) - (usN Ds h i:Nat)).toNat:=by
    unfold int
    rw [Int.toNat_of_nonneg (by omega)]
   show (W.setCell ⟨L,3 + i,none⟩ _).heap[L]? = _
   rw [e3,blk_set hW,larderC_setNow hi3]
   rw [stepTo_succ i now fun j=>((now j:Int) - (usN Ds h j:Nat)).toNat]
end
end Go.Gal
