/- Walks: Menu. Walks: EqualInts, EqualRows. -/
import Derived.Test.YtlgiofglcgbjgaaM35
namespace Go.Gal
open Go Go.Par Go.Proofs Go.RowKit Go.Shelf
section
attribute [local go_sem] Oper.semAt_some
def ZG (K:Kt) (b:Option (List Int×Nat)) (xs:List Int):Option (List Int×Nat):=if noneB K xs then b else match b with
 | none=>some (xs,jw K xs)
 | some (m,c)=>if jw K xs<c then some (xs,jw K xs) else some (m,c)
def jD (K:Kt) (pre:List (List Int)):Option (List Int×Nat):=pre.foldl (ZG K) none
theorem Zr (K:Kt) (pre:List (List Int)) (xs:List Int):jD K (pre++[xs])=ZG K (jD K pre) xs:=by simp[jD]
def Jt (K:Kt):Option (List Int×Nat):=jD K (qR K.dishes.length K.hauls.length)
def BestAt (W:World) (b6 b7 mB:Nat):Option (List Int×Nat)→Prop
 | none=>W.heap[b6]?=some (.cells #[.slice none 0 0] 22 (0,0))∧W.heap[b7]?=some (.cells #[.int .i64 0] 3 (0,0))
 | some (m,c)=>∃ A cap,W.heap[b6]?=some (.cells #[.slice A m.length cap] 22 (0,0))∧W.heap[b7]?=some (.cells #[.int .i64 c] 3 (0,0))∧1≤m.length∧∀ (k:Nat) (x:Int),m[k]?=some x→∃ b off,A=some ⟨b,off,none⟩∧mB<b∧W.cell? ⟨b,off+k,none⟩=some (.int .i64 x)
theorem BestAt.keep {W W':World} {b6 b7 mB:Nat} {o:Option (List Int×Nat)} (h:BestAt W b6 b7 mB o) (h6:W'.heap[b6]?=W.heap[b6]?) (h7:W'.heap[b7]?=W.heap[b7]?) (hk:∀ b,mB<b→b<W.heap.size→W'.heap[b]?=W.heap[b]?):BestAt W' b6 b7 mB o:=by
 cases o with
 | none=>exact⟨h6.trans h.1,h7.trans h.2⟩
 | some p =>
  obtain⟨m,c⟩:=p
  obtain⟨A,cap,k1,k2,k0,k3⟩:=h
  refine⟨A,cap,h6.trans k1,h7.trans k2,k0,fun k x hx=>?_⟩
  obtain⟨b,off,e,hb,hc⟩:=k3 k x hx
  exact⟨b,off,e,hb,(World.cell?_of_block (a:=⟨b,off+k,none⟩) (hk b hb (qw hc))).trans hc⟩
structure MJ (K:Kt) (w0:World) (k1 b6 b7 kb Kd L mB:Nat) (r:Loop) (kc:Array Value) (pre:List (List Int)) (W:World):Prop where
 old:∀ b,b<w0.heap.size→W.heap[b]?=w0.heap[b]?
 os:W.os=w0.os
 size:mB≤W.heap.size
 k1:W.heap[k1]?=some (.cells kc 29 (0,0))
 kb:W.heap[kb]?=some (.cells kc 29 (0,0))
 dK:W.heap[Kd]?=some (.deferred (some []))
 lL:W.heap[L]?=some (.loop r)
 best:BestAt W b6 b7 mB (jD K pre)
structure MN (w0:World) (k1 b6 b7 kb Kd L mB:Nat):Prop where
 a:w0.heap.size≤k1∧k1<b6∧b6<b7∧b7<kb∧kb<Kd∧Kd<L∧L<mB
theorem MJ.but {K:Kt} {w0 W W':World} {k1 b6 b7 kb Kd L mB:Nat} {r:Loop} {kc:Array Value} {pre:List (List Int)} (h:MJ K w0 k1 b6 b7 kb Kd L mB r kc pre W) (n:MN w0 k1 b6 b7 kb Kd L mB) (hb:But mB W W'):MJ K w0 k1 b6 b7 kb Kd L mB r kc pre W':=by
 have hn:=n.a
 have hs:=h.size
 exact⟨fun b hl=>(hb.same b (by omega) (by omega)).trans (h.old b hl),hb.os.trans h.os,Nat.le_trans hs hb.size,hb.block (by omega) h.k1,hb.block (by omega) h.kb,hb.block (by omega) h.dK,hb.block (by omega) h.lL,h.best.keep (hb.same _ (by omega) (by omega)) (hb.same _ (by omega) (by omega)) fun b h1 h2=>hb.same b (by omega) h2⟩
theorem MJ.after {K:Kt} {w0 W Wb w5:World} {k1 b6 b7 kb Kd L mB:Nat} {r:Loop} {kc:Array Value} {pre pre':List (List Int)} (h:MJ K w0 k1 b6 b7 kb Kd L mB r kc pre W) (n:MN w0 k1 b6 b7 kb Kd L mB) (hm:mB<W.heap.size) (wO:∀ b,b≠L→Wb.heap[b]?=W.heap[b]?) (wS:Wb.heap.size=W.heap.size) (wos:Wb.os=W.os)
  (h5:∀ b,b<Wb.heap.size→b≠b6→b≠b7→w5.heap[b]?=Wb.heap[b]?) (s5:Wb.heap.size≤w5.heap.size) (o5:w5.os=Wb.os) (hbest:BestAt w5 b6 b7 mB (jD K pre')) :
  MJ K w0 k1 b6 b7 kb Kd L mB r kc pre' (w5.putObj L (.loop r))∧W.heap.size≤(w5.putObj L (.loop r)).heap.size∧(w5.putObj L (.loop r)).heap[mB]?=W.heap[mB]?∧(w5.putObj L (.loop r)).heap[kb]?=W.heap[kb]?:=by
 have hn:=n.a
 have same:∀ b,b<W.heap.size→b≠b6→b≠b7→b≠L→(w5.putObj L (.loop r)).heap[b]?=W.heap[b]?:=fun b hl n6 n7 nL=>by
  rw[World.putObj_heap_other nL,h5 b (by omega) n6 n7,wO b nL]
 have psz:(w5.putObj L (.loop r)).heap.size=w5.heap.size:=by simp
 refine⟨⟨fun b hb=>(same b (by omega) (by omega) (by omega) (by omega)).trans (h.old b hb),o5.trans (wos.trans h.os),by omega,(same _ (by omega) (by omega) (by omega) (by omega)).trans h.k1,(same _ (by omega) (by omega) (by omega) (by omega)).trans h.kb,(same _ (by omega) (by omega) (by omega) (by omega)).trans h.dK,World.putObj_heap_same (by omega),?_⟩,by omega,same _ (by omega) (by omega) (by omega) (by omega),same _ (by omega) (by omega) (by omega) (by omega)⟩
 exact hbest.keep (World.putObj_heap_other (by omega)) (World.putObj_heap_other (by omega)) fun b hb _=>World.putObj_heap_other (by omega)
theorem zeb {fs:Array Func} {ty e:TypeId} (hs:Try.prog.underlying ty=some (.slice e)) (n m:Nat) (W:World):(binOp .eql ty (.slice none n m) (.slice none 0 0)).run (Pf fs) W=.ok (.bool true) W:=by
 have h:=QC (P:=Pf fs) ((like_under ty).trans hs) none n m 9999 W
 show ((do pure (.bool (← Op.equalIn (9999+1) ty (.slice none n m) (.slice none 0 0)))):Sem Value).run (Pf fs) W=_
 rw[Sem.run_bind,h]
 rfl
section
variable {fs:Array Func} [LikeS fs]
set_option maxRecDepth 20000 in
set_option maxHeartbeats 2000000 in
theorem menu_yes (K:Kt) (gA dA hA:Option Addr) (gc dc hc:Nat) (w:World) (k:KtAt w K gA dA hA) (hC:zC K=0) :
  CallsIn Fence.wide 10 (Pf fs) 53 #[ktV K gA dA hA gc dc hc] w fun e w'=>∃ v,e=.returned v∧Grown w w' ∧
   ((Jt K=none∧v=.tuple #[.slice none 0 0,.int .i64 0,.int .i64 11])∨∃ m c A cap,Jt K=some (m,c)∧v=.tuple #[.slice A m.length cap,.int .i64 c,.int .i64 0]∧Ints w' A m):=by
 have hck:=fun W (g:Grown w W)=>callsIn_wide (n:=9).2 (YC (fs:=fs) K gA dA hA gc dc hc W (k.grown g))
 rw[hC] at hck
 have hmn:=fun W=>callsIn_wide (n:=9).2 (menus_any (fs:=fs) K gA dA hA gc dc hc W)
 have HCK:=Lib.hid hck
 have HMN:=Lib.hid hmn
 have HK:=Lib.hid k
 have f36:Fence.wide.fn 36:=trivial
 have f90:Fence.wide.fn 90:=trivial
 have f74:Fence.wide.fn 74:=trivial
 have f91:Fence.wide.fn 91:=trivial
 have f112:Fence.wide.fn 112:=trivial
 clear hck hmn k
 unfold ktV at *
 refine callsIn_of_wp_marks LK.func53 rfl trivial ?_ rfl
 simp only[Try.ntmps53,List.size_toArray,List.length_cons,List.length_nil,Nat.reduceAdd,Nat.reduceSub,Array.replicate_succ,Array.replicate_zero,List.push_toArray,List.append_toArray,List.nil_append,List.cons_append]
 have hg0:=Lib.hid (Grown.alloc w (.cells #[.slice gA K.goods.length gc,.slice dA K.dishes.length dc,.slice hA K.hauls.length hc] 29))
 have hb0:=Lib.hid (heap_alloc_new w (.cells #[.slice gA K.goods.length gc,.slice dA K.dishes.length dc,.slice hA K.hauls.length hc] 29))
 gi_wp2_with (first|(gi_at_call 36;refine (HCK.out _ hg0.out).mono ?_;rintro e w1 ⟨rfl,hg1⟩;have q0:=za (zf hb0.out hg1) 0;have q1:=za (zf hb0.out hg1) 1;have q2:=za (zf hb0.out hg1) 2;have HG1:=Lib.hid hg1;have HQ:=Lib.hid (zf hb0.out hg1);have hlt:=zj (zf hb0.out hg1);have hlt2:w.heap.size<w1.heap.size+1:=(by omega);clear hg1;simp only[List.getElem?_toArray,List.getElem?_cons_succ,List.getElem?_cons_zero] at q0 q1 q2)|(gi_at_call 90;refine (HMN.out _).mono ?_;rintro e w2 ⟨rfl,rfl⟩))
 obtain⟨W3,hW3⟩:∃ W,W=((w1.alloc (.cells #[.slice none 0 0] 22)).alloc (.cells #[.int .i64 0] 3)).alloc (.cells #[.slice gA K.goods.length gc,.slice dA K.dishes.length dc,.slice hA K.hauls.length hc] 29):=⟨_,rfl⟩
 have t1:W3.heap[w.heap.size]?=some (.cells #[.slice gA K.goods.length gc,.slice dA K.dishes.length dc,.slice hA K.hauls.length hc] 29 (0,0)):=by rw[hW3];exact zt (zt (zt HQ.out _) _) _
 have s1:=qg w1 (.cells #[.slice none 0 0] 22)
 have s2:=qg (w1.alloc (.cells #[.slice none 0 0] 22)) (.cells #[.int .i64 0] 3)
 have s3:=qg ((w1.alloc (.cells #[.slice none 0 0] 22)).alloc (.cells #[.int .i64 0] 3)) (.cells #[.slice gA K.goods.length gc,.slice dA K.dishes.length dc,.slice hA K.hauls.length hc] 29)
 have t2:W3.heap[w1.heap.size]?=some (.cells #[.slice none 0 0] 22 (0,0)):=by rw[hW3,zD (by omega),zD (by omega),qv (by omega)]
 have t3:W3.heap[w1.heap.size+1]?=some (.cells #[.int .i64 0] 3 (0,0)):=by rw[hW3,zD (by omega),qv (by omega)]
 have t4:W3.heap[w1.heap.size+1+1]?=some (.cells #[.slice gA K.goods.length gc,.slice dA K.dishes.length dc,.slice hA K.hauls.length hc] 29 (0,0)):=by rw[hW3,qv (by omega)]
 have t5:W3.heap.size=w1.heap.size+3:=by rw[hW3];omega
 have t6:Grown w W3:=by rw[hW3];exact hg0.out.trans (HG1.out.trans (((Grown.alloc _ _).trans (.alloc _ _)).trans (.alloc _ _)))
 rw[← hW3]
 have T1:=Lib.hid t1
 have T2:=Lib.hid t2
 have T3:=Lib.hid t3
 have T4:=Lib.hid t4
 have T5:=Lib.hid t5
 have T6:=Lib.hid t6
 have TL:=Lib.hid hlt
 clear hW3 s1 s2 s3 t1 t2 t3 t4 t5 t6 q0 q1 q2 hlt hlt2 HQ HG1 hb0
 generalize w1.heap.size=z at *
 refine wpIn_range1 (P:=Pf fs) (F:=Fence.wide) (n:=10) rfl (by omega) (gf:=112) (lb:=#[.pointer (some ⟨z+1+1,0,none⟩)]) rfl trivial (fun args w=>LK.call112 args w) (fun W=>∃ r,MJ K w w.heap.size z (z+1) (z+1+1) W3.heap.size (W3.heap.size+1) (W3.heap.size+1+1) r #[.slice gA K.goods.length gc,.slice dA K.dishes.length dc,.slice hA K.hauls.length hc] (qR K.dishes.length K.hauls.length) W) ?hit ?hdone
 case hit =>
  intro fn hfn W4 hW4
  generalize hr:({ state:=LoopState.ready,pending:=none,fn:=fn,tmps:=_,params:=_,assign:=_,body:=_,defers:=_ } : Loop)=r at hW4 ⊢
  obtain⟨c1,c2,c3⟩:=qK hC
  obtain⟨d1,d2,d3⟩:=ya c2
  obtain⟨h1,h2,h3⟩:=qH c3
  have hs1:=qg W3 (.deferred (some []))
  have hs2:=qg (W3.alloc (.deferred (some []))) (.loop r)
  have hN:MN w w.heap.size z (z+1) (z+1+1) W3.heap.size (W3.heap.size+1) (W3.heap.size+1+1):=⟨by have:=T5.out;have:=TL.out;omega⟩
  have hs4:W3.heap.size+1+1=W4.heap.size:=by rw[hW4];omega
  have hold:∀ b,b<W3.heap.size→W4.heap[b]?=W3.heap[b]?:=fun b hb=>by rw[hW4,zD (by omega),zD hb]
  have hz:=T5.out
  have hzl:=TL.out
  have hM0:MJ K w w.heap.size z (z+1) (z+1+1) W3.heap.size (W3.heap.size+1) (W3.heap.size+1+1) r #[.slice gA K.goods.length gc,.slice dA K.dishes.length dc,.slice hA K.hauls.length hc] [] W4:=
   ⟨fun b hb=>(hold b (by omega)).trans (T6.out.same b hb),by rw[hW4];exact T6.out.os,by omega,(hold _ (by omega)).trans T1.out,(hold _ (by omega)).trans T4.out,by rw[hW4,zD (by omega),qv rfl],by rw[hW4,qv hs1],(hold _ (by omega)).trans T2.out,(hold _ (by omega)).trans T3.out⟩
  rw[hs4] at hN hM0 ⊢
  refine (menus_in (fs:=fs) 9 (W3.heap.size+1) (z+1+1) K.dishes.length K.hauls.length gA dA hA K.goods.length gc dc hc (by omega) (fun pre W=>MJ K w w.heap.size z (z+1) (z+1+1) W3.heap.size (W3.heap.size+1) W4.heap.size r #[.slice gA K.goods.length gc,.slice dA K.dishes.length dc,.slice hA K.hauls.length hc] pre W) W4 ((hold _ (by omega)).trans T4.out) d1 (by omega) (by omega) h1 (fun pre W W' hJ _ hb=>hJ.but hN hb) ?hY hM0).mono fun e W2 ⟨hv,hJ⟩=>⟨hv,hJ.lL,r,hJ⟩
  case hY =>
  intro pre xs A c W hJ hsz hown hxl hv
  have hL:=hJ.lL
  have e1:=congrArg Loop.assign hr
  have e2:=congrArg Loop.body hr
  have e3:=congrArg Loop.tmps hr
  have e4:=congrArg Loop.params hr
  have e5:=congrArg Loop.state hr
  have e6:=congrArg Loop.pending hr
  have e7:=congrArg Loop.fn hr
  dsimp only at e1 e2 e3 e4 e5 e6 e7
  obtain⟨rb,hrb⟩:∃ rb,rb={ r with state:=LoopState.busy }:=⟨_,rfl⟩
  refine yield_parts (P:=Pf fs) (F:=Fence.wide) (n:=8) (r:=r) (rb:=rb) (Post:=fun W'=>MJ K w w.heap.size z (z+1) (z+1+1) W3.heap.size (W3.heap.size+1) W4.heap.size r #[.slice gA K.goods.length gc,.slice dA K.dishes.length dc,.slice hA K.hauls.length hc] (pre++[xs]) W'∧W.heap.size≤W'.heap.size∧W'.heap[W4.heap.size]?=W.heap[W4.heap.size]?∧W'.heap[z+1+1]?=W.heap[z+1+1]?) hL e5.symm e6.symm (e7▸hfn) e1 e2 e3 e4 hrb rfl ?_
  have HN:=Lib.hid hN
  have HJ:=Lib.hid hJ
  have HHL:=Lib.hid hL
  have HSZ:=Lib.hid hsz
  have HOW:=Lib.hid hown
  have HXL:=Lib.hid hxl
  have HVV:=Lib.hid hv
  have HZ:=Lib.hid hz
  have HZL:=Lib.hid hzl
  have HS4:=Lib.hid hs4
  clear e1 e2 e3 e4 e5 e6 e7 hrb hr hN hJ hL hsz hown hxl hv hz hzl hs4 hold hM0 hs1 hs2 hW4 c1 c2 c3 d1 d2 d3 h1 h2 h3
  gi_wp2
  refine⟨HHL.out,?_⟩
  obtain⟨Wb,hWb⟩:∃ X,X=W.putObj (W3.heap.size+1) (.loop rb):=⟨_,rfl⟩
  have wL:Wb.heap[W3.heap.size+1]?=some (.loop rb):=by rw[hWb];exact World.putObj_heap_same (zj HHL.out)
  have wO:∀ b,b≠W3.heap.size+1→Wb.heap[b]?=W.heap[b]?:=fun b hb=>by rw[hWb];exact World.putObj_heap_other hb
  have wS:Wb.heap.size=W.heap.size:=by rw[hWb];simp
  have wos:Wb.os=W.os:=by rw[hWb];rfl
  rw[← hWb]
  clear hWb
  have hn:=HN.out.a
  have hwsz:=HSZ.out
  have hgb:Grown w Wb:=⟨by rw[wS];omega,fun b hb=>(wO b (by omega)).trans (HJ.out.old b hb),wos.trans HJ.out.os⟩
  have hx1:Wb.heap[w.heap.size]?=some (.cells #[.slice gA K.goods.length gc,.slice dA K.dishes.length dc,.slice hA K.hauls.length hc] 29 (0,0)):=(wO _ (by omega)).trans HJ.out.k1
  have hix:Ints Wb A xs:=fun k x hx=>by
   obtain⟨b,off,e,hc'⟩:=yC HOW.out k x hx
   have hb:=(zV HOW.out (k:=b) (by rw[qu,e];rfl)).1
   exact⟨b,off,e,(World.cell?_of_block (a:=⟨b,off+k,none⟩) (wO b (by omega))).trans hc'⟩
  have hRR:qk K.dishes.length K.hauls.length xs=0:=by
   unfold qk
   rw[Yb (by have:=HXL.out;omega) (by have:=HXL.out;omega),if_neg (by simp)]
   exact HVV.out
  have y0:=za hx1 0
  have y1:=za hx1 1
  have y2:=za hx1 2
  simp only[List.getElem?_toArray,List.getElem?_cons_succ,List.getElem?_cons_zero] at y0 y1 y2
  have HGB:=Lib.hid hgb
  have HWO:=Lib.hid wO
  have HWL:=Lib.hid wL
  have HWS:=Lib.hid wS
  have HWOS:=Lib.hid wos
  have HX1:=Lib.hid hx1
  have HIX:=Lib.hid hix
  have HNA:=Lib.hid hn
  cases hno:noneB K xs with
  | true =>
   have hall:=zcG (fs:=fs) K gA dA hA gc dc hc xs A c Wb (HK.out.grown hgb) hix hC hRR hno
   unfold ktV at hall
   have HA:=Lib.hid hall
   have HNO:=Lib.hid hno
   clear hall hno hgb hx1 hix hRR wO wL wS wos hn hwsz
   gi_wp2_with (gi_at_call 74;refine ((callsIn_wide (n:=7).2 HA.out).inRound _).mono ?_;rintro e w5 ⟨rfl,hg5⟩;have HG5:=Lib.hid hg5;clear hg5)
   all_goals first|(exfalso;rename_i q1 q2;simp[undef] at q1;done)|skip
   have hb5:BestAt w5 z (z+1) W4.heap.size (jD K (pre++[xs])):=by
    have hn:=HNA.out
    have hws:=HWS.out
    have hsz:=HSZ.out
    have hE:jD K (pre++[xs])=jD K pre:=by rw[Zr];unfold ZG;rw[if_pos HNO.out]
    rw[hE]
    exact HJ.out.best.keep ((HG5.out.same _ (by omega)).trans (HWO.out _ (by omega))) ((HG5.out.same _ (by omega)).trans (HWO.out _ (by omega))) fun b hb hl=>(HG5.out.same _ (by omega)).trans (HWO.out _ (by omega))
   have hn:=HNA.out
   have hws:=HWS.out
   have hsz:=HSZ.out
   obtain⟨p1,p2,p3,p4⟩:=HJ.out.after HN.out HSZ.out HWO.out HWS.out HWOS.out (fun b hb _ _=>HG5.out.same b hb) HG5.out.size HG5.out.os hb5
   exact⟨(HG5.out.same _ (by omega)).trans HWL.out,p1,by have:=HG5.out.size;omega,p3,p4⟩
  | false =>
   have hall:=zbw (fs:=fs) K gA dA hA gc dc hc xs A c Wb (HK.out.grown hgb) hix hC hRR hno
   unfold ktV at hall
   have HA:=Lib.hid hall
   have HNO:=Lib.hid hno
   have HNH:Hid (1≤K.hauls.length):=by
    obtain⟨c1,c2,c3⟩:=qK hC
    exact (qH c3).1
   have n0:=fun n m W=>zeb (fs:=fs) Try.underlying22 n m W
   have n1:=fun a n m W=>Qw (fs:=fs) Try.underlying22 a n m W
   have hbest:=HJ.out.best
   have hz1:z≠z+1:=by omega
   have hz2:z+1≠z:=by omega
   clear hall hno hgb hx1 hix hRR wL wS wos
   cases hbo:jD K pre with
   | none =>
    rw[hbo] at hbest
    have HB6:=Lib.hid ((wO z (by omega)).trans hbest.1)
    have HB7:=Lib.hid ((wO (z+1) (by omega)).trans hbest.2)
    have HE:Hid (jD K (pre++[xs])=some (xs,jw K xs)):=by
     show _=_
     rw[Zr,hbo]
     unfold ZG
     rw[HNO.out]
     rfl
    clear hbest hbo wO hn hwsz
    gi_wp2_with (gi_at_call 74;refine ((callsIn_wide (n:=7).2 HA.out).inRound _).mono ?_;rintro e w5 ⟨M,rfl,hg5,_⟩;have HG5:=Lib.hid hg5;have g6:=(hg5.same z (by have:=HNA.out;have:=HWS.out;have:=HSZ.out;omega)).trans HB6.out;have g7:=(hg5.same (z+1) (by have:=HNA.out;have:=HWS.out;have:=HSZ.out;omega)).trans HB7.out;have G6:=Lib.hid g6;have G7:=Lib.hid g7;have u6:=za g6 0;have u7:=za g7 0;have v6:=zk g6 0;have v7:=zk g7 0;simp only[List.getElem?_toArray,List.getElem?_cons_zero] at u6 u7;clear hg5 g6 g7)
    all_goals first|(exfalso;rename_i q1 q2;simp[undef] at q1;done)|skip
    obtain⟨w6,hw6⟩:∃ X,X=(w5.setCell ⟨z,0,none⟩ (.slice A xs.length c)).setCell ⟨z+1,0,none⟩ (.int .i64 (jw K xs)):=⟨_,rfl⟩
    try rw[← hw6]
    have hn:=HNA.out
    have hws:=HWS.out
    have hsz:=HSZ.out
    have s6:w6.heap.size=w5.heap.size:=by rw[hw6,zv,zv]
    have k6:∀ b,b≠z→b≠z+1→w6.heap[b]?=w5.heap[b]?:=fun b q1 q2=>by rw[hw6,Below.heap_setCell _ _ _ _ q2,Below.heap_setCell _ _ _ _ q1]
    have e6:w6.heap[z]?=some (.cells #[.slice A xs.length c] 22 (0,0)):=by
     rw[hw6,Below.heap_setCell _ _ _ _ (by simp),zR G6.out];rfl
    have e7:w6.heap[z+1]?=some (.cells #[.int .i64 (jw K xs)] 3 (0,0)):=by
     rw[hw6]
     have:=zR (i:=0) (w:=w5.setCell ⟨z,0,none⟩ (.slice A xs.length c)) ((Below.heap_setCell _ _ _ _ (by simp)).trans G7.out) (.int .i64 (jw K xs))
     rw[this];rfl
    have hb6:BestAt w6 z (z+1) W4.heap.size (jD K (pre++[xs])):=by
     rw[HE.out]
     refine⟨A,c,e6,e7,by have:=HXL.out;have:=HNH.out;omega,fun k x hx=>?_⟩
     obtain⟨b,off,e,hc'⟩:=HIX.out k x hx
     have hb:=(zV HOW.out (k:=b) (by rw[qu,e];rfl)).1
     have hbl:=qw hc'
     exact⟨b,off,e,by omega,(World.cell?_of_block (a:=⟨b,off+k,none⟩) ((k6 b (by omega) (by omega)).trans (HG5.out.same b hbl))).trans hc'⟩
    obtain⟨p1,p2,p3,p4⟩:=HJ.out.after HN.out HSZ.out HWO.out HWS.out HWOS.out (fun b hb q1 q2=>(k6 b q1 q2).trans (HG5.out.same b hb)) (by rw[s6];exact HG5.out.size) (by rw[hw6];exact HG5.out.os) hb6
    exact⟨(k6 _ (by omega) (by omega)).trans ((HG5.out.same _ (by omega)).trans HWL.out),p1,by have:=HG5.out.size;omega,p3,p4⟩
   | some p =>
    obtain⟨m,c0⟩:=p
    rw[hbo] at hbest
    obtain⟨Am,capm,k1,k2,k0,k3⟩:=hbest
    obtain⟨am,rfl⟩:∃ a,Am=some a:=by
     obtain⟨b',o',e',_⟩:=k3 0 _ (List.getElem?_eq_getElem (by omega))
     exact⟨_,e'⟩
    have HB6:=Lib.hid ((wO z (by omega)).trans k1)
    have HB7:=Lib.hid ((wO (z+1) (by omega)).trans k2)
    have HBO:=Lib.hid hbo
    clear hbo wO hn hwsz k0 k1 k2 k3
    have hle:=fun W=>Jv (fs:=fs) (jw K xs) c0 W
    by_cases hlt:(jw K xs:Int)<(c0:Int)
    ·have HE:Hid (jD K (pre++[xs])=some (xs,jw K xs)):=by
      show _=_
      rw[Zr,HBO.out]
      unfold ZG
      rw[HNO.out]
      simp only[Bool.false_eq_true,if_false]
      rw[if_pos (by omega)]
     rw[decide_eq_true hlt] at hle
     have HLE:=Lib.hid hle
     clear hle hlt
     gi_wp2_with (first|(gi_at_call 74;refine ((callsIn_wide (n:=7).2 HA.out).inRound _).mono ?_;rintro e w5 ⟨M,rfl,hg5,_⟩;have HG5:=Lib.hid hg5;have g6:=(hg5.same z (by have:=HNA.out;have:=HWS.out;have:=HSZ.out;omega)).trans HB6.out;have g7:=(hg5.same (z+1) (by have:=HNA.out;have:=HWS.out;have:=HSZ.out;omega)).trans HB7.out;have G6:=Lib.hid g6;have G7:=Lib.hid g7;have u6:=za g6 0;have u7:=za g7 0;have v6:=zk g6 0;have v7:=zk g7 0;simp only[List.getElem?_toArray,List.getElem?_cons_zero] at u6 u7;clear hg5 g6 g7)|(gi_at_call 91;refine ((callsIn_wide (n:=7).2 (HLE.out _)).inRound _).mono ?_;rintro e w9 ⟨rfl,hw9⟩;obtain rfl:w5=w9:=hw9.symm))
     all_goals first|(exfalso;rename_i q1 q2;simp[undef] at q1;done)|skip
     obtain⟨w6,hw6⟩:∃ X,X=(w5.setCell ⟨z,0,none⟩ (.slice A xs.length c)).setCell ⟨z+1,0,none⟩ (.int .i64 (jw K xs)):=⟨_,rfl⟩
     try rw[← hw6]
     have hn:=HNA.out
     have hws:=HWS.out
     have hsz:=HSZ.out
     have s6:w6.heap.size=w5.heap.size:=by rw[hw6,zv,zv]
     have k6:∀ b,b≠z→b≠z+1→w6.heap[b]?=w5.heap[b]?:=fun b q1 q2=>by rw[hw6,Below.heap_setCell _ _ _ _ q2,Below.heap_setCell _ _ _ _ q1]
     have e6:w6.heap[z]?=some (.cells #[.slice A xs.length c] 22 (0,0)):=by
      rw[hw6,Below.heap_setCell _ _ _ _ (by simp),zR G6.out];rfl
     have e7:w6.heap[z+1]?=some (.cells #[.int .i64 (jw K xs)] 3 (0,0)):=by
      rw[hw6]
      have:=zR (i:=0) (w:=w5.setCell ⟨z,0,none⟩ (.slice A xs.length c)) ((Below.heap_setCell _ _ _ _ (by simp)).trans G7.out) (.int .i64 (jw K xs))
      rw[this];rfl
     have hb6:BestAt w6 z (z+1) W4.heap.size (jD K (pre++[xs])):=by
      rw[HE.out]
      refine⟨A,c,e6,e7,by have:=HXL.out;have:=HNH.out;omega,fun k x hx=>?_⟩
      obtain⟨b,off,e,hc'⟩:=HIX.out k x hx
      have hb:=(zV HOW.out (k:=b) (by rw[qu,e];rfl)).1
      have hbl:=qw hc'
      exact⟨b,off,e,by omega,(World.cell?_of_block (a:=⟨b,off+k,none⟩) ((k6 b (by omega) (by omega)).trans (HG5.out.same b hbl))).trans hc'⟩
     obtain⟨p1,p2,p3,p4⟩:=HJ.out.after HN.out HSZ.out HWO.out HWS.out HWOS.out (fun b hb q1 q2=>(k6 b q1 q2).trans (HG5.out.same b hb)) (by rw[s6];exact HG5.out.size) (by rw[hw6];exact HG5.out.os) hb6
     exact⟨(k6 _ (by omega) (by omega)).trans ((HG5.out.same _ (by omega)).trans HWL.out),p1,by have:=HG5.out.size;omega,p3,p4⟩
    ·have HE:Hid (jD K (pre++[xs])=some (m,c0)):=by
      show _=_
      rw[Zr,HBO.out]
      unfold ZG
      rw[HNO.out]
      simp only[Bool.false_eq_true,if_false]
      rw[if_neg (by omega)]
     rw[decide_eq_false hlt] at hle
     have HLE:=Lib.hid hle
     clear hle hlt
     gi_wp2_with (first|(gi_at_call 74;refine ((callsIn_wide (n:=7).2 HA.out).inRound _).mono ?_;rintro e w5 ⟨M,rfl,hg5,_⟩;have HG5:=Lib.hid hg5;have g6:=(hg5.same z (by have:=HNA.out;have:=HWS.out;have:=HSZ.out;omega)).trans HB6.out;have g7:=(hg5.same (z+1) (by have:=HNA.out;have:=HWS.out;have:=HSZ.out;omega)).trans HB7.out;have G6:=Lib.hid g6;have G7:=Lib.hid g7;have u6:=za g6 0;have u7:=za g7 0;have v6:=zk g6 0;have v7:=zk g7 0;simp only[List.getElem?_toArray,List.getElem?_cons_zero] at u6 u7;clear hg5 g6 g7)|(gi_at_call 91;refine ((callsIn_wide (n:=7).2 (HLE.out _)).inRound _).mono ?_;rintro e w9 ⟨rfl,hw9⟩;obtain rfl:w5=w9:=hw9.symm))
     all_goals first|(exfalso;rename_i q1 q2;simp[undef] at q1;done)|skip
     have hn:=HNA.out
     have hws:=HWS.out
     have hsz:=HSZ.out
     have hb5:BestAt w5 z (z+1) W4.heap.size (jD K (pre++[xs])):=by
      rw[HE.out,← HBO.out]
      exact HJ.out.best.keep ((HG5.out.same _ (by omega)).trans (HWO.out _ (by omega))) ((HG5.out.same _ (by omega)).trans (HWO.out _ (by omega))) fun b hb hl=>(HG5.out.same _ (by omega)).trans (HWO.out _ (by omega))
     obtain⟨p1,p2,p3,p4⟩:=HJ.out.after HN.out HSZ.out HWO.out HWS.out HWOS.out (fun b hb _ _=>HG5.out.same b hb) HG5.out.size HG5.out.os hb5
     exact⟨(HG5.out.same _ (by omega)).trans HWL.out,p1,by have:=HG5.out.size;omega,p3,p4⟩
 case hdone =>
  rintro W5 r5 hl5 ⟨r,hJ⟩ r'
  have hN:MN w w.heap.size z (z+1) (z+1+1) W3.heap.size (W3.heap.size+1) (W3.heap.size+1+1):=⟨by have:=T5.out;have:=TL.out;omega⟩
  have hn:=hN.a
  obtain⟨W6,hW6⟩:∃ X,X=W5.putObj (W3.heap.size+1) (.loop r'):=⟨_,rfl⟩
  have wO:∀ b,b≠W3.heap.size+1→W6.heap[b]?=W5.heap[b]?:=fun b hb=>by rw[hW6];exact World.putObj_heap_other hb
  have wS:W6.heap.size=W5.heap.size:=by rw[hW6];simp
  have wos:W6.os=W5.os:=by rw[hW6];rfl
  rw[← hW6]
  have hK6:W6.heap[W3.heap.size]?=some (.deferred (some [])):=(wO _ (by omega)).trans hJ.dK
  have hbest:BestAt W6 z (z+1) (W3.heap.size+1+1) (Jt K):=hJ.best.keep (wO _ (by omega)) (wO _ (by omega)) fun b hb _=>wO b (by omega)
  have hgr:∀ W7:World,W7.heap.size=W6.heap.size→W7.os=W6.os→(∀ b,b<w.heap.size→W7.heap[b]?=W6.heap[b]?)→Grown w W7:=fun W7 e1 e2 e3=>⟨by have:=hJ.size;omega,fun b hb=>(e3 b hb).trans ((wO b (by omega)).trans (hJ.old b hb)),e2.trans (wos.trans hJ.os)⟩
  have HGR:=Lib.hid hgr
  have HK6:=Lib.hid hK6
  have n0:=fun n m W=>zeb (fs:=fs) Try.underlying22 n m W
  have n1:=fun a n m W=>Qw (fs:=fs) Try.underlying22 a n m W
  have HNA:=Lib.hid hn
  clear hl5 hJ hN hn hW6 wO wS wos hK6 hgr T1 T2 T3 T4 T5 T6 TL
  cases hm:Jt K with
  | none =>
   rw[hm] at hbest
   have u6:=za hbest.1 0
   simp only[List.getElem?_toArray,List.getElem?_cons_zero] at u6
   have HMM:=Lib.hid hm
   clear hbest hm
   gi_wp2_with fail
   refine⟨by simp,.inl ⟨_,_,rfl,run_takeDeferred HK6.out,?_⟩⟩
   refine⟨.tuple #[.slice none 0 0,.int .i64 0,.int .i64 11],by simp[results,Try.results53,go_sem],_,rfl,?_,.inl ⟨HMM.out,rfl⟩⟩
   exact HGR.out _ (by simp) rfl fun b hb=>World.putObj_heap_other (by have:=HNA.out;omega)
  | some p =>
   obtain⟨m,c⟩:=p
   rw[hm] at hbest
   obtain⟨Am,capm,k1,k2,k0,k3⟩:=hbest
   obtain⟨am,rfl⟩:∃ a,Am=some a:=by
    obtain⟨b',o',e',_⟩:=k3 0 _ (List.getElem?_eq_getElem (by omega))
    exact⟨_,e'⟩
   have u6:=za k1 0
   have u7:=za k2 0
   simp only[List.getElem?_toArray,List.getElem?_cons_zero] at u6 u7
   have HK3:=Lib.hid k3
   have HMM:=Lib.hid hm
   clear k1 k2 k0 k3 hm
   gi_wp2_with fail
   refine wpIn_wide.2 ?_
   go_quiet (fail)
   go_wp2_with fail
   gi_wp2_with fail
   refine⟨by simp,.inl ⟨_,_,rfl,run_takeDeferred (w:=W6.drewN nq) HK6.out,?_⟩⟩
   refine⟨.tuple #[.slice (some am) m.length capm,.int .i64 c,.int .i64 0],by simp[results,Try.results53,go_sem],_,rfl,?_,.inr ⟨m,c,some am,capm,HMM.out,rfl,fun k x hx=>?_⟩⟩
   ·exact HGR.out _ (by simp) rfl fun b hb=>World.putObj_heap_other (by have:=HNA.out;omega)
   ·obtain⟨b,off,e,hb,hc'⟩:=HK3.out k x hx
    exact⟨b,off,e,(World.cell?_of_block (a:=⟨b,off+k,none⟩) (World.putObj_heap_other (by show b≠_;omega))).trans hc'⟩
theorem menu_any (K:Kt) (gA dA hA:Option Addr) (gc dc hc:Nat) (w:World) (k:KtAt w K gA dA hA) (hC:zC K=0) :
  Calls (Pf fs) 53 #[ktV K gA dA hA gc dc hc] w fun e w'=>∃ v,e=.returned v∧Grown w w' ∧
   ((Jt K=none∧v=.tuple #[.slice none 0 0,.int .i64 0,.int .i64 11])∨∃ m c A cap,Jt K=some (m,c)∧v=.tuple #[.slice A m.length cap,.int .i64 c,.int .i64 0]∧Ints w' A m):=
 callsIn_wide.1 (menu_yes K gA dA hA gc dc hc w k hC)
end
end
end Go.Gal
namespace Go.Gal
open Go Go.Par Go.Proofs Go.RowKit
section
theorem zbS {P:Program} {f:FuncId} {args:Array Value} {w:World} {n:Nat} {v:Value} (h:Calls P f args (w.drewN n) fun e w'=>e=.returned v∧∃ k,w'=(w.drewN n).drewN k) :
  Calls P f args (w.drewN n) fun e w''=>e=.returned v∧∃ k,w''=w.drewN k:=h.mono fun _ _ ⟨he,k,hm⟩=>⟨he,n+k,hm.trans (World.drewN_drewN _ _ _)⟩
theorem zax {P:Program} {f:FuncId} {args:Array Value} {w:World} {m n:Nat} {v:Value} (h:Calls P f args (w.drewN (m+n)) fun e w'=>e=.returned v∧∃ k,w'=(w.drewN (m+n)).drewN k) :
  Calls P f args (w.drewN (m+n)) fun e w''=>e=.returned v∧∃ k,w''=w.drewN (m+k):=h.mono fun _ _ ⟨he,k,hm⟩=>⟨he,n+k,by rw[hm,World.drewN_drewN,Nat.add_assoc]⟩
section
variable {fs:Array Func} [Like fs]
set_option maxRecDepth 20000 in
set_option maxHeartbeats 1000000 in
theorem yu (A B:Option Addr) (ca cb:Nat) (xs ys:List Int) (w:World) (hx:Ints w A xs) (hy:Ints w B ys) (hl:xs.length≤1000) (hl2:ys.length≤1000) :
  Calls (Pf fs) 40 #[.slice A xs.length ca,.slice B ys.length cb] w fun e w'=>e=.returned (.bool (decide (xs=ys)))∧∃ q,w'=w.drewN q:=by
 by_cases hxy:xs.length=ys.length
 ·have hb:((xs.length:Int) != (ys.length:Int))=false:=by simp[hxy]
  have hst:∀ k,k<xs.length→(xs.drop k=ys.drop k↔xs[k]! = ys[k]!∧xs.drop (k+1)=ys.drop (k+1)):=by
   intro k hk
   rw[List.drop_eq_getElem_cons hk,List.drop_eq_getElem_cons (show k<ys.length by omega)]
   rw[getElem!_pos xs k hk,getElem!_pos ys k (by omega),List.cons.injEq]
  by_cases hx0:xs=[]
  ·subst hx0
   have hys:ys=[]:=by cases ys with|nil=>rfl|cons=>simp at hxy
   subst hys
   clear hst hb
   go_enter LK.func40,Try.ntmps40
   go_wp2_with fail
   go_loop [5] (fun i=>i=.int .i64 0) (fun _=>0)
   case atStart=>rfl
   case round =>
    subst hrel
    go_wp2_with fail
    go_ret
    exact⟨rfl,0,rfl⟩
  ·obtain⟨b,off,rfl,hc⟩:∃ b off,A=some ⟨b,off,none⟩∧∀ k x,xs[k]?=some x→w.cell? ⟨b,off+k,none⟩=some (.int .i64 x):=by
    rcases hx.form with h|h
    ·exact absurd h hx0
    ·exact h
   obtain⟨b2,off2,rfl,hc2⟩:∃ b2 off2,B=some ⟨b2,off2,none⟩∧∀ k x,ys[k]?=some x→w.cell? ⟨b2,off2+k,none⟩=some (.int .i64 x):=by
    rcases hy.form with h|h
    ·subst h;exact absurd (List.eq_nil_of_length_eq_zero hxy) hx0
    ·exact h
   have HE:Hid (decide (xs=ys)=decide (xs.drop 0=ys.drop 0)):=rfl
   generalize hd:decide (xs=ys)=E at HE ⊢
   clear hd hx hy
   go_enter LK.func40,Try.ntmps40
   go_wp2_with fail
   go_loopw [5] (fun i wr=>∃ k:Nat,k≤xs.length∧i=.int .i64 k∧Hid (E=decide (xs.drop k=ys.drop k))∧∃ q,wr=w.drewN q) (fun i _=>xs.length-(intOf i).toNat)
   case atStart=>exact⟨0,by omega,rfl,HE,0,rfl⟩
   case round =>
    obtain⟨k,hk,rfl,hE,q,rfl⟩:=hrel
    clear HE
    by_cases hkl:k<xs.length
    ·have hs:=hst k hkl
     have c1:=hc k _ (List.getElem?_eq_getElem hkl)
     have c2:=hc2 k _ (List.getElem?_eq_getElem (show k<ys.length by omega))
     rw[getElem!_pos xs k hkl,getElem!_pos ys k (by omega)] at hs
     have k1:(k:Int)<(xs.length:Int):=by omega
     have k2:(k:Int)<(ys.length:Int):=by omega
     generalize xs[k]=x at c1 hs
     generalize ys[k]'(by omega)=y at c2 hs
     have Hs:=Lib.hid hs
     clear hs hst hc hc2
     by_cases hxy2:x=y
     ·have hN:Hid (E=decide (xs.drop (k+1)=ys.drop (k+1))):=by
       show _=_
       rw[hE.out,decide_eq_decide,Hs.out]
       exact⟨fun h=>h.2,fun h=>⟨hxy2,h⟩⟩
      have e1:(x != y)=false:=by simp[hxy2]
      clear hxy2
      go_wp2_with fail
      go_quiet (fail)
      go_wp2_with fail
      go_roundw
      case rel=>exact⟨k+1,by omega,by go_num,hN,_,rfl⟩
      case measure=>simp[intOf];omega
     ·have hN:Hid (E=false):=by
       show _=_
       rw[hE.out,decide_eq_false_iff_not,Hs.out]
       exact fun h=>hxy2 h.1
      have e1:(x != y)=true:=by simp[hxy2]
      clear hxy2
      go_wp2_with fail
      go_quiet (fail)
      go_wp2_with fail
      go_ret
      exact⟨by rw[hN.out];rfl,_,World.drewN_drewN _ _ _⟩
    ·obtain rfl:k=xs.length:=by omega
     have hN:Hid (E=true):=by
      show _=_
      rw[hE.out,decide_eq_true_iff,List.drop_length,hxy,List.drop_length]
     clear hE hst hc hc2
     go_wp2_with fail
     go_ret
     exact⟨by rw[hN.out];rfl,_,rfl⟩
 ·have hb:((xs.length:Int) != (ys.length:Int))=true:=by simp;omega
  have hne:decide (xs=ys)=false:=by rw[decide_eq_false_iff_not];intro h;exact hxy (by rw[h])
  have HN:=Lib.hid hne
  clear hne
  go_enter LK.func40,Try.ntmps40
  go_wp2_with fail
  go_ret
  exact⟨by rw[HN.out];rfl,0,rfl⟩
theorem DishesAt.form {w:World} {A:Option Addr} {ds:List (List Int)} (h:DishesAt w A ds):ds=[]∨∃ b off,A=some ⟨b,off,none⟩∧∀ (j:Nat) (d:List Int),ds[j]?=some d→∃ dA dc,w.cell? ⟨b,off+j,none⟩=some (.slice dA d.length dc)∧Ints w dA d∧d.length≤1000:=by
 cases ds with
 | nil=>exact .inl rfl
 | cons x l =>
  obtain⟨b,off,hA,_⟩:=h 0 x rfl
  refine .inr ⟨b,off,hA,fun j g hj=>?_⟩
  obtain⟨b',off',hA',hc⟩:=h j g hj
  rw[hA] at hA'
  injection hA' with hA'
  injection hA' with h1 h2
  subst h1 h2
  exact hc
set_option maxRecDepth 20000 in
set_option maxHeartbeats 1000000 in
theorem Jh (A B:Option Addr) (ca cb:Nat) (xs ys:List (List Int)) (w:World) (hx:DishesAt w A xs) (hy:DishesAt w B ys) (hl:xs.length≤1000) (hl2:ys.length≤1000) :
  Calls (Pf fs) 38 #[.slice A xs.length ca,.slice B ys.length cb] w fun e w'=>e=.returned (.bool (decide (xs=ys)))∧∃ q,w'=w.drewN q:=by
 by_cases hxy:xs.length=ys.length
 ·have hb:((xs.length:Int) != (ys.length:Int))=false:=by simp[hxy]
  have hst:∀ k,k<xs.length→(xs.drop k=ys.drop k↔xs[k]! = ys[k]!∧xs.drop (k+1)=ys.drop (k+1)):=by
   intro k hk
   rw[List.drop_eq_getElem_cons hk,List.drop_eq_getElem_cons (show k<ys.length by omega)]
   rw[getElem!_pos xs k hk,getElem!_pos ys k (by omega),List.cons.injEq]
  by_cases hx0:xs=[]
  ·subst hx0
   have hys:ys=[]:=by cases ys with|nil=>rfl|cons=>simp at hxy
   subst hys
   clear hst hb
   go_enter LK.func38,Try.ntmps38
   go_wp2_with fail
   go_loop [5] (fun i=>i=.int .i64 0) (fun _=>0)
   case atStart=>rfl
   case round =>
    subst hrel
    go_wp2_with fail
    go_ret
    exact⟨rfl,0,rfl⟩
  ·obtain⟨b,off,rfl,hc⟩:∃ b off,A=some ⟨b,off,none⟩∧∀ (j:Nat) (d:List Int),xs[j]?=some d→∃ dA dc,w.cell? ⟨b,off+j,none⟩=some (.slice dA d.length dc)∧Ints w dA d∧d.length≤1000:=by
    rcases hx.form with h|h
    ·exact absurd h hx0
    ·exact h
   obtain⟨b2,off2,rfl,hc2⟩:∃ b2 off2,B=some ⟨b2,off2,none⟩∧∀ (j:Nat) (d:List Int),ys[j]?=some d→∃ dA dc,w.cell? ⟨b2,off2+j,none⟩=some (.slice dA d.length dc)∧Ints w dA d∧d.length≤1000:=by
    rcases hy.form with h|h
    ·subst h;exact absurd (List.eq_nil_of_length_eq_zero hxy) hx0
    ·exact h
   have HE:Hid (decide (xs=ys)=decide (xs.drop 0=ys.drop 0)):=rfl
   generalize hd:decide (xs=ys)=E at HE ⊢
   clear hd hx hy
   go_enter LK.func38,Try.ntmps38
   go_wp2_with fail
   go_loopw [5] (fun i wr=>∃ k:Nat,k≤xs.length∧i=.int .i64 k∧Hid (E=decide (xs.drop k=ys.drop k))∧∃ q,wr=w.drewN q) (fun i _=>xs.length-(intOf i).toNat)
   case atStart=>exact⟨0,by omega,rfl,HE,0,rfl⟩
   case round =>
    obtain⟨k,hk,rfl,hE,q,rfl⟩:=hrel
    clear HE
    by_cases hkl:k<xs.length
    ·have hs:=hst k hkl
     obtain⟨xA,xc,c1,i1,n1⟩:=hc k _ (List.getElem?_eq_getElem hkl)
     obtain⟨yA,yc,c2,i2,n2⟩:=hc2 k _ (List.getElem?_eq_getElem (show k<ys.length by omega))
     rw[getElem!_pos xs k hkl,getElem!_pos ys k (by omega)] at hs
     have k1:(k:Int)<(xs.length:Int):=by omega
     have k2:(k:Int)<(ys.length:Int):=by omega
     generalize xs[k]=x at c1 hs i1 n1
     generalize ys[k]'(by omega)=y at c2 hs i2 n2
     have HC:=Lib.hid (fun n=>yu (fs:=fs) xA yA xc yc x y (w.drewN n) i1 i2 n1 n2)
     have Hs:=Lib.hid hs
     clear hs hst hc hc2 i1 i2 n1 n2
     by_cases hxy2:x=y
     ·have hN:Hid (E=decide (xs.drop (k+1)=ys.drop (k+1))):=by
       show _=_
       rw[hE.out,decide_eq_decide,Hs.out]
       exact⟨fun h=>h.2,fun h=>⟨hxy2,h⟩⟩
      have e1:decide (x=y)=true:=by simp[hxy2]
      rw[e1] at HC
      clear hxy2 e1
      go_wp2_with fail
      go_quiet (first|(go_at_call 40;with_reducible refine zbS (HC.out _))|(go_at_call 40;with_reducible refine zax (HC.out _)))
      go_wp2_with fail
      go_roundw
      case rel=>exact⟨k+1,by omega,by go_num,hN,_,rfl⟩
      case measure=>simp[intOf];omega
     ·have hN:Hid (E=false):=by
       show _=_
       rw[hE.out,decide_eq_false_iff_not,Hs.out]
       exact fun h=>hxy2 h.1
      have e1:decide (x=y)=false:=by simp[hxy2]
      rw[e1] at HC
      clear hxy2 e1
      go_wp2_with fail
      go_quiet (first|(go_at_call 40;with_reducible refine zbS (HC.out _))|(go_at_call 40;with_reducible refine zax (HC.out _)))
      go_wp2_with fail
      go_ret
      exact⟨by rw[hN.out];rfl,_,World.drewN_drewN _ _ _⟩
    ·obtain rfl:k=xs.length:=by omega
     have hN:Hid (E=true):=by
      show _=_
      rw[hE.out,decide_eq_true_iff,List.drop_length,hxy,List.drop_length]
     clear hE hst hc hc2
     go_wp2_with fail
     go_ret
     exact⟨by rw[hN.out];rfl,_,rfl⟩
 ·have hb:((xs.length:Int) != (ys.length:Int))=true:=by simp;omega
  have hne:decide (xs=ys)=false:=by rw[decide_eq_false_iff_not];intro h;exact hxy (by rw[h])
  have HN:=Lib.hid hne
  clear hne
  go_enter LK.func38,Try.ntmps38
  go_wp2_with fail
  go_ret
  exact⟨by rw[HN.out];rfl,0,rfl⟩
end
end
end Go.Gal
