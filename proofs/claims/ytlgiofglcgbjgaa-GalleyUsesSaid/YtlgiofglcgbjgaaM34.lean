/- Walks: Most. A range over a function whose body never leaves the loop: one round, and the statement, with the iterator's memory in hand. All menus, one after the other, as plain lists. -/
import Derived.Test.YtlgiofglcgbjgaaM33
import Derived.RangeFuncNested
import Derived.RangeFuncBound
import Derived.RangeFuncCalls
import Derived.RangeFuncLeaves
import Derived.RangeFuncBox
import Derived.Shelf.Abstract
import Derived.Shelf.RegionOpen
import Derived.OwnWalkIn
import Derived.TacticsInMore
import Derived.LoopNIn
import Derived.LoopIn
namespace Go.Gal
open Go Go.Par Go.Proofs Go.RowKit
section
def hlAt (hs:List Hl) (i:Nat):Hl:=hs.getD i ⟨0,0,[]⟩
theorem Yc {hs:List Hl} {i:Nat} (h:i<hs.length):hs[i]?=some (hlAt hs i):=by
 unfold hlAt
 rw[List.getD_eq_getElem?_getD,List.getElem?_eq_getElem h]
 rfl
def covK (K:Kt) (haul:Nat) (n:Int):Kt:={ K with hauls:=K.hauls.set haul { hlAt K.hauls haul with covers:=n } }
def yH (K:Kt) (xs:List Int) (haul:Nat):Nat→Option Nat
 | 0=>none
 | n+1=>if noneB (covK K haul n) xs then yH K xs haul n else some n
theorem Yb {n lo hi:Int} (h1:lo≤n) (h2:n≤hi):manyE n lo hi=0:=by
 unfold manyE
 rw[if_neg (by omega),if_neg (by omega)]
theorem zci {α : Type} {f : α→Int} : ∀ {l:List α},(∀ x∈l,f x=0)→qp f l=0
 | [],_=>rfl
 | y::l,h=>by
  unfold qp
  rw[h y (by simp),if_neg (by simp)]
  exact zci fun x hx=>h x (by simp[hx])
theorem eachE_ok {xs:List Int} {g lo hi:Int} (h1:(xs.length:Int)=g) (h2:∀ x∈xs,lo≤x∧x≤hi):eachE xs g lo hi=0:=by
 unfold eachE
 rw[Yb (by omega) (by omega),if_neg (by simp),if_neg]
 rw[List.any_eq_true]
 rintro⟨x,hx,ho⟩
 have:=h2 x hx
 unfold outB at ho
 simp only[Bool.or_eq_true,decide_eq_true_eq] at ho
 omega
theorem haulsE_ok {ng:Nat} {hs:List Hl} (h1 : 1≤hs.length) (h2:hs.length≤5) (h3:∀ x∈hs,0≤x.hours∧x.hours≤24∧0≤x.covers∧x.covers≤9∧x.prices.length=ng∧∀ p∈x.prices,0≤p∧p≤50):qF ng hs=0:=by
 unfold qF
 rw[Yb (by omega) (by omega),if_neg (by simp)]
 refine zci fun x hx=>?_
 obtain⟨a,b,c,d,e,f⟩:=h3 x hx
 unfold haulE
 have o1:outB x.hours 0 24=false:=by unfold outB;simp;omega
 have o2:outB x.covers 0 9=false:=by unfold outB;simp;omega
 rw[o1,o2]
 exact eachE_ok (by omega) f
theorem checkE_set {K:Kt} (hC:zC K=0) {haul:Nat} {h:Hl} (hv : 0≤h.hours∧h.hours≤24∧0≤h.covers∧h.covers≤9∧h.prices.length=K.goods.length∧∀ p∈h.prices,0≤p∧p≤50):zC { K with hauls:=K.hauls.set haul h }=0:=by
 obtain⟨c1,c2,c3⟩:=qK hC
 obtain⟨h1,h2,h3⟩:=qH c3
 unfold zC
 simp only[c1,c2,ne_eq,not_true_eq_false,if_false]
 refine haulsE_ok (by simpa using h1) (by simpa using h2) fun x hx=>?_
 rcases List.mem_or_eq_of_mem_set hx with q|rfl
 ·exact h3 x q
 ·exact hv
theorem covK_valid {K:Kt} (hC:zC K=0) {haul:Nat} (hh:haul<K.hauls.length) {n:Nat} (hn:n≤9):zC (covK K haul n)=0:=by
 obtain⟨c1,c2,c3⟩:=qK hC
 obtain⟨h1,h2,h3⟩:=qH c3
 obtain⟨a,b,c,d,e,f⟩:=h3 _ (List.mem_of_getElem? (Yc hh))
 exact checkE_set hC ⟨a,b,by show (0:Int)≤n;omega,by show (n:Int)≤9;omega,e,f⟩
theorem zbn (K:Kt) (haul:Nat) (n:Int):(covK K haul n).hauls.length=K.hauls.length:=by simp[covK]
def numAt (p:Value) (w:World):Nat:=match p with
 | .pointer (some a)=>match w.cell? a with
  | some (.int _ x)=>(x+1).toNat
  | _=>0
 | _=>0
def mostA (o:Option Nat):Value:=match o with
 | some n=>.tuple #[.int .i64 n,.int .i64 0]
 | none=>.tuple #[.int .i64 0,.int .i64 11]
section
variable {fs:Array Func} [LikeS fs]
set_option maxRecDepth 20000 in
set_option maxHeartbeats 2000000 in
theorem most_any (K:Kt) (gA dA:Option Addr) (hb ho gc dc hc:Nat) (xs:List Int) (mA:Option Addr) (mc:Nat) (haul:Nat) (w:World) (k:KtAt w K gA dA (some ⟨hb,ho,none⟩)) (m:Ints w mA xs) (hlen:xs.length≤1000) (hA:zW K xs=0) (hh:haul<K.hauls.length) :
  Calls (Pf fs) 28 #[ktV K gA dA (some ⟨hb,ho,none⟩) gc dc hc,.slice mA xs.length mc,.int .i64 haul] w fun e w'=>e=.returned (mostA (yH K xs haul 10))∧Grown w w':=by
 obtain⟨hC,hR⟩:=jU hA
 have hp : 1≤(hlAt K.hauls haul).prices.length:=by
  obtain⟨c1,c2,c3⟩:=qK hC
  obtain⟨g1,g2,g3⟩:=yD c1
  obtain⟨h1,h2,h3⟩:=qH c3
  have:=(h3 _ (List.mem_of_getElem? (Yc hh))).2.2.2.2.1
  omega
 have hpl:(hlAt K.hauls haul).prices.length≤1000:=by
  obtain⟨_,_,_,_,_,_,_,_,_,q⟩:=k.hauls haul _ (Yc hh)
  exact q
 have hasked:=fun W (g:Grown w W)=>ZH (fs:=fs) K gA dA (some ⟨hb,ho,none⟩) gc dc hc xs mA mc W (k.grown g) (m.grown g) hlen
 rw[hA] at hasked
 have hwith:∀ W nb (x:Nat),Grown w W→W.heap[nb]?=some (.cells #[.int .i64 x] 3 (0,0))→Calls (Pf fs) 72 #[ktV K gA dA (some ⟨hb,ho,none⟩) gc dc hc,.int .i64 haul,.func (.func 73) #[] #[.pointer (some ⟨nb,0,none⟩)]] W fun e w'=>∃ g c',e=.returned (.agg #[.slice gA K.goods.length gc,.slice dA K.dishes.length dc,.slice (some ⟨g,0,none⟩) K.hauls.length c'])∧Grown W w'∧HlsAt w' (some ⟨g,0,none⟩) (covK K haul x).hauls:=fun W nb x hg hn =>
  with_any (fs:=fs) 73 _ (fun args wr=>LK.call73 args wr) K gA dA hb ho gc dc hc haul _ _ W (k.grown hg) (Yc hh) hp hpl (n73_any nb x W haul _ hn)
 have hcan:∀ W (x:Nat) g c',x≤9→Grown w W→HlsAt W (some ⟨g,0,none⟩) (covK K haul x).hauls→Calls (Pf fs) 71 #[.agg #[.slice gA K.goods.length gc,.slice dA K.dishes.length dc,.slice (some ⟨g,0,none⟩) K.hauls.length c'],.slice mA xs.length mc] W fun e w'=>e=.returned (.bool (!noneB (covK K haul x) xs))∧Grown W w':=fun W x g c' hx hg hl=>by
  have:=can_any (fs:=fs) (covK K haul x) gA dA (some ⟨g,0,none⟩) gc dc c' xs mA mc W ⟨(k.grown hg).goods,(k.grown hg).dishes,hl,k.ng,k.nd,by rw[zbn];exact k.nh⟩ (m.grown hg) (covK_valid hC hh hx) (by rw[zbn];exact hR)
  unfold ktV at this
  rw[zbn] at this
  exact this
 have hnh:=k.nh
 have HC:=Lib.hid hasked
 have HWI:=Lib.hid hwith
 have HCN:=Lib.hid hcan
 obtain⟨V,hV⟩:∃ V,V=w.alloc (.cells #[.slice gA K.goods.length gc,.slice dA K.dishes.length dc,.slice (some ⟨hb,ho,none⟩) K.hauls.length hc] 29):=⟨_,rfl⟩
 have v0:V.heap[w.heap.size]?=some (.cells #[.slice gA K.goods.length gc,.slice dA K.dishes.length dc,.slice (some ⟨hb,ho,none⟩) K.hauls.length hc] 29 (0,0)):=by rw[hV];exact heap_alloc_new w _
 have vg:Grown w V:=by rw[hV];exact Grown.alloc _ _
 have hY:∀ W,Grown V W→W.cell? ⟨w.heap.size,0,none⟩=some (.slice gA K.goods.length gc)∧W.cell? ⟨w.heap.size,1,none⟩=some (.slice dA K.dishes.length dc)∧W.cell? ⟨w.heap.size,2,none⟩=some (.slice (some ⟨hb,ho,none⟩) K.hauls.length hc):=fun W g =>
  ⟨za (zf v0 g) 0,za (zf v0 g) 1,za (zf v0 g) 2⟩
 have HY:=Lib.hid hY
 have HVG:=Lib.hid vg
 have HVE:=Lib.hid hV
 have hout:outB (haul:Int) 0 ((K.hauls.length:Int)-1)=false:=by unfold outB;simp;omega
 have hw1:wrap64 ((K.hauls.length:Int)-1)=(K.hauls.length:Int)-1:=IntWalk.wrap64_in _ (by omega)
 have HOUT:=Lib.hid hout
 have HW1:=Lib.hid hw1
 clear k m hasked hwith hcan hC hR hA hp hpl v0 vg hY hV hout hw1
 unfold ktV at *
 go_enter LK.func28,Try.ntmps28
 go_wp2_with (first|(go_at_call 69;have hg0:=HVG.out;rw[HVE.out] at hg0;refine (HC.out _ hg0).mono ?_;rintro e w1 ⟨rfl,hg1⟩;rw[← HVE.out] at hg1;have hy:=HY.out w1 hg1;have HG1:=Lib.hid hg1;clear hg1 hg0)|(go_at_call 70;refine (qV _ _ _ _).mono ?_;rw[HOUT.out];rintro e w2 ⟨rfl,rfl⟩))
 clear hy HOUT HC HW1
 have hs0:Hid (∃ nb,Value.pointer (some ⟨w2.heap.size,0,none⟩)=.pointer (some ⟨nb,0,none⟩)∧(w2.alloc (.cells #[.int .i64 9] 3)).heap[nb]?=some (.cells #[.int .i64 (((10:Nat):Int)-1)] 3 (0,0))∧Grown V (w2.alloc (.cells #[.int .i64 9] 3))):=⟨_,rfl,heap_alloc_new _ _,HG1.out.trans (.alloc _ _)⟩
 have hm0:Hid (yH K xs haul 10=yH K xs haul 10):=rfl
 go_loopw [9] (fun p wr=>∃ n nb:Nat,n≤10∧p=.pointer (some ⟨nb,0,none⟩)∧Hid (wr.heap[nb]?=some (.cells #[.int .i64 ((n:Int)-1)] 3 (0,0)))∧Hid (Grown V wr)∧Hid (yH K xs haul 10=yH K xs haul n)) (fun p wr=>numAt p wr)
 case atStart =>
  obtain⟨nb,e1,e2,e3⟩:=hs0.out
  exact⟨10,nb,Nat.le_refl _,e1,e2,e3,hm0⟩
 case round =>
  obtain⟨n,nb,hn,rfl,hB,hG,hM⟩:=hrel
  clear hs0 hm0
  have y0:=za hB.out 0
  simp only[List.getElem?_toArray,List.getElem?_cons_zero] at y0
  have hnum:numAt (.pointer (some ⟨nb,0,none⟩)) wr=n:=by
   unfold numAt
   simp only[y0]
   omega
  have HNUM:=Lib.hid hnum
  clear hnum
  cases n with
  | zero =>
   have hm:yH K xs haul 10=none:=hM.out
   have HMM:=Lib.hid hm
   clear hm
   go_wp2_with fail
   refine bodyPost_ret (v:=.tuple #[.int .i64 0,.int .i64 11]) (by simp[results,Try.results28,go_sem]) rfl ⟨by rw[HMM.out];rfl,HVG.out.trans hG.out⟩
  | succ x =>
   have ex:(((x+1:Nat):Int)-1)=(x:Int):=by omega
   rw[ex] at y0
   have hB2:=hB.out
   rw[ex] at hB2
   have HB2:=Lib.hid hB2
   have hx9:x≤9:=by omega
   have h0x:(0:Int)≤(x:Int):=by omega
   have hgw:=Lib.hid (HVG.out.trans hG.out)
   obtain⟨x0,x1,x2⟩:=HY.out wr hG.out
   clear hB2 ex hB
   cases hno:noneB (covK K haul x) xs
   ·have hm:yH K xs haul 10=some x:=by
     rw[hM.out]
     unfold yH
     rw[hno]
     rfl
    have HMM:=Lib.hid hm
    have HNO:=Lib.hid hno
    clear hm hno
    go_wp2_with (first|(go_at_call 72;refine (HWI.out wr nb x hgw.out HB2.out).mono ?_;rintro e w3 ⟨g,c',rfl,hg3,hl3⟩;have HG3:=Lib.hid hg3;have HL3:=Lib.hid hl3;have z0:=(za (zf HB2.out hg3) 0);clear hg3 hl3)|(go_at_call 71;refine (HCN.out w3 x g c' hx9 (hgw.out.trans HG3.out) HL3.out).mono ?_;rw[HNO.out];rintro e w4 ⟨rfl,hg4⟩;have z1:=(za (zf (zf HB2.out HG3.out) hg4) 0);have HG4:=Lib.hid hg4;clear hg4;simp only[List.getElem?_toArray,List.getElem?_cons_zero] at z1))
    refine bodyPost_ret (v:=.tuple #[.int .i64 x,.int .i64 0]) (by simp[results,Try.results28,go_sem]) rfl ⟨by rw[HMM.out];rfl,hgw.out.trans (HG3.out.trans HG4.out)⟩
   ·have hm:Hid (yH K xs haul 10=yH K xs haul x):=by
     show _=_
     rw[hM.out]
     show (if noneB (covK K haul x) xs=true then _ else _)=_
     rw[if_pos hno]
    have HNO:=Lib.hid hno
    clear hno hM
    go_wp2_with (first|(go_at_call 72;refine (HWI.out wr nb x hgw.out HB2.out).mono ?_;rintro e w3 ⟨g,c',rfl,hg3,hl3⟩;have HG3:=Lib.hid hg3;have HL3:=Lib.hid hl3;have z0:=(za (zf HB2.out hg3) 0);clear hg3 hl3)|(go_at_call 71;refine (HCN.out w3 x g c' hx9 (hgw.out.trans HG3.out) HL3.out).mono ?_;rw[HNO.out];rintro e w4 ⟨rfl,hg4⟩;have z1:=(za (zf (zf HB2.out HG3.out) hg4) 0);have HG4:=Lib.hid hg4;clear hg4;simp only[List.getElem?_toArray,List.getElem?_cons_zero] at z1))
    refine⟨⟨x,w4.heap.size,by omega,rfl,heap_alloc_new _ _,hG.out.trans (HG3.out.trans (HG4.out.trans (.alloc _ _))),hm⟩,?_⟩
    rw[HNUM.out]
    have q0:=za (heap_alloc_new w4 (.cells #[.int .i64 ((x:Int)-1)] 3)) 0
    simp only[List.getElem?_toArray,List.getElem?_cons_zero] at q0
    unfold numAt
    simp only[q0]
    omega
end
end
end Go.Gal
namespace Go.Gal
open Go Go.Par Go.Proofs Go.RowKit Go.Shelf
section
section
variable {P:Program} {F:Fence} {n:Nat}
theorem yield_once {L:Nat} {W:World} {r:Loop} {args:Array Value} {Post:World→Prop} (hL:W.heap[L]?=some (.loop r)) (hr:r.state=.ready) (hp:r.pending=none) (hs:args.size=r.params.size) (hF:F.fn r.fn)
  (h:r.assign.wpIn (F.inRound L) n P (Exit.then (fun a₁ w₁=>w₁.heap[L]?=some (.loop r)∧r.body.wpIn (F.inRound L) n P (fun e _ W3=>e=.normal∧W3.heap[L]?=some (.loop { r with state:=.busy })∧Post (W3.putObj L (.loop r))) a₁ (w₁.putObj L (.loop { r with state:=.busy }))) (fun _ _ _=>False))
   { tmps:=(r.params.zip args).foldl (fun t (p,v)=>t.setIfInBounds p v) r.tmps,defers:=[] } W) :
  YieldAt F n P L args W fun e W'=>e=.returned (.bool true)∧Post W':=by
 refine⟨r.fn,_,r.assign,r.body,run_yield hL hs,roundIn_of_wpIn hF ?_⟩
 refine wpIn_mono h ?_
 rintro e a1 w1 hq
 cases e with
 | normal =>
  obtain⟨h1,h2⟩:=hq
  refine⟨_,run_beginRound h1 hr,wpIn_mono h2 ?_⟩
  rintro e a3 W3 ⟨rfl,h4,h5⟩
  refine⟨_,_,run_endRound none h4,rfl,?_⟩
  have e9:({ { r with state:=LoopState.busy } with state:=if (none:Option Code).isNone=true then LoopState.ready else LoopState.done,pending:=none } : Loop)=r:=by
   cases r
   simp only at hr hp
   subst hr hp
   rfl
  rw[e9]
  exact h5
 | _=>exact hq
theorem yield_parts {L:Nat} {W:World} {r rb:Loop} {args:Array Value} {Post:World→Prop} {assign body:Code} {tmps:Array Value} {ps:Array Tmp} (hL:W.heap[L]?=some (.loop r)) (hr:r.state=.ready) (hp:r.pending=none) (hF:F.fn r.fn) (e1:assign=r.assign) (e2:body=r.body) (e3:tmps=r.tmps) (e4:ps=r.params) (hrb:rb={ r with state:=.busy }) (hs:args.size=ps.size)
  (h:assign.wpIn (F.inRound L) n P (Exit.then (fun a₁ w₁=>w₁.heap[L]?=some (.loop r)∧body.wpIn (F.inRound L) n P (fun e _ W3=>e=.normal∧W3.heap[L]?=some (.loop rb)∧Post (W3.putObj L (.loop r))) a₁ (w₁.putObj L (.loop rb))) (fun _ _ _=>False))
   { tmps:=(ps.zip args).foldl (fun t (p,v)=>t.setIfInBounds p v) tmps,defers:=[] } W) :
  YieldAt F n P L args W fun e W'=>e=.returned (.bool true)∧Post W':=by
 subst e1 e2 e3 e4 hrb
 exact yield_once hL hr hp hs hF h
theorem wpIn_range1 {g:Operand} {ps:Array Tmp} {assign body:Code} {Q:Exit→Act→World→Prop} {a:Act} {w:World} (hro:F.round=none) (h1 : 1≤n) {gf:Nat} {lb:Array Value} (hg:a.eval g=.func (.func gf) #[] lb) (hFg:F.fn gf) (eg:∀ args w,(callFunc gf args).run P w=.ok (.enter gf args) w) (Fin:World→Prop)
  (hit:∀ fn,F.fn fn→∀ W1,W1=(w.alloc (.deferred (some []))).alloc (.loop { state:=.ready,pending:=none,fn,tmps:=a.tmps,params:=ps,assign,body,defers:=w.heap.size }) →
   CallsIn F (n-1) P gf (#[.func (.yield (w.heap.size+1)) #[] #[]]++lb) W1 fun e W2=>(∃ v,e=.returned v)∧W2.heap[w.heap.size+1]?=some (.loop { state:=.ready,pending:=none,fn,tmps:=a.tmps,params:=ps,assign,body,defers:=w.heap.size })∧Fin W2)
  (hdone:∀ W2 r,W2.heap[w.heap.size+1]?=some (.loop r)→Fin W2→∀ r',Q .normal { a with defers:={ target:=.collected w.heap.size,args:=#[] }::a.defers } (W2.putObj (w.heap.size+1) (.loop r'))) :
  (Code.rangeFunc g ps assign body).wpIn F n P Q a w:=by
 refine wpIn_rangeFunc ?_
 intro fn hfn
 rw[hro]
 obtain⟨W1,hW1⟩:∃ W1,W1=(w.alloc (.deferred (some []))).alloc (.loop { state:=.ready,pending:=none,fn,tmps:=a.tmps,params:=ps,assign,body,defers:=w.heap.size }):=⟨_,rfl⟩
 have g1:(Instr.enterLoop fn a.tmps ps assign body none).run P w=.ok (w.heap.size+1,[{ target:=.collected w.heap.size,args:=#[] }]) W1:=by
  rw[hW1]
  exact run_enterLoop_outer _ _ _ _ _
 have g2:(resolve a.eval (rangeCall g (w.heap.size+1)) 0).run P W1=.ok { target:=.fn (.func gf) lb,args:=#[.func (.yield (w.heap.size+1)) #[] #[]] } W1:=by
  simp only[resolve,hg]
  simp[go_sem]
 have g3:∀ f',Target.leads P W1 (.fn (.func gf) lb) #[.func (.yield (w.heap.size+1)) #[] #[]]=some f'→F.fn f':=by
  intro f' hf'
  simp[Target.leads] at hf'
  subst hf'
  exact hFg
 have g4:(invoke (.fn (.func gf) lb) #[.func (.yield (w.heap.size+1)) #[] #[]]).run P W1=.ok (.enter gf (#[.func (.yield (w.heap.size+1)) #[] #[]]++lb)) W1:=eg _ _
 have g5:=(hit fn hfn W1 hW1).mono (R':=rangePost F n P (w.heap.size+1) Q { a with defers:=[{ target:=.collected w.heap.size,args:=#[] }]++a.defers }) (by
  rintro e W2 ⟨⟨v,rfl⟩,hl,hf⟩
  have he:=run_endLoop (P:=P) hl (by simp)
  exact⟨none,_,he,hdone W2 _ hl hf _⟩)
 exact⟨w.heap.size+1,_,W1,_,W1,gf,_,W1,g1,g2,g3,g4,fun _=>h1,g5⟩
end
end
end Go.Gal
namespace Go.Gal
section
def bump (nd:Int):List Int→Option (List Int)
 | []=>none
 | x::l=>match bump nd l with
  | some l'=>some (x::l')
  | none=>if x=nd-1 then none else some ((x+1)::List.replicate l.length 0)
def digits (nd:Int) (l:List Int):Prop:=∀ x∈l,0≤x∧x≤nd-1
def val (nd:Nat):List Int→Nat
 | []=>0
 | x::l=>x.toNat*nd ^ l.length+val nd l
theorem Yj {nd:Int} : ∀ {l l':List Int},bump nd l=some l'→l'.length=l.length
 | [],l',h=>by cases h
 | x::l,l',h=>by
  unfold bump at h
  cases hb:bump nd l with
  | some m =>
   rw[hb] at h
   cases h
   simp[Yj hb]
  | none =>
   rw[hb] at h
   simp only at h
   split at h
   ·cases h
   ·cases h;simp
theorem zbt {nd:Int} : ∀ {l l':List Int},digits nd l→bump nd l=some l'→digits nd l'
 | [],l',_,h=>by cases h
 | x::l,l',hd,h=>by
  unfold bump at h
  have hx:=hd x (by simp)
  cases hb:bump nd l with
  | some m =>
   rw[hb] at h
   cases h
   have hm:=zbt (fun y hy=>hd y (by simp[hy])) hb
   intro y hy
   rcases List.mem_cons.1 hy with rfl|hy
   ·exact hx
   ·exact hm y hy
  | none =>
   rw[hb] at h
   simp only at h
   split at h
   ·cases h
   ·rename_i hne
    cases h
    intro y hy
    rcases List.mem_cons.1 hy with rfl|hy
    ·omega
    ·have:=List.eq_of_mem_replicate hy
     subst this
     omega
theorem Jb {nd:Int} : ∀ {l:List Int},(∀ y∈l,y=nd-1)→bump nd l=none
 | [],_=>rfl
 | x::l,h=>by
  unfold bump
  rw[Jb (fun y hy=>h y (by simp[hy]))]
  simp only
  rw[if_pos (h x (by simp))]
theorem zcD {nd x:Int} {l2:List Int} (h2:∀ y∈l2,y=nd-1) (hx:x≠nd-1):∀ l1:List Int,bump nd (l1++x::l2)=some (l1++(x+1)::List.replicate l2.length 0)
 | []=>by
  show bump nd (x::l2)=_
  unfold bump
  rw[Jb h2]
  simp only
  rw[if_neg hx]
  rfl
 | y::l1=>by
  show bump nd (y::(l1++x::l2))=_
  unfold bump
  rw[zcD h2 hx l1]
  rfl
theorem zcs {nd:Nat} : ∀ {l:List Int},digits nd l→val nd l<nd ^ l.length
 | [],_=>by simp[val]
 | x::l,h=>by
  have hx:=h x (by simp)
  have ih:=zcs (nd:=nd) (fun y hy=>h y (by simp[hy]):digits nd l)
  have h1:x.toNat+1≤nd:=by omega
  have h2:(x.toNat+1)*nd ^ l.length≤nd*nd ^ l.length:=Nat.mul_le_mul_right _ h1
  unfold val
  rw[List.length_cons,Nat.pow_succ,Nat.mul_comm (nd ^ l.length) nd]
  rw[Nat.succ_mul] at h2
  omega
theorem zag (nd:Nat):∀ n:Nat,val nd (List.replicate n 0)=0
 | 0=>rfl
 | n+1=>by
  rw[List.replicate_succ]
  unfold val
  rw[zag nd n]
  simp
theorem zcp {nd:Int} : ∀ {l:List Int},bump nd l=none→∀ y∈l,y=nd-1
 | [],_,y,hy=>by cases hy
 | x::l,h,y,hy=>by
  unfold bump at h
  cases hb:bump nd l with
  | some m=>rw[hb] at h;cases h
  | none =>
   rw[hb] at h
   simp only at h
   split at h
   ·rename_i hx
    rcases List.mem_cons.1 hy with rfl|hy
    ·exact hx
    ·exact zcp hb y hy
   ·cases h
theorem zcN {nd:Nat} (h1 : 1≤nd):∀ {l:List Int},(∀ y∈l,y=(nd:Int)-1)→val nd l+1=nd ^ l.length
 | [],_=>by simp[val]
 | x::l,h=>by
  have hx:=h x (by simp)
  have ih:=zcN h1 (fun y hy=>h y (by simp[hy]):∀ y∈l,y=(nd:Int)-1)
  have e:x.toNat=nd-1:=by omega
  unfold val
  rw[List.length_cons,Nat.pow_succ,e,Nat.mul_comm (nd ^ l.length) nd]
  have h2:(nd-1+1)*nd ^ l.length=nd*nd ^ l.length:=by rw[Nat.sub_add_cancel h1]
  rw[Nat.succ_mul] at h2
  omega
theorem zbs {nd:Nat} (h1 : 1≤nd):∀ {l l':List Int},digits nd l→bump nd l=some l'→val nd l'=val nd l+1
 | [],l',_,h=>by cases h
 | x::l,l',hd,h=>by
  have hx:=hd x (by simp)
  unfold bump at h
  cases hb:bump (nd:Int) l with
  | some m =>
   rw[hb] at h
   cases h
   have ih:=zbs h1 (fun y hy=>hd y (by simp[hy])) hb
   unfold val
   rw[ih,Yj hb]
   omega
  | none =>
   rw[hb] at h
   simp only at h
   split at h
   ·cases h
   ·rename_i hne
    cases h
    have hf:=zcN h1 (zcp hb)
    unfold val
    rw[zag,List.length_replicate]
    have e:(x+1).toNat=x.toNat+1:=by omega
    rw[e,Nat.succ_mul]
    omega
def visit (nd:Int):Nat→List Int→List (List Int)
 | 0,_=>[]
 | f+1,xs=>(if qC nd none xs=0 then [xs] else [])++match bump nd xs with
  | none=>[]
  | some ys=>visit nd f ys
def qR (nd nh:Nat):List (List Int):=visit nd (nd ^ nh) (List.replicate nh 0)
def restM (nd:Int) (f:Nat) (xs:List Int):List (List Int):=match bump nd xs with
 | none=>[]
 | some ys=>visit nd f ys
theorem zas {nd:Int} {f:Nat} {xs:List Int} (h:bump nd xs=none):restM nd f xs=[]:=by unfold restM;rw[h]
theorem zar {nd:Int} {f:Nat} {xs ys:List Int} (h:bump nd xs=some ys):restM nd f xs=visit nd f ys:=by unfold restM;rw[h]
theorem Jk {nd:Nat} {nh:Nat} {xs:List Int} (hd:digits nd xs) (hl:xs.length=nh):visit nd (nd ^ nh-val nd xs) xs=(if qC nd none xs=0 then [xs] else [])++restM nd (nd ^ nh-val nd xs-1) xs:=by
 have h:=zcs hd
 rw[hl] at h
 have e:nd ^ nh-val nd xs=(nd ^ nh-val nd xs-1)+1:=by omega
 rw[e]
 rfl
theorem zcR {xs:List Int} {nh p:Nat} (hl:xs.length=nh) (hp:p<nh):(xs.take (p+1)++List.replicate (nh-(p+1)) 0).set p 0=xs.take p++List.replicate (nh-p) 0:=by
 apply List.ext_getElem?
 intro j
 rcases Nat.lt_trichotomy j p with h|h|h
 ·rw[List.getElem?_set_ne (by omega),List.getElem?_append_left (by simp;omega),List.getElem?_append_left (by simp;omega),List.getElem?_take,List.getElem?_take,if_pos (by omega),if_pos h]
 ·subst h
  rw[List.getElem?_set_self (by simp;omega),List.getElem?_append_right (by simp;omega),List.getElem?_replicate,if_pos (by simp;omega)]
 ·rw[List.getElem?_set_ne (by omega)]
  by_cases hj:j<nh
  ·rw[List.getElem?_append_right (by simp;omega),List.getElem?_append_right (by simp;omega),List.getElem?_replicate,List.getElem?_replicate,if_pos (by simp;omega),if_pos (by simp;omega)]
  ·rw[List.getElem?_eq_none (by simp;omega),List.getElem?_eq_none (by simp;omega)]
theorem zcS {xs:List Int} {nh p:Nat} (hl:xs.length=nh) (hp:p<nh) (v:Int):(xs.take (p+1)++List.replicate (nh-(p+1)) 0).set p v=xs.take p++v::List.replicate (nh-(p+1)) 0:=by
 apply List.ext_getElem?
 intro j
 rcases Nat.lt_trichotomy j p with h|h|h
 ·rw[List.getElem?_set_ne (by omega),List.getElem?_append_left (by simp;omega),List.getElem?_append_left (by simp;omega),List.getElem?_take,List.getElem?_take,if_pos (by omega),if_pos h]
 ·subst h
  rw[List.getElem?_set_self (by simp;omega),List.getElem?_append_right (by simp;omega)]
  have e:j-(xs.take j).length=0:=by simp;omega
  rw[e]
  rfl
 ·rw[List.getElem?_set_ne (by omega)]
  by_cases hj:j<nh
  ·rw[List.getElem?_append_right (by simp;omega),List.getElem?_append_right (by simp;omega),List.getElem?_replicate,if_pos (by simp;omega)]
   have e:j-(xs.take p).length=(j-p-1)+1:=by simp;omega
   rw[e,List.getElem?_cons_succ,List.getElem?_replicate,if_pos (by omega)]
  ·rw[List.getElem?_eq_none (by simp;omega),List.getElem?_eq_none (by simp;omega)]
end
end Go.Gal
