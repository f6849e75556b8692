/- Walks: Served (printed by gen_served.py). -/
import Derived.Scope
import Derived.Test.YtlgiofglcgbjgaaM40
namespace Go.Gal
open Go Go.Par Go.Proofs Go.RowKit Go.Shelf
attribute [local go_sem] Oper.semAt_some
def hitB (K:Kt) (haul d:Nat) (xs:List Int):Bool:=decide (xs.getD haul 0=(d:Int))&&!noneB K xs
def servedB (K:Kt) (haul d:Nat):Bool:=(zw K.dishes.length K.hauls.length).any (hitB K haul d)
def zW (K:Kt) (haul n:Nat):List Int:=((List.range n).filter (servedB K haul)).map fun (d:Nat)=>(d:Int)
theorem servedTo_yes {K:Kt} {haul n:Nat} (h:servedB K haul n=true):zW K haul (n+1)=zW K haul n++[(n:Int)]:=by
 unfold zW
 rw[List.range_succ,List.filter_append]
 simp[h]
theorem servedTo_no {K:Kt} {haul n:Nat} (h:servedB K haul n=false):zW K haul (n+1)=zW K haul n:=by
 unfold zW
 rw[List.range_succ,List.filter_append]
 simp[h]
theorem servedTo_len {K:Kt} {haul:Nat} (n:Nat):(zW K haul n).length≤n:=by
 unfold zW
 rw[List.length_map]
 exact Nat.le_trans (List.length_filter_le ..) (by simp)
def marksOf (ds:List Nat):List Deferred:=ds.map fun r=>{ target:=.collected r,args:=#[] }
structure SI (w0 W:World) (kc:Array Value) (haul kB hB lB:Nat) (ds:List Nat) (xs:List Int):Prop where
 gr:Grown w0 W
 bk:W.heap[kB]?=some (.cells kc 29 (0,0))
 bh:W.heap[hB]?=some (.cells #[.int .i64 haul] 3 (0,0))
 bl:∃ A c,W.heap[lB]?=some (.cells #[.slice A xs.length c] 22 (0,0))∧L.OwnInts W (lB+1) A c xs
 nd:ds.Nodup
 marks:∀ r∈ds,lB<r∧W.heap[r]?=some (.deferred (some []))
 num:w0.heap.size≤kB∧kB<hB∧hB<lB
theorem SI.to {w0 W W':World} {kc:Array Value} {haul kB hB lB:Nat} {ds:List Nat} {xs:List Int} (h:SI w0 W kc haul kB hB lB ds xs) (g:Grown W W'):SI w0 W' kc haul kB hB lB ds xs:=by
 obtain⟨A,c,l1,l2⟩:=h.bl
 exact⟨h.gr.trans g,zh h.bk g,zh h.bh g,⟨A,c,zh l1 g,own_grown l2 g⟩,h.nd,fun r hr=>⟨(h.marks r hr).1,zh (h.marks r hr).2 g⟩,h.num⟩
theorem SI.putLoop {w0 W:World} {kc:Array Value} {haul kB hB lB L:Nat} {ds:List Nat} {xs:List Int} {r r':Loop} (h:SI w0 W kc haul kB hB lB ds xs) (hL:W.heap[L]?=some (.loop r)) (hl:w0.heap.size≤L):SI w0 (W.putObj L (.loop r')) kc haul kB hB lB ds xs:=by
 obtain⟨A,c,l1,l2⟩:=h.bl
 have key:∀ {b:Nat} {o:Obj},W.heap[b]?=some o→(∀ r,o≠.loop r)→(W.putObj L (.loop r')).heap[b]?=some o:=fun {b o} hb ho=>by
  rw[World.putObj_heap_other ?_]
  ·exact hb
  ·rintro rfl
   rw[hL] at hb
   cases hb
   exact ho _ rfl
 refine⟨⟨by simp;exact h.gr.size,fun b hb=>?_,h.gr.os⟩,key h.bk (by simp),key h.bh (by simp),⟨A,c,key l1 (by simp),own_keep l2 fun k hk _=>?_⟩,h.nd,fun r hr=>⟨(h.marks r hr).1,key (h.marks r hr).2 (by simp)⟩,h.num⟩
 ·rw[World.putObj_heap_other (by omega)]
  exact h.gr.same b hb
 ·obtain⟨cs,hc⟩:=own_tag l2 hk
  rw[hc]
  exact key hc (by simp)
theorem SI.mark {w0 W:World} {kc:Array Value} {haul kB hB lB b:Nat} {ds:List Nat} {xs:List Int} (h:SI w0 W kc haul kB hB lB ds xs) (hb:W.heap[b]?=some (.deferred (some []))) (hl:lB<b) (hn:b ∉ ds):SI w0 W kc haul kB hB lB (b::ds) xs:=
 ⟨h.gr,h.bk,h.bh,h.bl,List.nodup_cons.2 ⟨hn,h.nd⟩,fun r hr=>by
  rcases List.mem_cons.1 hr with rfl|hr
  ·exact⟨hl,hb⟩
  ·exact h.marks r hr,h.num⟩
theorem SI.app {w0 W6 W7:World} {kc:Array Value} {haul kB hB lB:Nat} {ds:List Nat} {xs:List Int} {A A2:Option Addr} {c c2:Nat} {x:Int} (h:SI w0 W6 kc haul kB hB lB ds xs) (hl:W6.heap[lB]?=some (.cells #[.slice A xs.length c] 22 (0,0))) (ho:L.OwnInts W6 (lB+1) A c xs) (hR:L.OwnInts W7 (lB+1) A2 c2 (xs++[x])) (hg:W6.grownBy W7 (Value.slice A xs.length c).ownBlock) :
  (W7.cell? ⟨lB,0,none⟩=some (.slice A xs.length c)∧W7.frozen? ⟨lB,0,none⟩=false)∧SI w0 (W7.setCell ⟨lB,0,none⟩ (.slice A2 (xs.length+1) c2)) kc haul kB hB lB ds (xs++[x])∧∀ (b:Nat) (o:Obj),W6.heap[b]?=some o→b≠lB→(∀ cs t m,o≠.cells cs t m)→(W7.setCell ⟨lB,0,none⟩ (.slice A2 (xs.length+1) c2)).heap[b]?=some o:=by
 have hn:=h.num
 have hrow:∀ k,(Value.slice A xs.length c).ownBlock=some k→lB<k∧∃ cs,W6.heap[k]?=some (.cells cs 3 (0,0)):=fun k hk=>⟨(zT ho hk).1,own_tag ho hk⟩
 have keep:∀ b,b<W6.heap.size→(∀ k,(Value.slice A xs.length c).ownBlock=some k→b≠k)→W7.heap[b]?=W6.heap[b]?:=fun b hb hne=>hg.block b hb fun e=>hne b e.symm rfl
 have low:∀ b,b<W6.heap.size→b≤lB→W7.heap[b]?=W6.heap[b]?:=fun b hb hle=>keep b hb fun k hk=>by have:=(hrow k hk).1;omega
 have other:∀ (b:Nat) (o:Obj),W6.heap[b]?=some o→(∀ cs t m,o≠.cells cs t m)→W7.heap[b]?=some o:=fun b o hb ho'=>(keep b (zg hb) fun k hk=>by
  rintro rfl
  obtain⟨_,cs,q⟩:=hrow _ hk
  rw[q] at hb
  cases hb
  exact ho' _ _ _ rfl).trans hb
 have hlW:W7.heap[lB]?=some (.cells #[.slice A xs.length c] 22 (0,0)):=(low _ (zg hl) (Nat.le_refl _)).trans hl
 refine⟨⟨za hlW 0,zm hlW 0⟩,⟨⟨by rw[zB];exact Nat.le_trans h.gr.size hg.size,fun b hb=>?_,hg.os.trans h.gr.os⟩,?_,?_,⟨A2,c2,?_,?_⟩,h.nd,fun r hr=>⟨(h.marks r hr).1,?_⟩,h.num⟩,fun b o hb hne ho'=>(Below.heap_setCell _ _ _ _ hne).trans (other b o hb ho')⟩
 ·rw[Below.heap_setCell _ _ _ _ (by simp only;omega),low b (by have:=h.gr.size;omega) (by omega)]
  exact h.gr.same b hb
 ·rw[Below.heap_setCell _ _ _ _ (by simp only;omega)]
  exact (low _ (zg h.bk) (by omega)).trans h.bk
 ·rw[Below.heap_setCell _ _ _ _ (by simp only;omega)]
  exact (low _ (zg h.bh) (by omega)).trans h.bh
 ·rw[qc hlW,List.length_append]
  rfl
 ·exact own_keep hR fun k hk _=>Below.heap_setCell _ _ _ _ (by have:=(zT hR hk).1;simp only;omega)
 ·rw[Below.heap_setCell _ _ _ _ (by have:=(h.marks r hr).1;simp only;omega)]
  exact other _ _ (h.marks r hr).2 (by simp)
theorem back_loop {W4 Wr Wb W5:World} {L:Nat} {r:Loop} (hL4:W4.heap[L]?=some (.loop r)) (g:Grown W4 Wr) (wO:∀ b,b≠L→Wb.heap[b]?=Wr.heap[b]?) (wS:Wb.heap.size=Wr.heap.size) (wos:Wb.os=Wr.os) (g5:Grown Wb W5) :
  Grown W4 (W5.putObj L (.loop r))∧Wr.heap.size≤(W5.putObj L (.loop r)).heap.size∧∀ b,b<Wr.heap.size→b≠L→(W5.putObj L (.loop r)).heap[b]?=Wr.heap[b]?:=by
 have hs:=g.size
 have hs5:=g5.size
 have hLt:=zg hL4
 have key:∀ b,b<Wr.heap.size→b≠L→(W5.putObj L (.loop r)).heap[b]?=Wr.heap[b]?:=fun b hb hne=>by
  rw[World.putObj_heap_other hne,g5.same b (by omega),wO b hne]
 have psz:(W5.putObj L (.loop r)).heap.size=W5.heap.size:=by simp
 refine⟨⟨by omega,fun b hb=>?_,g5.os.trans (wos.trans g.os)⟩,by omega,key⟩
 by_cases e:b=L
 ·subst e
  rw[World.putObj_heap_same (by omega),hL4]
 ·exact (key b (by omega) e).trans (g.same b hb)
def noDefer (ops:Array Oper):Bool:=ops.all fun o=>match o.op with|.defer _=>false|_=>true
theorem noDefer_at {ops:Array Oper} (h:noDefer ops=true):∀ (i:Nat) o,ops[i]?=some o→∀ c,o.op≠.defer c:=fun i o ho c hc=>by
 unfold noDefer at h
 rw[Array.all_eq_true] at h
 obtain⟨hi,e⟩:=Array.getElem?_eq_some_iff.1 ho
 have:=h i hi
 rw[e,hc] at this
 cases this
theorem noDefer_mem {ops:Array Oper} (h:noDefer ops=true):∀ o∈ops.toList,∀ c,o.op≠.defer c:=fun o ho=>by
 obtain⟨i,hi⟩:=List.getElem?_of_mem ho
 exact noDefer_at h i o (by simpa using hi)
def codeIn:Code→Code|.scope c=>c|c=>c
def loopIn:Code→Code|.seq (.seq _ (.block _ (.loop c))) _=>c|_=>.skip
def behindC:Nat→Code→Code
 | 0,c=>c
 | n+1,.seq _ b=>behindC n (codeIn b)
 | _,c=>c
noncomputable def loop55:Code:=loopIn (behindC 5 (Try.f55.body.getD .skip))
section
variable {fs:Array Func} [LikeS fs]
set_option maxRecDepth 100000 in
set_option maxHeartbeats 4000000 in
theorem served_rounds (K:Kt) (gA dA hA:Option Addr) (gc dc hc:Nat) (w0:World) (k:KtAt w0 K gA dA hA) (hC:zP K=0) (haul kB hB lB:Nat) (hh:haul<K.hauls.length) {Q:Exit→Act→World→Prop}
  (hfin:∀ (ds:List Nat) (W:World) (u0 u1 u4 u5 u6 u8 u9 u10 u11 u12 u13 u14 u15 u16 u17 u18 u19 u20 u21 u22 u25 u26 u27 u28 u29 u30 u31 u32 u33 u34 u35 u36 u37 u38 u39 u40 u41 u42 u43 u44 u45 u46:Value),SI w0 W #[.slice gA K.goods.length gc,.slice dA K.dishes.length dc,.slice hA K.hauls.length hc] haul kB hB lB ds (zW K haul K.dishes.length)→Q (.exit 0) ⟨#[u0,u1,.pointer (some ⟨kB,0,none⟩),.pointer (some ⟨hB,0,none⟩),u4,u5,u6,.pointer (some ⟨lB,0,none⟩),u8,u9,u10,u11,u12,u13,u14,u15,u16,u17,u18,u19,u20,u21,u22,.int .i64 K.dishes.length,.int .i64 K.dishes.length,u25,u26,u27,u28,u29,u30,u31,u32,u33,u34,u35,u36,u37,u38,u39,u40,u41,u42,u43,u44,u45,u46],marksOf ds⟩ W) :
  ∀ (m d:Nat) (ds:List Nat) (W:World) (u0 u1 u4 u5 u6 u8 u9 u10 u11 u12 u13 u14 u15 u16 u17 u18 u19 u20 u21 u22 u25 u26 u27 u28 u29 u30 u31 u32 u33 u34 u35 u36 u37 u38 u39 u40 u41 u42 u43 u44 u45 u46:Value),d+m=K.dishes.length→SI w0 W #[.slice gA K.goods.length gc,.slice dA K.dishes.length dc,.slice hA K.hauls.length hc] haul kB hB lB ds (zW K haul d) →
   Code.roundsIn Fence.wide 10 (Pf fs) loop55 Q (m+1) ⟨#[u0,u1,.pointer (some ⟨kB,0,none⟩),.pointer (some ⟨hB,0,none⟩),u4,u5,u6,.pointer (some ⟨lB,0,none⟩),u8,u9,u10,u11,u12,u13,u14,u15,u16,u17,u18,u19,u20,u21,u22,.int .i64 K.dishes.length,.int .i64 d,u25,u26,u27,u28,u29,u30,u31,u32,u33,u34,u35,u36,u37,u38,u39,u40,u41,u42,u43,u44,u45,u46],marksOf ds⟩ W:=by
 have f90:Fence.wide.fn 90:=trivial
 have f71:Fence.wide.fn 71:=trivial
 have f112:Fence.wide.fn 112:=trivial
 have HK:=Lib.hid k
 have HFIN:=Lib.hid hfin
 have hmn:=fun W=>callsIn_wide (n:=9).2 (menus_any (fs:=fs) K gA dA hA gc dc hc W)
 unfold ktV at hmn
 have HMN:=Lib.hid hmn
 obtain⟨c1,c2,c3⟩:=qe hC
 obtain⟨d1,d2,d3⟩:=dishesE_zero c2
 obtain⟨h1,h2,h3⟩:=haulsE_zero c3
 clear k hfin hmn c1 c2 c3 d3 h3
 intro m
 induction m with
 | zero =>
  intro d ds W u0 u1 u4 u5 u6 u8 u9 u10 u11 u12 u13 u14 u15 u16 u17 u18 u19 u20 u21 u22 u25 u26 u27 u28 u29 u30 u31 u32 u33 u34 u35 u36 u37 u38 u39 u40 u41 u42 u43 u44 u45 u46 hd hS
  obtain rfl:d=K.dishes.length:=by omega
  have HS:=Lib.hid hS
  have i1:¬ (K.dishes.length:Int)<K.dishes.length:=by omega
  clear hS
  rw[roundsIn_succ]
  conv=>arg 4;whnf
  gi_wp2_with fail
  exact HFIN.out _ _ _ _ _ _ _ _ _ _ _ _ _ _ _ _ _ _ _ _ _ _ _ _ _ _ _ _ _ _ _ _ _ _ _ _ _ _ _ _ _ _ _ _ HS.out
 | succ m ih =>
  intro d ds W u0 u1 u4 u5 u6 u8 u9 u10 u11 u12 u13 u14 u15 u16 u17 u18 u19 u20 u21 u22 u25 u26 u27 u28 u29 u30 u31 u32 u33 u34 u35 u36 u37 u38 u39 u40 u41 u42 u43 u44 u45 u46 hd hS
  have i1:(d:Int)<K.dishes.length:=by omega
  have IH:=Lib.hid ih
  have HS:=Lib.hid hS
  have y0:=za hS.bk 0
  have y1:=za hS.bk 1
  have y2:=za hS.bk 2
  simp only[List.getElem?_toArray,List.getElem?_cons_succ,List.getElem?_cons_zero] at y0 y1 y2
  have hkl:=zg hS.bk
  clear hS ih
  rw[roundsIn_succ]
  conv=>arg 4;whnf
  gi_wp2_with (gi_at_call 90;refine (HMN.out _).mono ?_;rintro e w2 ⟨rfl,rfl⟩)
  have HG3:=Lib.hid ((Grown.alloc W (.cells #[.int .i64 d] 3)).trans (Grown.alloc _ (.cells #[.slice gA K.goods.length gc,.slice dA K.dishes.length dc,.slice hA K.hauls.length hc] 29)))
  have HB8:=Lib.hid (zr (heap_alloc_new W (.cells #[.int .i64 d] 3)) (.cells #[.slice gA K.goods.length gc,.slice dA K.dishes.length dc,.slice hA K.hauls.length hc] 29))
  have HKB:Hid (((W.alloc (.cells #[.int .i64 d] 3)).alloc (.cells #[.slice gA K.goods.length gc,.slice dA K.dishes.length dc,.slice hA K.hauls.length hc] 29)).heap[W.heap.size+1]?=some (.cells #[.slice gA K.goods.length gc,.slice dA K.dishes.length dc,.slice hA K.hauls.length hc] 29 (0,0))):=by
   have:=heap_alloc_new (W.alloc (.cells #[.int .i64 d] 3)) (.cells #[.slice gA K.goods.length gc,.slice dA K.dishes.length dc,.slice hA K.hauls.length hc] 29)
   rw[zS] at this
   exact this
  have HS3:Hid (((W.alloc (.cells #[.int .i64 d] 3)).alloc (.cells #[.slice gA K.goods.length gc,.slice dA K.dishes.length dc,.slice hA K.hauls.length hc] 29)).heap.size=W.heap.size+2):=by
   show _=_
   rw[zS,zS]
  generalize (W.alloc (.cells #[.int .i64 d] 3)).alloc (.cells #[.slice gA K.goods.length gc,.slice dA K.dishes.length dc,.slice hA K.hauls.length hc] 29)=W3 at HG3 HB8 HKB HS3 ⊢
  clear y0 y1 y2 hkl
  refine wpIn_range2 (P:=Pf fs) (F:=Fence.wide) (n:=10) (k:=1) rfl (by omega) (gf:=112) (lb:=#[.pointer (some ⟨W.heap.size+1,0,none⟩)]) rfl trivial (fun args w=>LK.call112 args w)
   (fun W2=>servedB K haul d=false∧SI w0 W2 #[.slice gA K.goods.length gc,.slice dA K.dishes.length dc,.slice hA K.hauls.length hc] haul kB hB lB ds (zW K haul d)∧W2.heap[W3.heap.size]?=some (.deferred (some [])))
   (fun W2=>servedB K haul d=true∧SI w0 W2 #[.slice gA K.goods.length gc,.slice dA K.dishes.length dc,.slice hA K.hauls.length hc] haul kB hB lB ds (zW K haul d++[(d:Int)])∧W2.heap[W3.heap.size]?=some (.deferred (some []))) ?hit ?hdone ?hleft
  case hdone =>
   rintro W2 r hr2 ⟨hsv,hsi,hkd⟩ r'
   have hl1:lB<W3.heap.size:=by
    obtain⟨_,_,q,_⟩:=HS.out.bl
    have:=zg q
    have:=HS3.out
    omega
   have hl2:W3.heap.size ∉ ds:=fun q=>by
    have:=zg (HS.out.marks _ q).2
    have:=HS3.out
    omega
   have hl3:w0.heap.size≤W3.heap.size+1:=by have:=HS.out.num;omega
   have HSI:=Lib.hid ((hsi.mark hkd hl1 hl2).putLoop (r':=r') hr2 hl3)
   generalize W2.putObj (W3.heap.size+1) (.loop r')=W5 at HSI ⊢
   have hw:IntKind.i64.wrap ((d:Int)+1)=((d+1:Nat):Int):=wrap_of (by omega) (by omega) (by omega)
   rw[← servedTo_no hsv] at HSI
   clear hsi hkd hr2 hsv hl1 hl2 hl3
   gi_wp2_with fail
   first|exact IH.out (d+1) (W3.heap.size::ds) W5 _ _ _ _ _ _ _ _ _ _ _ _ _ _ _ _ _ _ _ _ _ _ _ _ _ _ _ _ _ _ _ _ _ _ _ _ _ _ _ _ _ _ (by omega) HSI.out|(rw[show (d:Int)+1=((d+1:Nat):Int) by omega];exact IH.out (d+1) (W3.heap.size::ds) W5 _ _ _ _ _ _ _ _ _ _ _ _ _ _ _ _ _ _ _ _ _ _ _ _ _ _ _ _ _ _ _ _ _ _ _ _ _ _ _ _ _ _ (by omega) HSI.out)
  case hleft =>
   rintro W2 r hr2 ⟨hsv,hsi,hkd⟩ r'
   have hl1:lB<W3.heap.size:=by
    obtain⟨_,_,q,_⟩:=HS.out.bl
    have:=zg q
    have:=HS3.out
    omega
   have hl2:W3.heap.size ∉ ds:=fun q=>by
    have:=zg (HS.out.marks _ q).2
    have:=HS3.out
    omega
   have hl3:w0.heap.size≤W3.heap.size+1:=by have:=HS.out.num;omega
   have HSI:=Lib.hid ((hsi.mark hkd hl1 hl2).putLoop (r':=r') hr2 hl3)
   generalize W2.putObj (W3.heap.size+1) (.loop r')=W5 at HSI ⊢
   have hw:IntKind.i64.wrap ((d:Int)+1)=((d+1:Nat):Int):=wrap_of (by omega) (by omega) (by omega)
   rw[← servedTo_yes hsv] at HSI
   clear hsi hkd hr2 hsv hl1 hl2 hl3
   gi_wp2_with fail
   first|exact IH.out (d+1) (W3.heap.size::ds) W5 _ _ _ _ _ _ _ _ _ _ _ _ _ _ _ _ _ _ _ _ _ _ _ _ _ _ _ _ _ _ _ _ _ _ _ _ _ _ _ _ _ _ (by omega) HSI.out|(rw[show (d:Int)+1=((d+1:Nat):Int) by omega];exact IH.out (d+1) (W3.heap.size::ds) W5 _ _ _ _ _ _ _ _ _ _ _ _ _ _ _ _ _ _ _ _ _ _ _ _ _ _ _ _ _ _ _ _ _ _ _ _ _ _ _ _ _ _ (by omega) HSI.out)
  case hit =>
   intro fn hfn W4 hW4
   generalize hr:({ state:=LoopState.ready,pending:=none,fn:=fn,tmps:=_,params:=_,assign:=_,body:=_,defers:=_ } : Loop)=r at hW4 ⊢
   have hs1:=zS W3 (.deferred (some []))
   have hs2:=zS (W3.alloc (.deferred (some []))) (.loop r)
   have hs4:W3.heap.size+1+1=W4.heap.size:=by rw[hW4];omega
   have hold:Grown W3 W4:=by rw[hW4];exact (Grown.alloc _ _).trans (Grown.alloc _ _)
   have hKd:W4.heap[W3.heap.size]?=some (.deferred (some [])):=by rw[hW4,zC (by omega),qj rfl]
   have hL4:W4.heap[W3.heap.size+1]?=some (.loop r):=by rw[hW4,qj hs1]
   have hSI4:=HS.out.to (HG3.out.trans hold)
   have hB84:=zh HB8.out hold
   have hKB4:=zh HKB.out hold
   have hlB:lB<W3.heap.size:=by
    obtain⟨_,_,q,_⟩:=HS.out.bl
    have:=zg q
    have:=HS3.out
    omega
   refine (menus_gen (fs:=fs) 9 (W3.heap.size+1) (W.heap.size+1) K.dishes.length K.hauls.length gA dA hA K.goods.length gc dc hc (by omega) (fun pre W'=>Grown W4 W'∧∀ ys∈pre,hitB K haul d ys=false)
    (fun W'=>W'.heap[W3.heap.size+1]?=some (.loop { r with state:=LoopState.done,pending:=some (.exit 1) })∧servedB K haul d=true∧SI w0 W' #[.slice gA K.goods.length gc,.slice dA K.dishes.length dc,.slice hA K.hauls.length hc] haul kB hB lB ds (zW K haul d++[(d:Int)])∧W'.heap[W3.heap.size]?=some (.deferred (some []))) W4 hKB4 d1 (by omega) (by omega) h1 (fun pre W5 W6 hJ hs hb=>⟨⟨Nat.le_trans hs hb.size,fun b hl=>(hb.same b (by omega) (by omega)).trans (hJ.1.same b hl),hb.os.trans hJ.1.os⟩,hJ.2⟩) ?hY ⟨Grown.refl _,(fun _ h=>by cases h)⟩).mono fun e W2 ⟨hv,hJ⟩=>⟨hv,by
    rcases hJ with ⟨hg,hall⟩|⟨q1,q2,q3,q4⟩
    ·exact .inl ⟨zh hL4 hg,List.any_eq_false.2 (fun ys hy=>by rw[hall ys hy];simp),hSI4.to hg,zh hKd hg⟩
    ·rw[← hr] at q1
     exact .inr ⟨q1,q2,q3,q4⟩⟩
   case hY =>
    intro pre xs A c Wr hJ hsz hown hxl hv hmem
    have hL:=zh hL4 hJ.1
    have e1:=congrArg Loop.assign hr
    have e2:=congrArg Loop.body hr
    have e3:=congrArg Loop.tmps hr
    have e4:=congrArg Loop.params hr
    have e5:=congrArg Loop.state hr
    have e6:=congrArg Loop.pending hr
    have e7:=congrArg Loop.fn hr
    dsimp only at e1 e2 e3 e4 e5 e6 e7
    obtain⟨rb,hrb⟩:∃ rb,rb={ r with state:=LoopState.busy }:=⟨_,rfl⟩
    refine yield_both (P:=Pf fs) (F:=Fence.wide) (n:=8) (k:=1) (r:=r) (rb:=rb) (Post:=fun W'=>(Grown W4 W'∧∀ ys∈pre++[xs],hitB K haul d ys=false)∧Wr.heap.size≤W'.heap.size∧W'.heap[W4.heap.size]?=Wr.heap[W4.heap.size]?∧W'.heap[W.heap.size+1]?=Wr.heap[W.heap.size+1]?)
     (PostX:=fun W'=>W'.heap[W3.heap.size+1]?=some (.loop { r with state:=LoopState.done,pending:=some (.exit 1) })∧servedB K haul d=true∧SI w0 W' #[.slice gA K.goods.length gc,.slice dA K.dishes.length dc,.slice hA K.hauls.length hc] haul kB hB lB ds (zW K haul d++[(d:Int)])∧W'.heap[W3.heap.size]?=some (.deferred (some []))) hL e5.symm e6.symm (e7▸hfn) e1 e2 e3 e4 hrb rfl ?_
    have HHL:=Lib.hid hL
    have HJ:=Lib.hid hJ
    have HMEM:=Lib.hid hmem
    have HS4:=Lib.hid hs4
    have HSI4:=Lib.hid hSI4
    have HL4:=Lib.hid hL4
    have HKd:=Lib.hid hKd
    have HRB:=Lib.hid hrb
    have hix0:=ints_own hown
    have hlow:∀ b,A.map (·.block)=some b→W4.heap.size+1≤b:=fun b hb=>(zT hown (by rw[qr];exact hb)).1
    have hRR:qm K.dishes.length K.hauls.length xs=0:=by
     unfold qm
     rw[manyE_ok (by omega) (by omega),if_neg (by simp)]
     exact hv
    obtain⟨x,hx⟩:∃ x,xs[haul]?=some x:=⟨_,List.getElem?_eq_getElem (by omega)⟩
    have hgx:xs.getD haul 0=x:=by rw[List.getD_eq_getElem?_getD,hx];rfl
    have HGX:=Lib.hid hgx
    have i2:(haul:Int)<xs.length:=by omega
    have hsr:=hJ.1.size
    have hS3:=HS3.out
    have hd3:d≤3:=by omega
    clear e1 e2 e3 e4 e5 e6 e7 hrb hr hJ hL hown hv hmem hKd hL4 hgx hs1 hs2 hW4 d1 d2 h1 h2
    gi_wp2
    refine⟨HHL.out,?_⟩
    obtain⟨Wb,hWb⟩:∃ X,X=Wr.putObj (W3.heap.size+1) (.loop rb):=⟨_,rfl⟩
    have wL:Wb.heap[W3.heap.size+1]?=some (.loop rb):=by rw[hWb];exact World.putObj_heap_same (zg HHL.out)
    have wO:∀ b,b≠W3.heap.size+1→Wb.heap[b]?=Wr.heap[b]?:=fun b hb=>by rw[hWb];exact World.putObj_heap_other hb
    have wS:Wb.heap.size=Wr.heap.size:=by rw[hWb];simp
    have wos:Wb.os=Wr.os:=by rw[hWb];rfl
    have hsib:SI w0 Wb #[.slice gA K.goods.length gc,.slice dA K.dishes.length dc,.slice hA K.hauls.length hc] haul kB hB lB ds (zW K haul d):=by
     rw[hWb]
     exact (hSI4.to HJ.out.1).putLoop HHL.out (by have:=HS.out.num;omega)
    rw[← hWb]
    clear hWb hSI4
    have hb8:Wb.heap[W.heap.size]?=some (.cells #[.int .i64 d] 3 (0,0)):=(wO _ (by omega)).trans (zh hB84 HJ.out.1)
    have hix:Ints Wb A xs:=fun k y hy=>by
     obtain⟨b,off,e,hc'⟩:=hix0 k y hy
     have hb:=hlow b (by rw[e];rfl)
     exact⟨b,off,e,(World.cell?_of_block (a:=⟨b,off+k,none⟩) (wO b (by omega))).trans hc'⟩
    obtain⟨xb,xo,rfl,k2⟩:=hix haul x hx
    have HCAN:=Lib.hid (fun W' (g:Grown Wb W')=>can_any (fs:=fs) K gA dA hA gc dc hc xs (some ⟨xb,xo,none⟩) c W' (HK.out.grown (hsib.gr.trans g)) (hix.grown g) hC hRR)
    unfold ktV at HCAN
    simp only[hxl] at HCAN
    have k1:=za hsib.bh 0
    have k3:=za hb8 0
    have k4:=za hsib.bk 0
    have k5:=za hsib.bk 1
    have k6:=za hsib.bk 2
    simp only[List.getElem?_toArray,List.getElem?_cons_zero,List.getElem?_cons_succ] at k1 k3 k4 k5 k6
    have HSB:=Lib.hid hsib
    have HB8b:=Lib.hid hb8
    have HWL:=Lib.hid wL
    have HWO:=Lib.hid wO
    have HWS:=Lib.hid wS
    have HWOS:=Lib.hid wos
    have HLB:=Lib.hid (zg wL)
    clear hsib hb8 hix hix0 hlow hRR wL wO wS wos hB84 hKB4
    generalize hb8n:W.heap.size=b8 at *
    refine wpIn_block (wpIn_seq ?_)
    by_cases hxd:x=(d:Int)
    ·subst hxd
     refine region_round (l:=W3.heap.size+1) (by kernel_rfl) (noDefer_at (by kernel_rfl)) (by rintro⟨_,_,q⟩;rcases q with ⟨q,_⟩|⟨q,_⟩<;>cases q) (fun W_=>W_.cell? ⟨hB,0,none⟩=some (.int .i64 haul)∧W_.cell? ⟨xb,xo+haul,none⟩=some (.int .i64 (d:Int))∧W_.cell? ⟨b8,0,none⟩=some (.int .i64 d)∧W_.cell? ⟨kB,0,none⟩=some (.slice gA K.goods.length gc)∧W_.cell? ⟨kB,1,none⟩=some (.slice dA K.dishes.length dc)∧W_.cell? ⟨kB,2,none⟩=some (.slice hA K.hauls.length hc)) [] ?_
     have hS:Wb.drew.cell? ⟨hB,0,none⟩=some (.int .i64 haul)∧Wb.drew.cell? ⟨xb,xo+haul,none⟩=some (.int .i64 (d:Int))∧Wb.drew.cell? ⟨b8,0,none⟩=some (.int .i64 d)∧Wb.drew.cell? ⟨kB,0,none⟩=some (.slice gA K.goods.length gc)∧Wb.drew.cell? ⟨kB,1,none⟩=some (.slice dA K.dishes.length dc)∧Wb.drew.cell? ⟨kB,2,none⟩=some (.slice hA K.hauls.length hc):=⟨k1,k2,k3,k4,k5,k6⟩
     clear k1 k2 k3 k4 k5 k6
     refine zf 0 ?_ rfl ?_ ?_;case refine_2=>(intro w _;go_simp;try rfl)
     refine zx 1 ?_ rfl hS ?_ ?_;case refine_2=>(intro w hSw;(try dsimp only at hSw);go_simp;try rfl)
     refine zf 2 ?_ rfl ?_ ?_;case refine_2=>(intro w _;go_simp;try rfl)
     refine zx 3 ?_ rfl hS ?_ ?_;case refine_2=>(intro w hSw;(try dsimp only at hSw);go_simp;try rfl)
     refine zx 4 ?_ rfl hS ?_ ?_;case refine_2=>(intro w hSw;(try dsimp only at hSw);go_simp;try rfl)
     refine zf 5 (.bool true) rfl ?_ ?_;case refine_1=>(intro w _;go_simp;try simp)
     refine zf 6 ?_ rfl ?_ ?_;case refine_2=>(intro w _;go_simp;try rfl)
     try simp only[Act.put,List.getElem_toArray,List.getElem_cons_succ,List.getElem_cons_zero,List.setIfInBounds_toArray,List.set_cons_zero,List.set_cons_succ]
     refine zx 7 ?_ rfl hS ?_ ?_;case refine_2=>(intro w hSw;(try dsimp only at hSw);go_simp;try rfl)
     try simp only[Act.put,List.getElem_toArray,List.getElem_cons_succ,List.getElem_cons_zero,List.setIfInBounds_toArray,List.set_cons_zero,List.set_cons_succ]
     refine zf 8 ?_ rfl ?_ ?_;case refine_2=>(intro w _;go_simp;try rfl)
     refine zt (i:=9) rfl (by kernel_rfl) ?_
     intro Kq hKq
     go_simp
     refine (HCAN.out Wb.drew (show Grown Wb Wb.drew from (Grown.refl _).drewN 1)).mono ?_
     rintro e W5 ⟨rfl,g5⟩
     have HW5:=Lib.hid ((show Grown Wb Wb.drew from (Grown.refl Wb).drewN 1).trans g5)
     have hS:W5.cell? ⟨hB,0,none⟩=some (.int .i64 haul)∧W5.cell? ⟨xb,xo+haul,none⟩=some (.int .i64 (d:Int))∧W5.cell? ⟨b8,0,none⟩=some (.int .i64 d)∧W5.cell? ⟨kB,0,none⟩=some (.slice gA K.goods.length gc)∧W5.cell? ⟨kB,1,none⟩=some (.slice dA K.dishes.length dc)∧W5.cell? ⟨kB,2,none⟩=some (.slice hA K.hauls.length hc):=⟨g5.cell hS.1,g5.cell hS.2.1,g5.cell hS.2.2.1,g5.cell hS.2.2.2.1,g5.cell hS.2.2.2.2.1,g5.cell hS.2.2.2.2.2⟩
     refine hKq.out _ _ hS (fun _=>?_)
     clear hKq Kq g5
     cases hno:noneB K xs with
     | true =>
      refine zf 10 ?_ rfl ?_ ?_;case refine_2=>(intro w _;go_simp;try rfl)
      refine zN (by kernel_rfl) ?_
      try simp only[Act.put,List.getElem_toArray,List.getElem_cons_succ,List.getElem_cons_zero,List.setIfInBounds_toArray,List.set_cons_zero,List.set_cons_succ]
      gi_wp2_with fail
      obtain⟨b1,b2,b3⟩:=back_loop HL4.out HJ.out.1 HWO.out HWS.out HWOS.out HW5.out
      exact .inl ⟨trivial,(HW5.out.same _ HLB.out).trans HWL.out,⟨b1,fun ys hy=>by
      rcases List.mem_append.1 hy with q|q
      ·exact HJ.out.2 ys q
      ·simp only[List.mem_singleton] at q
       subst q
       unfold hitB
       rw[hno];simp⟩,b2,b3 _ (by omega) (by omega),b3 _ (by omega) (by omega)⟩
     | false =>
      refine zf 10 ?_ rfl ?_ ?_;case refine_2=>(intro w _;go_simp;try rfl)
      refine zN (by kernel_rfl) ?_
      try simp only[Act.put,List.getElem_toArray,List.getElem_cons_succ,List.getElem_cons_zero,List.setIfInBounds_toArray,List.set_cons_zero,List.set_cons_succ]
      have hsi5:=HSB.out.to HW5.out
      obtain⟨rA,rc,q1,q2⟩:=hsi5.bl
      have HQ1:=Lib.hid q1
      have HQ2:=Lib.hid q2
      have HS5:=Lib.hid hsi5
      have z1:=za q1 0
      have z2:=za (zh HB8b.out HW5.out) 0
      simp only[List.getElem?_toArray,List.getElem?_cons_zero] at z1 z2
      clear q1 q2 hsi5 hS
      refine wpIn_cond (t:=true) rfl ?_
      rw[if_pos rfl]
      refine wpIn_seq (wpIn_region_list (list_round (by rintro⟨_,_,q⟩;rcases q with ⟨q,_⟩|⟨q,_⟩<;>cases q) (noDefer_mem (by kernel_rfl)) ?_))
      have hlen:=servedTo_len (K:=K) (haul:=haul) d
      have hb5:=HW5.out.size
      have hlBs:=zg HQ1.out
      have hL6:=(HW5.out.same _ HLB.out).trans HWL.out
      have hK6:W5.heap[W3.heap.size]?=some (.deferred (some [])):=by
       have q:=zh HKd.out HJ.out.1
       have q2:=(HWO.out W3.heap.size (by omega)).trans q
       exact zh q2 HW5.out
      have HL6:=Lib.hid hL6
      have HK6:=Lib.hid hK6
      clear hL6 hK6
      change wpList (Pf fs) _ _ [_,_,_,_,_] _ _
      refine wpList_plain rfl (fun K1 hK1=>?_)
      go_simp
      refine hK1 _ _ ?_
      clear hK1 K1
      refine wpList_plain rfl (fun K2 hK2=>?_)
      go_simp
      refine hK2 _ _ ?_
      clear hK2 K2
      refine wpList_plain rfl (fun K3 hK3=>?_)
      go_simp
      refine hK3 _ _ ?_
      clear hK3 K3
      try simp only[Act.put,List.getElem_toArray,List.getElem_cons_succ,List.getElem_cons_zero,List.setIfInBounds_toArray,List.set_cons_zero,List.set_cons_succ]
      refine L.wpl_app_ints rfl (.tmp 41) (.tmp 43) 22 rfl (lB+1) ((like_under 22).trans Try.underlying22) inf3 rA rc (zW K haul d) rfl (own_grown HQ2.out (Grown.alloc _ _)) (W5.heap.size+1) (some ⟨W5.heap.size,0,none⟩) 1 [(d:Int)] rfl ints1 (by simp;omega) (by simp;omega) ?_
      intro A2 c2 W7 hO7 hg7 _
      have ha:=SI.app (HS5.out.to (Grown.alloc W5 (.cells #[.int .i64 d] 3))) (zr HQ1.out _) (own_grown HQ2.out (Grown.alloc _ _)) hO7 hg7
      obtain⟨⟨f1,f2⟩,f3,f4⟩:=ha
      have HF3:=Lib.hid f3
      have HF4:=Lib.hid f4
      clear f3 f4 hO7 hg7
      refine wpList_plain rfl (fun K5 hK5=>?_)
      go_simp
      refine hK5 _ _ ?_
      clear hK5 K5
      try simp only[Act.put,List.getElem_toArray,List.getElem_cons_succ,List.getElem_cons_zero,List.setIfInBounds_toArray,List.set_cons_zero,List.set_cons_succ]
      refine wpIn_exit ?_
      show (Exit.exit 1=Exit.normal∧_)∨(Exit.exit 1=Exit.exit 1∧_)
      have hLl:=HF4.out (W3.heap.size+1) _ (zr HL6.out _) (by omega) (by simp)
      refine .inr ⟨rfl,hLl,World.putObj_heap_same (zg hLl),List.any_eq_true.2 ⟨xs,HMEM.out,?_⟩,HF3.out.putLoop hLl (by have:=HS.out.num;omega),?_⟩
      ·unfold hitB
       rw[HGX.out,hno]
       simp
      ·rw[World.putObj_heap_other (by omega)]
       exact HF4.out W3.heap.size _ (zr HK6.out _) (by omega) (by simp)
    ·have hxb:(x==(d:Int))=false:=by simp[hxd]
     refine region_round (l:=W3.heap.size+1) (by kernel_rfl) (noDefer_at (by kernel_rfl)) (by rintro⟨_,_,q⟩;rcases q with ⟨q,_⟩|⟨q,_⟩<;>cases q) (fun W_=>W_.cell? ⟨hB,0,none⟩=some (.int .i64 haul)∧W_.cell? ⟨xb,xo+haul,none⟩=some (.int .i64 x)∧W_.cell? ⟨b8,0,none⟩=some (.int .i64 d)∧W_.cell? ⟨kB,0,none⟩=some (.slice gA K.goods.length gc)∧W_.cell? ⟨kB,1,none⟩=some (.slice dA K.dishes.length dc)∧W_.cell? ⟨kB,2,none⟩=some (.slice hA K.hauls.length hc)) [] ?_
     have hS:Wb.drew.cell? ⟨hB,0,none⟩=some (.int .i64 haul)∧Wb.drew.cell? ⟨xb,xo+haul,none⟩=some (.int .i64 x)∧Wb.drew.cell? ⟨b8,0,none⟩=some (.int .i64 d)∧Wb.drew.cell? ⟨kB,0,none⟩=some (.slice gA K.goods.length gc)∧Wb.drew.cell? ⟨kB,1,none⟩=some (.slice dA K.dishes.length dc)∧Wb.drew.cell? ⟨kB,2,none⟩=some (.slice hA K.hauls.length hc):=⟨k1,k2,k3,k4,k5,k6⟩
     clear k1 k2 k3 k4 k5 k6
     refine zf 0 ?_ rfl ?_ ?_;case refine_2=>(intro w _;go_simp;try rfl)
     refine zx 1 ?_ rfl hS ?_ ?_;case refine_2=>(intro w hSw;(try dsimp only at hSw);go_simp;try rfl)
     refine zf 2 ?_ rfl ?_ ?_;case refine_2=>(intro w _;go_simp;try rfl)
     refine zx 3 ?_ rfl hS ?_ ?_;case refine_2=>(intro w hSw;(try dsimp only at hSw);go_simp;try rfl)
     refine zx 4 ?_ rfl hS ?_ ?_;case refine_2=>(intro w hSw;(try dsimp only at hSw);go_simp;try rfl)
     refine zf 5 (.bool false) rfl ?_ ?_;case refine_1=>(intro w _;go_simp;try simp[hxd])
     refine zf 6 ?_ rfl ?_ ?_;case refine_2=>(intro w _;go_simp;try rfl)
     try simp only[Act.put,List.getElem_toArray,List.getElem_cons_succ,List.getElem_cons_zero,List.setIfInBounds_toArray,List.set_cons_zero,List.set_cons_succ]
     refine wpAnyL_u 7 rfl ?_
     try simp only[Act.put,List.getElem_toArray,List.getElem_cons_succ,List.getElem_cons_zero,List.setIfInBounds_toArray,List.set_cons_zero,List.set_cons_succ]
     refine wpAnyL_u 8 rfl ?_
     try simp only[Act.put,List.getElem_toArray,List.getElem_cons_succ,List.getElem_cons_zero,List.setIfInBounds_toArray,List.set_cons_zero,List.set_cons_succ]
     refine wpAnyL_u 9 rfl ?_
     refine zf 10 ?_ rfl ?_ ?_;case refine_2=>(intro w _;go_simp;try rfl)
     refine zN (by kernel_rfl) ?_
     try simp only[Act.put,List.getElem_toArray,List.getElem_cons_succ,List.getElem_cons_zero,List.setIfInBounds_toArray,List.set_cons_zero,List.set_cons_succ]
     gi_wp2_with fail
     have HW5:=Lib.hid ((Grown.refl Wb).drewN 1)
     obtain⟨b1,b2,b3⟩:=back_loop HL4.out HJ.out.1 HWO.out HWS.out HWOS.out HW5.out
     exact .inl ⟨trivial,(HW5.out.same _ HLB.out).trans HWL.out,⟨b1,fun ys hy=>by
      rcases List.mem_append.1 hy with q|q
      ·exact HJ.out.2 ys q
      ·simp only[List.mem_singleton] at q
       subst q
       unfold hitB
       rw[HGX.out];simp[hxd]⟩,b2,b3 _ (by omega) (by omega),b3 _ (by omega) (by omega)⟩
set_option maxRecDepth 20000 in
set_option maxHeartbeats 4000000 in
theorem served_yes (K:Kt) (gA dA hA:Option Addr) (gc dc hc:Nat) (haul:Nat) (w:World) (k:KtAt w K gA dA hA) (hC:zP K=0) (hh:haul<K.hauls.length) :
  CallsIn Fence.wide 10 (Pf fs) 55 #[ktV K gA dA hA gc dc hc,.int .i64 haul] w fun e w'=>∃ A c,e=.returned (.tuple #[.slice A (zW K haul K.dishes.length).length c,.int .i64 0])∧Grown w w'∧Ints w' A (zW K haul K.dishes.length):=by
 have hck:=fun W (g:Grown w W)=>callsIn_wide (n:=9).2 (check_any (fs:=fs) K gA dA hA gc dc hc W (k.grown g))
 rw[hC] at hck
 have HO:=Lib.hid (show outB (haul:Int) 0 ((K.hauls.length:Int)-1)=false by unfold outB;simp;omega)
 have hout:=fun W=>callsIn_wide (n:=9).2 (out_any (fs:=fs) (haul:Int) 0 ((K.hauls.length:Int)-1) W)
 rw[HO.out] at hout
 have hw2:IntKind.i64.wrap ((K.hauls.length:Int)-1)=(K.hauls.length:Int)-1:=wrap_of rfl (by have:=k.nh;omega) (by have:=k.nh;omega)
 have HCK:=Lib.hid hck
 have HOT:=Lib.hid hout
 have HK:=Lib.hid k
 have f36:Fence.wide.fn 36:=trivial
 have f70:Fence.wide.fn 70:=trivial
 obtain⟨V,hV⟩:∃ V,V=(w.alloc (.cells #[.slice gA K.goods.length gc,.slice dA K.dishes.length dc,.slice hA K.hauls.length hc] 29)).alloc (.cells #[.int .i64 haul] 3):=⟨_,rfl⟩
 have v0:V.heap[w.heap.size]?=some (.cells #[.slice gA K.goods.length gc,.slice dA K.dishes.length dc,.slice hA K.hauls.length hc] 29 (0,0)):=by rw[hV];exact zr (heap_alloc_new w _) _
 have v1:V.heap[w.heap.size+1]?=some (.cells #[.int .i64 haul] 3 (0,0)):=by
  rw[hV]
  have:=heap_alloc_new (w.alloc (.cells #[.slice gA K.goods.length gc,.slice dA K.dishes.length dc,.slice hA K.hauls.length hc] 29)) (.cells #[.int .i64 haul] 3)
  rw[zS] at this
  exact this
 have vg:Grown w V:=by rw[hV];exact (Grown.alloc _ _).trans (Grown.alloc _ _)
 have HV0:=Lib.hid v0
 have HV1:=Lib.hid v1
 have HVG:=Lib.hid vg
 have HVE:=Lib.hid hV
 clear hck hout k v0 v1 vg hV
 unfold ktV at *
 refine callsIn_of_wp_marks LK.func55 rfl trivial ?_ rfl
 simp only[Try.ntmps55,List.size_toArray,List.length_cons,List.length_nil,Nat.reduceAdd,Nat.reduceSub,Array.replicate_succ,Array.replicate_zero,List.push_toArray,List.append_toArray,List.nil_append,List.cons_append]
 gi_wp2_with fail
 refine wpIn_wide.2 (wp_scope_straight ((wpIn_wide (n:=10)).1 ?_))
 gi_wp2_with (first|(gi_at_call 36;have hg0:=HVG.out;rw[HVE.out] at hg0;refine (HCK.out _ hg0).mono ?_;rintro e w1 ⟨rfl,hg1⟩;rw[← HVE.out] at hg1;have HG1:=Lib.hid hg1;have q0:=za (zh HV0.out hg1) 0;have q1:=za (zh HV0.out hg1) 1;have q2:=za (zh HV0.out hg1) 2;have q3:=za (zh HV1.out hg1) 0;have hlt:=zg (zh HV0.out hg1);clear hg1 hg0;simp only[List.getElem?_toArray,List.getElem?_cons_succ,List.getElem?_cons_zero] at q0 q1 q2 q3)|(gi_at_call 70;refine (HOT.out _).mono ?_;rintro e w2 ⟨rfl,hw2e⟩;obtain rfl:w1=w2:=hw2e.symm))
 have HS1:=Lib.hid (show SI w (w1.alloc (.cells #[.slice none 0 0] 22)) #[.slice gA K.goods.length gc,.slice dA K.dishes.length dc,.slice hA K.hauls.length hc] haul w.heap.size (w.heap.size+1) w1.heap.size [] (zW K haul 0) from ⟨HVG.out.trans (HG1.out.trans (Grown.alloc _ _)),zr (zh HV0.out HG1.out) _,zr (zh HV1.out HG1.out) _,⟨none,0,heap_alloc_new w1 _,L.OwnInts.nil _ _⟩,List.nodup_nil,(fun r hr=>by cases hr),Nat.le_refl _,by omega,zg (zh HV1.out HG1.out)⟩)
 refine wpIn_label ?_
 gi_wp2_with fail
 clear q0 q1 q2 q3 hlt
 refine wpIn_loop_rounds (K.dishes.length+1) ?_
 refine served_rounds K gA dA hA gc dc hc w HK.out hC haul w.heap.size (w.heap.size+1) w1.heap.size hh ?hfin K.dishes.length 0 [] _ _ _ _ _ _ _ _ _ _ _ _ _ _ _ _ _ _ _ _ _ _ _ _ _ _ _ _ _ _ _ _ _ _ _ _ _ _ _ _ _ _ _ (by omega) HS1.out
 case hfin =>
  intro ds W u0 u1 u4 u5 u6 u8 u9 u10 u11 u12 u13 u14 u15 u16 u17 u18 u19 u20 u21 u22 u25 u26 u27 u28 u29 u30 u31 u32 u33 u34 u35 u36 u37 u38 u39 u40 u41 u42 u43 u44 u45 u46 hS
  obtain⟨A,c,l1,l2⟩:=hS.bl
  have HS:=Lib.hid hS
  have HL2:=Lib.hid l2
  have z1:=za l1 0
  simp only[List.getElem?_toArray,List.getElem?_cons_zero] at z1
  clear hS l1 l2
  gi_wp2_with fail
  refine leaves_marks HS.out.nd (fun r hr=>(HS.out.marks r hr).2) fun w' h1 h2 h3=>?_
  have hin:∀ (b:Nat) (o:Obj),W.heap[b]?=some o→(∀ l,o≠Obj.deferred l)→w'.heap[b]?=some o:=fun b o hb ho=>by
   rw[h3 b (fun q=>by rw[(HS.out.marks b q).2] at hb;cases hb;exact ho _ rfl)]
   exact hb
  refine⟨.tuple #[.slice A (zW K haul K.dishes.length).length c,.int .i64 0],by simp[results,Try.results55,go_sem],A,c,rfl,⟨by rw[h1];exact HS.out.gr.size,fun b hb=>?_,h2.trans HS.out.gr.os⟩,?_⟩
  ·rw[h3 b (fun q=>by have:=(HS.out.marks b q).1;have:=HS.out.num;omega)]
   exact HS.out.gr.same b hb
  ·intro q x hx
   obtain⟨b,off,e,hc'⟩:=ints_own HL2.out q x hx
   obtain⟨cs,hcs⟩:=own_tag HL2.out (k:=b) (by rw[qr,e];rfl)
   exact⟨b,off,e,(World.cell?_of_block (a:=⟨b,off+q,none⟩) ((hin b _ hcs (by simp)).trans hcs.symm)).trans hc'⟩
theorem served_ok (K:Kt) (gA dA hA:Option Addr) (gc dc hc:Nat) (haul:Nat) (w:World) (k:KtAt w K gA dA hA) (hC:zP K=0) (hh:haul<K.hauls.length) :
  Calls (Pf fs) 55 #[ktV K gA dA hA gc dc hc,.int .i64 haul] w fun e w'=>∃ A c,e=.returned (.tuple #[.slice A (zW K haul K.dishes.length).length c,.int .i64 0])∧Grown w w'∧Ints w' A (zW K haul K.dishes.length):=
 callsIn_wide.1 (served_yes K gA dA hA gc dc hc haul w k hC hh)
end
end Go.Gal
