/- The renaming behind 'all': what was there, the boxes, the plans, and their rows of loads. The left 'all', from its entry to its tail. ████ The window at 'all': a good left state that .. -/
import Derived.Test.YtlgiofglcgbjgaaM21
namespace Go.Gal
open Go Go.Par Go.Proofs
section
def ext (B:Ren) (l:Nat→Nat→Prop) (n n':Nat) (hB:∀ a b,B a b→a<n∧b<n') (hl:∀ a b,l a b→n≤a∧n'≤b) (h1:∀ a b c,l a b→l a c→b=c) (h2:∀ a b c,l a c→l b c→a=b) (hg:B.glob≤n) (hg':B.glob≤n'):Ren where
 rel a b:=B a b∨l a b
 ok:=B.ok
 okF:=B.okF
 has:=B.has
 glob:=B.glob
 out:=B.out
 side:=fun {a b} x=>by
  rcases x with x|x
  ·exact B.side x
  ·have:=hl a b x;omega
 left:=fun {a b c} x y=>by
  rcases x with x|x<;>rcases y with y|y
  ·exact B.left x y
  ·have:=hB a b x;have:=hl a c y;omega
  ·have:=hB a c y;have:=hl a b x;omega
  ·exact h1 a b c x y
 right:=fun {a b c} x y=>by
  rcases x with x|x<;>rcases y with y|y
  ·exact B.right x y
  ·have:=hB a c x;have:=hl b c y;omega
  ·have:=hB b c y;have:=hl a c x;omega
  ·exact h2 a b c x y
def Pairs (Ds:List Good1) (RL RR:Nat→Nat) (n n' a b:Nat):Prop:=
 (a=n∧b=n')∨(a=n+2∧b=n'+2)∨(a=n+3∧b=n'+3)∨∃ i D,Ds[i]?=some D∧(zg D).1≠[]∧a=RL i∧b=RR i
section
variable {B:Ren} {w w' wL w2:World} {Ds:List Good1} {cap RL RR:Nat→Nat} {n n' ng:Nat} {ga da ha ga' da' ha':Value}
theorem agg_cells {c c':Array Value} (h:VRel B (.agg c) (.agg c')):VsRel B c c':=by
 cases h with
 | agg s h=>exact⟨s,h⟩
theorem join (hw:WRel B w w') (hn:w.heap.size=n) (hn':w'.heap.size=n') (hk:VRel B (.agg #[ga,da,ha]) (.agg #[ga',da',ha']))
  (hlen:Ds.length=ng) (oldL:∀ b,b<n→wL.heap[b]?=w.heap[b]?) (sizeL:n+4≤wL.heap.size) (osL:wL.os=w.os) (kL:wL.heap[n]?=some (.cells #[ga,da,ha] 29 (0,0))) (pL:wL.heap[n+3]?=some (.cells #[.slice (some ⟨n+2,0,none⟩) ng ng] 129 (0,0))) (fL:Filled Ds cap RL (n+2) (n+4) ng ng wL)
  (oldR:∀ r b,B r b→w2.heap[b]?=w'.heap[b]?) (sizeR:n'+5≤w2.heap.size) (osR:w2.os=w'.os) (kR:w2.heap[n']?=some (.cells #[ga',da',ha'] 29 (0,0))) (pR:w2.heap[n'+3]?=some (.cells #[.slice (some ⟨n'+2,0,none⟩) ng ng] 129 (0,0))) (cR:∃ c,w2.heap[n'+2]?=some (.cells c 141 (0,0))∧c.size=3*ng)
  (plan:∀ i D,Ds[i]?=some D→PlanIn (n'+2) i (zg D) (cap i) (RR i) w2) (newR:∀ i D,Ds[i]?=some D→(zg D).1≠[]→n'+5≤RR i) (injR:∀ i j D E,Ds[i]?=some D→Ds[j]?=some E→(zg D).1≠[]→(zg E).1≠[]→RR i=RR j→i=j) :
  ∃ B2:Ren,B.le B2∧WRel B2 wL w2∧B2 n n'∧B2 (n+3) (n'+3)∧∀ a b,B2 a b→B a b∨(n≤a∧(b=n'∨b=n'+2∨b=n'+3∨n'+5≤b)):=by
 have hB:∀ a b,B a b→a<n∧b<n':=fun a b h=>by have:=hw.lt h;omega
 have hi:∀ i D,Ds[i]?=some D→i<ng:=fun i D h=>by rw[← hlen];exact (List.getElem?_eq_some_iff.1 h).1
 have newL:∀ i D,Ds[i]?=some D→(zg D).1≠[]→n+4≤RL i:=fun i D h hne=>(fL.new i D (hi i D h) h hne).1
 have hl:∀ a b,Pairs Ds RL RR n n' a b→n≤a∧n'≤b:=fun a b h=>by
  rcases h with h|h|h|⟨i,D,hD,hne,h1,h2⟩
  ·omega
  ·omega
  ·omega
  ·have:=newL i D hD hne;have:=newR i D hD hne;omega
 have hb:∀ a b,Pairs Ds RL RR n n' a b→b=n'∨b=n'+2∨b=n'+3∨n'+5≤b:=fun a b h=>by
  rcases h with h|h|h|⟨i,D,hD,hne,h1,h2⟩
  ·omega
  ·omega
  ·omega
  ·have:=newR i D hD hne;omega
 have h1:∀ a b c,Pairs Ds RL RR n n' a b→Pairs Ds RL RR n n' a c→b=c:=fun a b c h k=>by
  rcases h with h|h|h|⟨i,D,hD,hne,x1,x2⟩<;>rcases k with k|k|k|⟨j,E,hE,hne',y1,y2⟩
  all_goals first|omega|skip
  all_goals first|(have:=newL _ _ hE hne';omega)|(have:=newL _ _ hD hne;omega)|skip
  have e:=fL.inj i j D E (hi _ _ hD) (hi _ _ hE) hD hE hne hne' (x1.symm.trans y1)
  subst e
  omega
 have h2:∀ a b c,Pairs Ds RL RR n n' a c→Pairs Ds RL RR n n' b c→a=b:=fun a b c h k=>by
  rcases h with h|h|h|⟨i,D,hD,hne,x1,x2⟩<;>rcases k with k|k|k|⟨j,E,hE,hne',y1,y2⟩
  all_goals first|omega|skip
  all_goals first|(have:=newR _ _ hE hne';omega)|(have:=newR _ _ hD hne;omega)|skip
  have e:=injR i j D E hD hE hne hne' (x2.symm.trans y2)
  subst e
  omega
 let B2:Ren:=ext B (Pairs Ds RL RR n n') n n' hB hl h1 h2 (by have:=hw.big;omega) (by have:=hw.big';omega)
 have hle:B.le B2:=⟨fun _ _ h=>.inl h,rfl,rfl,rfl,rfl,rfl⟩
 have bC:B2 (n+2) (n'+2):=.inr (.inr (.inl ⟨rfl,rfl⟩))
 refine⟨B2,hle,⟨fun r b hr=>?_,osR.trans (hw.os.trans osL.symm),by have h:B2.glob≤w.heap.size:=hw.big;omega,by have h:B2.glob≤w'.heap.size:=hw.big';omega⟩,.inr (.inl ⟨rfl,rfl⟩),.inr (.inr (.inr (.inl ⟨rfl,rfl⟩))),fun a b h=>?_⟩
 rotate_left
 ·rcases h with h|h
  ·exact .inl h
  ·exact .inr ⟨(hl a b h).1,hb a b h⟩
 rcases hr with hr|hr
 ·obtain⟨o,o',e1,e2,ho⟩:=hw.objs r b hr
  exact⟨o,o',(oldL r (hB r b hr).1).trans e1,(oldR r b hr).trans e2,ho.mono hle⟩
 rcases hr with ⟨rfl,rfl⟩|⟨rfl,rfl⟩|⟨rfl,rfl⟩|⟨i,D,hD,hne,rfl,rfl⟩
 ·exact⟨_,_,kL,kR,.cells 29 .zero (VsRel.mono hle (agg_cells hk))⟩
 ·obtain⟨arr,hrow,harr,hfill⟩:=fL.row
  obtain⟨c,hc,hcs⟩:=cR
  refine⟨_,_,hrow,hc,.cells 141 .zero ⟨hcs.trans harr.symm,fun p x y hx hy=>?_⟩⟩
  have hp:p<3*ng:=by rw[← harr];exact (Array.getElem?_eq_some_iff.1 hx).1
  obtain⟨j,q,hq,rfl⟩:∃ j q,q<3∧p=3*j+q:=⟨p / 3,p % 3,Nat.mod_lt _ (by omega),by omega⟩
  have hj:j<ng:=by omega
  obtain⟨D,hD⟩:∃ D,Ds[j]?=some D:=⟨_,List.getElem?_eq_getElem (by omega)⟩
  obtain⟨x0,x1,x2⟩:=hfill j D hj hD
  have P:=plan j D hD
  have cel:∀ o v,w2.cell? ⟨n'+2,o,none⟩=some v→c[o]?=some v:=fun o v h=>by
   simp only[World.cell?,hc,Option.isSome_none,Bool.false_eq_true,if_false] at h
   exact h
  rcases q with _|_|_|q
  ·have y0:=cel _ _ P.c0
   rw[Nat.add_zero] at hx hy
   rw[x0] at hx
   rw[y0] at hy
   cases hx
   cases hy
   by_cases hne:(zg D).1=[]
   ·rw[if_pos hne,if_pos hne]
    exact .slice 0 0 .none
   ·rw[if_neg hne,if_neg hne]
    exact .slice _ _ (.some ⟨.inr (.inr (.inr (.inr ⟨j,D,hD,hne,rfl,rfl⟩))),rfl,rfl⟩)
  ·have y1:=cel _ _ P.c1
   rw[x1] at hx
   rw[y1] at hy
   cases hx
   cases hy
   exact .int _ _
  ·have y2:=cel _ _ P.c2
   rw[x2] at hx
   rw[y2] at hy
   cases hx
   cases hy
   exact .bool _
  ·omega
 ·exact⟨_,_,pL,pR,.cells 129 .zero (Rows.one (.slice ng ng (.some ⟨bC,rfl,rfl⟩)))⟩
 ·obtain⟨_,_,fr,hrow,hm⟩:=(plan i D hD).row hne
  refine⟨_,_,fL.rows i D (hi i D hD) hD hne,hrow,.cells 3 hm ⟨rfl,fun p x y hx hy=>?_⟩⟩
  rw[hx] at hy
  cases hy
  obtain⟨m,rfl⟩:=zan hx
  exact .int _ _
end
end
section
theorem Leads.pos {P:Program} {s s2:St} (h:Leads P 0 s s2) (hne:s.fr≠s2.fr):Leads P 1 s s2:=by
 refine⟨h.le,h.past,fun t ht=>?_⟩
 obtain⟨k,_,e⟩:=h.run t ht
 cases k with
 | zero =>
  exfalso
  have e2:s.on t=s2.on t:=by simpa[runN] using e
  unfold St.on lone at e2
  simp only[Machine.mk.injEq,Array.mk.injEq,List.cons.injEq,Goroutine.mk.injEq,and_true] at e2
  exact hne e2.2.1
 | succ k=>exact⟨k+1,by omega,e⟩
theorem zdn (kd:CallKind) (args:Array Value):Frame.enter S 74 args kd=(b74 kd).at ⟨slots74 args,[]⟩ [.code stub74]:=by
 obtain⟨fn,h1,h2,h3⟩:=S_74
 unfold Frame.enter Frame.at b74 slots74
 simp[h1,h2,h3]
def seqs:Code→Nat
 | .seq _ b=>seqs b+1
 | _=>0
theorem seqs_lt (t:Code):seqs t<seqs (allOf t):=by
 simp only[allOf,cAll,one,check,some_,seqs]
 omega
theorem stub_ne:stub74≠tail74:=by
 intro h
 have h2:allOf tail74=tail74:=h
 have h3:=seqs_lt tail74
 rw[h2] at h3
 exact Nat.lt_irrefl _ h3
section
variable {Q:Frame→World→Prop} {kd:CallKind} {a:Array Value} {scs:List Frame} {w w':World} {B:Ren} {v0 v1:Value}
structure LeftDone (kd:CallKind) (a:Array Value) (scs:List Frame) (w:World) (A:Kit1) (Ds:List Good1) (cap:Nat→Nat) (T:Array Value) (RL:Nat→Nat) (wL:World):Prop where
 lead:Leads S 0 ⟨Frame.enter S 74 a kd,scs,w⟩ ⟨(b74 kd).at ⟨T,[]⟩ [.code tail74],scs,wL⟩
 old:∀ b,b<w.heap.size→wL.heap[b]?=w.heap[b]?
 size:w.heap.size+4≤wL.heap.size
 os:wL.os=w.os
 k:wL.heap[w.heap.size]?=some (.cells #[A.gs,A.ds,A.hs] 29 (0,0))
 p:wL.heap[w.heap.size+3]?=some (.cells #[.slice (some ⟨w.heap.size+2,0,none⟩) A.ng A.ng] 129 (0,0))
 fill:Filled Ds cap RL (w.heap.size+2) (w.heap.size+4) A.ng A.ng wL
 sz:T.size=(slots74 a).size
 s2:T.getD 2 undef=.pointer (some ⟨w.heap.size,0,none⟩)
 s4:T.getD 4 undef=.slice none 0 0
 s5:T.getD 5 undef=.int .i64 0
 s6:T.getD 6 undef=.bool false
 s7:T.getD 7 undef=.pointer (some ⟨w.heap.size+3,0,none⟩)
 u:∀ j,(10≤j∧j≤15)∨30≤j→T.getD j undef=(slots74 a).getD j undef
theorem qg (w:World) (o:Obj):(w.alloc o).heap.size=w.heap.size+1:=by unfold World.alloc;simp
theorem zD {w:World} {o:Obj} {b:Nat} (h:b<w.heap.size):(w.alloc o).heap[b]?=w.heap[b]?:=by
 unfold World.alloc
 rw[Array.getElem?_push_lt h,Array.getElem?_eq_getElem h]
theorem qv {w:World} {o:Obj} {n:Nat} (h:w.heap.size=n):(w.alloc o).heap[n]?=some o:=by
 subst h
 unfold World.alloc
 exact Array.getElem?_push_size
theorem left_all (hG:Good S Q ⟨Frame.enter S 74 a kd,scs,w⟩) (hcs:scs≠[]) (hk:kd≠.early) (hF:Fit S LfS B) (hch:ye S) (hw:WRel B w w') (r0:VRel B ((slots74 a).getD 0 undef) v0) (r1:VRel B ((slots74 a).getD 1 undef) v1) :
  ∃ A gb' hb' mb' db' Ds,v0=(A.to gb' hb' mb' db').k∧v1=(A.to gb' hb' mb' db').m∧(slots74 a).getD 0 undef=A.k∧(XR B w' gb'∧XR B w' hb'∧XR B w' mb'∧XR B w' db')∧Ds.length=A.ng∧A.ng≤3∧(∀ i D,Ds[i]?=some D→KitAt w' (XR B w') (A.to gb' hb' mb' db') i D) ∧
   ∀ cap:Nat→Nat,(∀ j D,Ds[j]?=some D→(zg D).1≠[]→(zg D).1.length≤cap j∧cap j≤maxLen)→∃ T RL wL,LeftDone kd a scs w A Ds cap T RL wL:=by
 have hbig:=YM a
 have hkb:(b74 kd).kind≠.early:=hk
 have H0:On S ⟨Frame.enter S 74 a kd,scs,w⟩ (b74 kd) scs (slots74 a).size (fun j=>(slots74 a).getD j undef) [.code (allOf tail74)] w:=⟨slots74 a,Slt.of rfl,by rw[zdn];exact Leads.refl _⟩
 generalize hσ0:(fun j=>(slots74 a).getD j undef)=σ0 at H0
 have r0':VRel B (σ0 0) v0:=by rw[← hσ0];exact r0
 have r1':VRel B (σ0 1) v1:=by rw[← hσ0];exact r1
 have H1:=H0.val (o:=ov 2 (.box 29 (.tmp 0))) (w':=w.alloc (.cells (evF σ0 (.tmp 0)).cells 29)) hkb rfl (d:=2) rfl (by omega) ⟨Nat.le_refl _,fun _ _=>rfl⟩ (zdS (x:=.tmp 0) rfl)
 have hw1:=hw.allocL (.cells (evF σ0 (.tmp 0)).cells 29)
 have e1s:=qg w (.cells (evF σ0 (.tmp 0)).cells 29)
 have e1k:=qv (o:=.cells (evF σ0 (.tmp 0)).cells 29) (w:=w) rfl
 have e1o:∀ b,b<w.heap.size→(w.alloc (.cells (evF σ0 (.tmp 0)).cells 29)).heap[b]?=w.heap[b]?:=fun b h=>zD h
 have e1os:(w.alloc (.cells (evF σ0 (.tmp 0)).cells 29)).os=w.os:=rfl
 generalize w.alloc (.cells (evF σ0 (.tmp 0)).cells 29)=w1 at H1 hw1 e1s e1k e1o e1os
 have H2:=On.v hkb H1 (ZB (o:=mvOp 4 (.const (.slice none 0 0))) (x:=.const (.slice none 0 0)) rfl) rfl rfl (by omega)
 have H3:=On.v hkb H2 (ZB (o:=mvOp 5 (I 0)) (x:=I 0) rfl) rfl rfl (by omega)
 have H4:=On.v hkb H3 (ZB (o:=mvOp 6 (.const (.bool false))) (x:=.const (.bool false)) rfl) rfl rfl (by omega)
 obtain⟨A,gb',hb',mb',db',X,sA,sM,eA,eM,bg,bh,bm,bd,hX,⟨Ds,hlen,hkit⟩,hng,hng1,σ5,k5,s19,H5⟩:=On.all (σ:=putF (putF (putF (putF σ0 2 _) 4 _) 5 _) 6 _) hG hcs hkb hbig hw1 (v0:=v0) (v1:=v1) r0' r1' H4
 have sA' : σ0 0=A.k:=sA
 have sM' : σ0 1=A.m:=sM
 refine⟨A,gb',hb',mb',db',Ds,eA,eM,by rw[← sA',← hσ0],hX,hlen,hng,fun i D h=>(hkit i D h).2,fun cap hcap=>?_⟩
 have e2s:=qg w1 (.cells X 29)
 have e2o:∀ b,b<w1.heap.size→(w1.alloc (.cells X 29)).heap[b]?=w1.heap[b]?:=fun b h=>zD h
 have e2os:(w1.alloc (.cells X 29)).os=w1.os:=rfl
 have hkit2:∀ i D,Ds[i]?=some D→KitAt (w1.alloc (.cells X 29)) (fun _=>True) A i D:=fun i D h=>(hkit i D h).1
 clear hkit
 generalize w1.alloc (.cells X 29)=w2 at H5 e2s e2o e2os hkit2
 obtain⟨i141,hi,hz,hs,hb⟩:=i141
 have H6:=H5.val (o:=ov 17 (.makeSlice 129 (.tmp 19) (.tmp 19))) (w':=w2.alloc (.cells (madeCells (Value.agg #[.slice none 0 0,.int .i64 0,.bool false]).cells (A.ng*i141.size)) 141)) hkb rfl (d:=17) rfl (by omega) ⟨Nat.le_refl _,fun _ _=>rfl⟩ (Go.Par.run_make (x:=.tmp 19) (n:=A.ng) rfl u129 hi hz s19 (by rw[hb];omega) (by rw[hs];omega) (by omega))
 rw[hs] at H6
 have e3s:=qg w2 (.cells (madeCells (Value.agg #[.slice none 0 0,.int .i64 0,.bool false]).cells (A.ng*3)) 141)
 have e3c:=qv (o:=.cells (madeCells (Value.agg #[.slice none 0 0,.int .i64 0,.bool false]).cells (A.ng*3)) 141) (w:=w2) rfl
 have e3o:∀ b,b<w2.heap.size→(w2.alloc (.cells (madeCells (Value.agg #[.slice none 0 0,.int .i64 0,.bool false]).cells (A.ng*3)) 141)).heap[b]?=w2.heap[b]?:=fun b h=>zD h
 have e3os:(w2.alloc (.cells (madeCells (Value.agg #[.slice none 0 0,.int .i64 0,.bool false]).cells (A.ng*3)) 141)).os=w2.os:=rfl
 have hmade:(madeCells (Value.agg #[.slice none 0 0,.int .i64 0,.bool false]).cells (A.ng*3)).size=3*A.ng:=by simp[madeCells];omega
 generalize madeCells (Value.agg #[.slice none 0 0,.int .i64 0,.bool false]).cells (A.ng*3)=arr0 at H6 e3s e3c e3o e3os hmade
 generalize w2.alloc (.cells arr0 141)=w3 at H6 e3s e3c e3o e3os
 have H7:=H6.val (o:=ov 7 (.box 129 (.tmp 17))) (w':=w3.alloc (.cells #[.slice (some ⟨w2.heap.size,0,none⟩) A.ng A.ng] 129)) hkb rfl (d:=7) rfl (by omega) ⟨Nat.le_refl _,fun _ _=>rfl⟩ (zdS (x:=.tmp 17) rfl)
 have e4s:=qg w3 (.cells #[.slice (some ⟨w2.heap.size,0,none⟩) A.ng A.ng] 129)
 have e4c:=qv (o:=.cells #[.slice (some ⟨w2.heap.size,0,none⟩) A.ng A.ng] 129) (w:=w3) rfl
 have e4o:∀ b,b<w3.heap.size→(w3.alloc (.cells #[.slice (some ⟨w2.heap.size,0,none⟩) A.ng A.ng] 129)).heap[b]?=w3.heap[b]?:=fun b h=>zD h
 have e4os:(w3.alloc (.cells #[.slice (some ⟨w2.heap.size,0,none⟩) A.ng A.ng] 129)).os=w3.os:=rfl
 generalize w3.alloc (.cells #[.slice (some ⟨w2.heap.size,0,none⟩) A.ng A.ng] 129)=w4 at H7 e4s e4c e4o e4os
 have H8:=On.v hkb H7 (ZB (o:=mvOp 23 (I 0)) (x:=I 0) rfl) rfl rfl (by omega)
 have H9:=H8.seq.block.loop
 have hL0:LInv A Ds cap (fun _=>0) w2.heap.size w4 0 (putF (putF (putF σ5 17 (.slice (some ⟨w2.heap.size,0,none⟩) A.ng A.ng)) 7 (.pointer (some ⟨w3.heap.size,0,none⟩))) 23 (evF (putF (putF σ5 17 (.slice (some ⟨w2.heap.size,0,none⟩) A.ng A.ng)) 7 (.pointer (some ⟨w3.heap.size,0,none⟩))) (I 0))) w4:=
  ⟨(k5 0 (by decide)).trans sA,(k5 1 (by decide)).trans sM,rfl,s19,rfl,Nat.le_refl _,rfl,fun _ _ _=>rfl,⟨⟨arr0,(e4o _ (by omega)).trans e3c,hmade,fun j D hj=>absurd hj (Nat.not_lt_zero _)⟩,fun j D hj=>absurd hj (Nat.not_lt_zero _),fun j D hj=>absurd hj (Nat.not_lt_zero _),fun j j' D D' hj=>absurd hj (Nat.not_lt_zero _)⟩⟩
 have hw4:WRel B w4 w':=WRel.left hw1 (fun r b hr=>by
  have:=(hw1.lt hr).1
  rw[e4o r (by omega),e3o r (by omega),e2o r this]) (by omega) (by rw[e4os,e3os,e2os])
 have hlt:∀ r b,B r b→r<w.heap.size:=fun r b h=>(hw.lt h).1
 rw[sA'] at r0'
 rw[sM'] at r1'
 obtain⟨RL,σ',wL,L,kL,H10⟩:=On.fills (W0:=w2) (W1:=w4) (C:=w2.heap.size) (Ds:=Ds) (cap:=cap) hG hcs hkb hbig hF hch hw4 (fun r b hr=>by have:=hlt r b hr;omega) r0' r1' hkit2 (fun b hb=>by rw[e4o b (by omega),e3o b hb]) (Nat.le_refl _) (by omega) (by omega) hlen hng hcap A.ng 0 _ _ _ (by omega) hL0 H9
 obtain⟨T,hT,hlead⟩:=H10.ex
 have n2:w2.heap.size=w.heap.size+2:=by omega
 have n3:w3.heap.size=w.heap.size+3:=by omega
 have n4:w4.heap.size=w.heap.size+4:=by omega
 have old4:∀ b,b<w4.heap.size→b≠w2.heap.size→wL.heap[b]?=w4.heap[b]?:=L.old
 have fill:=L.fill
 rw[n2,n4] at fill
 refine⟨T,RL,wL,hlead,fun b hb=>?_,by have:=L.size;omega,?_,?_,?_,fill,hT.size,?_,?_,?_,?_,?_,fun j hj=>?_⟩
 ·rw[old4 b (by omega) (by omega),e4o b (by omega),e3o b (by omega),e2o b (by omega),e1o b hb]
 ·rw[L.os,e4os,e3os,e2os,e1os]
 ·rw[old4 _ (by omega) (by omega),e4o _ (by omega),e3o _ (by omega),e2o _ (by omega),e1k]
  have:evF σ0 (.tmp 0)=A.k:=sA'
  rw[this]
  rfl
 ·rw[← n3,old4 _ (by omega) (by omega),e4c,n2]
 ·rw[hT.get,kL 2 (by decide)]
  exact k5 2 (by decide)
 ·rw[hT.get,kL 4 (by decide)]
  exact k5 4 (by decide)
 ·rw[hT.get,kL 5 (by decide)]
  exact k5 5 (by decide)
 ·rw[hT.get,kL 6 (by decide)]
  exact k5 6 (by decide)
 ·rw[hT.get,kL 7 (by decide),← n3]
  rfl
 ·have hj2:∀ l:List Nat,(∀ x∈l,x<10∨(16≤x∧x≤29))→j ∉ l:=fun l h hx=>by have:=h j hx;omega
  rw[hT.get,kL j (hj2 _ (by decide)),Zv (by omega),Zv (by omega),Zv (by omega),k5 j (hj2 _ (by decide)),Zv (by omega),Zv (by omega),Zv (by omega),Zv (by omega),← hσ0]
end
end
section
open Go.Conc (Leavers crowd)
section
variable {B:Ren} {a a':Array Value}
theorem zbC (h:VsRel B a a'):VsRel B (slots74 a) (slots74 a'):=by
 unfold slots74
 exact h.append (by rw[h.size];exact Rows.replicate _ (VRel.undef B))
theorem Yd (h:VsRel B a a') (j:Nat):VRel B ((slots74 a).getD j undef) ((slots74 a').getD j undef):=(TmpsR.of (d:=fun _=>False) (zbC h)).getD j (fun h=>h) (VRel.undef B)
theorem zbD {j:Nat} {v:Value} (h:(slots74 a).getD j undef=v) (hne:v≠undef):a[j]?=some v:=by
 unfold slots74 at h
 rw[Array.getD_eq_getD_getElem?,Array.getElem?_append] at h
 split at h
 ·rename_i hj
  rw[Array.getElem?_eq_getElem hj] at h ⊢
  exact congrArg some h
 ·exfalso
  rw[Array.getElem?_replicate] at h
  split at h<;>exact hne h.symm
theorem live_slots {i:Nat} (h:¬ (LfS 74).d i):i=2∨i=4∨i=5∨i=6∨i=7∨(10≤i∧i≤15)∨30≤i:=by
 have e:deadB i=false:=by
  cases hd:deadB i with
  | false=>rfl
  | true=>exact absurd hd h
 unfold deadB at e
 simp at e
 omega
end
theorem dead_entry {P:Program} {F:FuncId→Prop} {Q:Frame→World→Prop} (hD:Dead P F) {s:St} (hG:Good P Q s) {f:Nat} (hF:F f) (hx:∃ fn,P.funcs[f]?=some fn∧fn.body.isNone=false) {a:Array Value} {k:CallKind} (he:s.fr=Frame.enter P f a k):False:=by
 refine hG.alive (t:=s.w.tape) ?_ (fun _ _=>rfl) ?_
 ·rintro⟨_,hm,_⟩
  rw[he] at hm
  exact hm rfl
 ·have:=hD.ended f hF hx a k s.cs { s.w with tape:=s.w.tape }
  rw[← he] at this
  exact this
theorem tail74_ok:qs S (LfS 74) tail74:=tail_S
theorem window_S (hS:ye S) (hW:ye Sw) {Q:Frame→World→Prop} {W0:World} : zeK S Try.prog.funcs FSt LfS Q W0:=by
 intro Sb gs w' t q s B g f k k' a a' sl h hg hE
 obtain⟨g1,h0,hr⟩:=h.main
 rw[hg] at h0
 cases h0
 by_cases hf:f=74
 rotate_left
 ·exact (dead_entry zeG h.good (And.intro hE.hF hf) (h.fit.has f hE.has) hE.fr).elim
 subst hf
 obtain⟨hmain,hfit,hw,hgood,hlv,htr,hap,hsb,hkeep,hsize,hcalm,hshut,hsb0⟩:=h
 obtain⟨sfr,scs,w⟩:=s
 have hfr:sfr=Frame.enter S 74 a k:=hE.fr
 subst hfr
 obtain⟨cs,cs',e1,e2,hcs,hkd⟩:=hr.callers
 have e1':scs=cs++[door S]:=e1
 have eg:g={ frame:=g.frame,callers:=g.callers,status:=.running,dying:=none }:=g_eta hr.status' hr.dying' hr.offers'
 rw[List.append_nil] at e2
 rw[e2,hE.fr'] at eg
 have hcs0:scs≠[]:=by rw[e1'];simp
 obtain⟨A,gb',hb',mb',db',Ds,eA,eM,sA,⟨xg,xh,xm,xd⟩,hlen,hng,hkit,hleft⟩:=left_all hgood hcs0 hE.late hfit hS hw (Yd hE.args 0) (Yd hE.args 1)
 have a0:=zbD eA (by simp[Kit1.k,undef])
 have a1:=zbD eM (by simp[Kit1.m,undef])
 have ok:JobOk (jobOf (XR B w') (w'.heap.size+2) (A.to gb' hb' mb' db') Ds ((slots74 a').size,fun j=>(slots74 a').getD j undef)):=job_ok xg xd xh xm
 have hglob:Sw.globals.size≤w'.heap.size:=by
  have h1:=hw.big'
  rw[hfit.based.glob] at h1
  exact h1
 rw[eg] at hg
 obtain⟨K,gs2,w2,sl2,t2,hrun,J⟩:=right74 (J:=jobOf (XR B w') (w'.heap.size+2) (A.to gb' hb' mb' db') Ds ((slots74 a').size,fun j=>(slots74 a').getD j undef)) (w:=w') (kd:=k') (cs:=cs') (gs:=gs) (sl:=sl) (t:=t) (q:=q) (Sb:=Sb) ok hE.late' rfl rfl rfl
  (by show A.ng≤16;omega) hsb (fun b ⟨⟨r,hr⟩,c,ty,m,hc⟩=>⟨(hw.lt hr).2,hap r b hr,seen_of hw hr hc⟩) hglob (job_good hW hlen hkit) rfl a0 a1 hg hlv htr
 obtain⟨⟨T2,hT2,hg2⟩,⟨q2,hlv2⟩,htr2,hold2,hsize2,hcalm2,hk2,hp2,hrow2,Pr,Sd,hres,hPr,hdis⟩:=J
 have hres1:∀ i,∃ cap R,i<A.ng→∃ D,Ds[i]?=some D∧PlanIn (w'.heap.size+2) i (zg D) cap R w2∧((zg D).1≠[]→Pr i R):=by
  intro i
  by_cases hi:i<A.ng
  ·obtain⟨D,cap,R,h1,h2,h3⟩:=res_of (hres i hi)
   exact⟨cap,R,fun _=>⟨D,h1,h2,h3⟩⟩
  ·exact⟨0,0,fun h=>absurd h hi⟩
 obtain⟨cap,hres2⟩:=Classical.skolem.1 hres1
 obtain⟨RR,hres3⟩:=Classical.skolem.1 hres2
 have plan:∀ i D,Ds[i]?=some D→PlanIn (w'.heap.size+2) i (zg D) (cap i) (RR i) w2∧((zg D).1≠[]→Pr i (RR i)):=fun i D hD=>by
  have hi:i<A.ng:=by rw[← hlen];exact (List.getElem?_eq_some_iff.1 hD).1
  obtain⟨D',h1,h2⟩:=hres3 i hi
  rw[hD] at h1
  cases h1
  exact h2
 have hlt:∀ i D,Ds[i]?=some D→i<A.ng:=fun i D hD=>by rw[← hlen];exact (List.getElem?_eq_some_iff.1 hD).1
 obtain⟨T,RL,wL,L⟩:=hleft cap fun j D hD hne=>⟨((plan j D hD).1.row hne).1,((plan j D hD).1.row hne).2.1⟩
 have hkr:VRel B (.agg #[A.gs,A.ds,A.hs]) (.agg #[(A.to gb' hb' mb' db').gs,(A.to gb' hb' mb' db').ds,(A.to gb' hb' mb' db').hs]):=by
  have:=Yd hE.args 0
  rw[sA,eA] at this
  exact this
 obtain⟨B2,hle,hw2,b0,b3,hB2⟩:=join (B:=B) (Ds:=Ds) (cap:=cap) (RL:=RL) (RR:=RR) (ng:=A.ng) hw rfl rfl hkr hlen L.old L.size L.os L.k L.p L.fill (fun r b hr=>hold2 b (hw.lt hr).2 (hap r b hr)) hsize2 hcalm2.os hk2 hp2 hrow2 (fun i D hD=>(plan i D hD).1)
  (fun i D hD hne=>(hPr i _ (hlt i D hD) ((plan i D hD).2 hne)).1) (fun i j D E hD hE' hne hne' e=>hdis i j (RR i) (hlt i D hD) (hlt j E hE') ((plan i D hD).2 hne) (by rw[e];exact (plan j E hE').2 hne'))
 have hlead:Leads S 1 ⟨Frame.enter S 74 a k,scs,w⟩ ⟨(b74 k).at ⟨T,[]⟩ [.code tail74],scs,wL⟩:=Leads.pos L.lead fun e=>by
  have e3:Frame.enter S 74 a k=(b74 k).at ⟨T,[]⟩ [.code tail74]:=e
  rw[zdn] at e3
  have e4:([.code stub74]:List Item)=[.code tail74]:=congrArg Frame.todo e3
  simp only[List.cons.injEq,Item.code.injEq,and_true] at e4
  exact stub_ne e4
 have hsz:T2.size=T.size:=by
  rw[hT2.size,L.sz]
  exact (zbC hE.args).size
 have tm:TmpsR (LfS 74).d B2 T T2:=by
  refine⟨hsz,fun i x y hi hx hy=>?_⟩
  have hx':T.getD i undef=x:=by rw[Array.getD_eq_getD_getElem?,hx];rfl
  have p2:∀ {j:Nat} {u v:Value},i=j→T.getD j undef=u→T2[j]?=some v→VRel B2 u v→VRel B2 x y:=fun e hu hv hr=>by
   subst e
   rw[hx'] at hu
   rw[hy] at hv
   cases hu
   cases hv
   exact hr
  rcases live_slots hi with e|e|e|e|e|e
  ·exact p2 e L.s2 hT2.s2 (.pointer (.some ⟨b0,rfl,rfl⟩))
  ·exact p2 e L.s4 hT2.s4 (.slice 0 0 .none)
  ·exact p2 e L.s5 hT2.s5 (.int _ _)
  ·exact p2 e L.s6 hT2.s6 (.bool _)
  ·exact p2 e L.s7 hT2.s7 (.pointer (.some ⟨b3,rfl,rfl⟩))
  ·have hi2:i<T2.size:=(Array.getElem?_eq_some_iff.1 hy).1
   exact p2 rfl (L.u i e) (hT2.u i e (by rw[← hT2.size];exact hi2)) ((Yd hE.args i).mono hle)
 have fr:FrameR S LfS B2 ((b74 k).at ⟨T,[]⟩ [.code tail74]) ((b74 k').at ⟨T2,[]⟩ [.code tail74]):={ fn:=rfl,tmps:=tm,todo:=.cons (.code tail74_ok) .nil,defers:=.nil,mode:=.run,roundOf:=.none,calm:=fun h=>absurd rfl h }
 have hkinds:Kinds .normal ((b74 k).at ⟨T,[]⟩ [.code tail74]) cs ((b74 k').at ⟨T2,[]⟩ [.code tail74]) cs':=by
  refine hkd.same rfl rfl rfl ?_
  rw[hE.fr']
  rfl
 have hcallers:∃ cs1 cs1',scs=cs1++[door S]∧cs'=cs1'++[]∧LR (BelowR S LfS B2) cs1 cs1'∧Kinds .normal ((b74 k).at ⟨T,[]⟩ [.code tail74]) cs1 ((b74 k').at ⟨T2,[]⟩ [.code tail74]) cs1':=⟨cs,cs',e1',(List.append_nil _).symm,Yi hle hcs,hkinds⟩
 refine⟨K,fun b=>Sb b∨b=w'.heap.size+4,gs2,w2,t2,q2,⟨(b74 k).at ⟨T,[]⟩ [.code tail74],scs,wL⟩,B2,sl2,hrun,hlead,?_⟩
 refine⟨⟨_,hg2,.frame hE.late hE.late' fr,hcallers,rfl,rfl,rfl,rfl,rfl,rfl⟩,hfit.mono hle,hw2,hgood.leads hlead hcs0,hlv2,htr2,fun r b hb=>?_,fun b hb=>?_,fun b hb=>?_,by omega,hcalm.trans hcalm2,fun r b hb hlt0=>?_,fun b hb=>?_⟩
 ·rcases hB2 r b hb with h1|⟨_,h1⟩
  ·have:=(hw.lt h1).2
   rintro (h2|h2)
   ·exact hap r b h1 h2
   ·omega
  ·rintro (h2|h2)
   ·have:=hsb b h2
    omega
   ·omega
 ·rcases hb with hb|hb
  ·have:=hsb b hb;omega
  ·omega
 ·exact (hold2 b (by omega) (fun h=>by have:=hsb0 b h;omega)).trans (hkeep b hb)
 ·rcases hB2 r b hb with h1|⟨_,h1⟩
  ·obtain⟨c,ty,m,h2,h3⟩:=hshut r b h1 hlt0
   exact⟨c,ty,m,(L.old r (hw.lt h1).1).trans h2,h3⟩
  ·omega
 ·rcases hb with hb|hb
  ·exact hsb0 b hb
  ·omega
end
section
open Go.Conc (Leavers crowd solo Deaf)
open Go.ConcN (CT sumTo)
def hasS (f:FuncId):Prop:=∃ fn,S.funcs[f]?=some fn∧fn.body.isNone=false
noncomputable abbrev idS (N:Nat→Prop):Ren:=idN N (qs S Lic.loop) (fun f=>LfS f=Lic.loop) hasS S.globals.size True
noncomputable abbrev maskS (N:Nat→Prop) (w:World):World:=maskW N (qs S Lic.loop) (fun f=>LfS f=Lic.loop) hasS S.globals.size True w
theorem keys_S:keysB S=true:=by kernel_rfl
theorem fit_S (N:Nat→Prop):Fit S LfS (idS N):=⟨⟨rfl,zee keys_S,fun _f fn h1 h2=>⟨fn,h1,h2⟩⟩,rfl,rfl,fun _ _=>trivial,fun _ h=>h⟩
theorem zdb (i:Nat):Go.Conc.touchAt #[] i=none:=by simp[Go.Conc.touchAt,Trace.act?]
theorem tr_empty (N:Nat):Tr (fun _=>False) 0 N #[]:=by
 refine⟨⟨fun i op x hi=>by simp at hi,fun k _ _ l hx=>hx.elim,fun k _ _ l hx=>hx.elim,fun l hs _ i a ha=>?_,fun l hs _ i a ha=>?_,Go.ConcN.noRace_nil,fun i op hi=>by simp at hi⟩,fun i g hi=>by simp[Trace.g?] at hi,Go.ConcN.Deaf_absent fun i op hi=>by simp at hi,fun op hop=>by simp at hop⟩
 ·rw[zdb] at ha
  cases ha
 ·rw[zdb] at ha
  cases ha
theorem law_runs (hS:ye S) (hW:ye Sw) {F:Nat} (hF:¬ FSt F) (hini:Try.prog.inits.idxOf? F=none) {args:Array Value} {W:World} {N:Nat→Prop} (hN:∀ b,N b→Seen W b) (hg:S.globals.size≤W.heap.size) (hargs:VsRel (idS N) args args)
  (hc:∀ t,Calls S F args { maskS N W with tape:=t } fun e _=>e=.returned (.bool true)) :
  ∃ k last o w' t',runNT Try.prog (k+1) (solo (Go.Conc.G (Frame.enter Try.prog F args .normal) []) W) #[]=(.ended o w',t')∧runN Try.prog k (solo (Go.Conc.G (Frame.enter Try.prog F args .normal) []) W)=.next last∧step Try.prog last=.ended o w' ∧
   Go.Conc.Good Try.prog (fun v w1=>v=.bool true∧W.heap.size≤w1.heap.size∧(∀ b,b<W.heap.size→w1.heap[b]?=W.heap[b]?)∧Go.Par.Calm W w1) last o w' t':=by
 have hgood:Good S (Done S F fun e _=>e=.returned (.bool true)) ⟨Frame.enter S F args .normal,[door S],maskS N W⟩:=Zy (fun e _ h=>⟨_,h⟩) fun t _=>hc t
 have hl1:(Frame.enter S F args .normal).kind≠.early:=fun h=>by cases h
 have hl2:(Frame.enter Try.prog F args .normal).kind≠.early:=fun h=>by cases h
 have hfr:Fr S Try.prog.funcs FSt LfS (Done S F fun e _=>e=.returned (.bool true)) W (fun _=>False) #[Go.Conc.G (Frame.enter Try.prog F args .normal) []] W #[] (fun _=>0) ⟨Frame.enter S F args .normal,[door S],maskS N W⟩ (idS N):=by
  refine⟨⟨_,rfl,.frame hl1 hl2 (QD two_S hF .normal hargs),⟨[],[],rfl,rfl,.nil,⟨rfl,rfl,rfl⟩⟩,rfl,rfl,rfl,rfl,rfl,rfl⟩,fit_S N,zbW hN hg,hgood,⟨fun i g hi hg=>?_,fun j _=>?_⟩,tr_empty _,fun _ _ _ h=>h,fun _ h=>h.elim,fun _ _=>rfl,Nat.le_refl _,.refl W,fun r b hr _=>?_,fun _ h=>h.elim⟩
  ·have:=(Array.getElem?_eq_some_iff.1 hg).1
   simp at this
   omega
  ·exact Go.ConcN.Deaf_absent fun i op hi=>by simp at hi
  ·obtain⟨rfl,hb⟩:=hr
   obtain⟨c,t,m,h1⟩:=hN _ hb
   exact Ya hb h1
 have:=frame_runs (fs:=Try.prog.funcs) (Post:=fun v w1=>v=.bool true∧W.heap.size≤w1.heap.size∧(∀ b,b<W.heap.size→w1.heap[b]?=W.heap[b]?)∧Go.Par.Calm W w1) two_S hini (fun v v' w w1 B hv hr h1 h2 h3=>by
  cases hv
  cases hr
  exact⟨rfl,h1,h2,h3⟩) (window_S hS hW) hgood.acc _ (fun _=>0) _ W none #[] (idS N) _ (Nat.le_refl _) hfr
 exact this
end
end Go.Gal
