/- Two related free programs, run in related memories on one tape, come to related ends and list related accesses. -/
import Derived.Test.YtlgiofglcgbjgaaM00
namespace Go.Par
open Go
structure WRel (B:Ren) (w w':World):Prop where
 objs:∀ r r',B r r'→∃ o o',w.heap[r]?=some o∧w'.heap[r']?=some o'∧ORel B o o'
 os:w'.os=w.os
 big:B.glob≤w.heap.size
 big':B.glob≤w'.heap.size
section
variable {B C:Ren} {w w':World}
theorem WRel.lt (h:WRel B w w') {r r':Nat} (hr:B r r'):r<w.heap.size∧r'<w'.heap.size:=by
 obtain⟨o,o',h1,h2,_⟩:=h.objs r r' hr
 exact⟨(Array.getElem?_eq_some_iff.1 h1).1,(Array.getElem?_eq_some_iff.1 h2).1⟩
theorem WRel.cell (h:WRel B w w') {a a':Addr} (ha:AR B a a'):OR (VRel B) (w.cell? a) (w'.cell? a'):=by
 obtain⟨o,o',h1,h2,ho⟩:=h.objs _ _ ha.block
 unfold World.cell?
 rw[h1,h2,ha.spot,ha.off]
 cases ho with
 | cells t fr x =>
  simp only
  split
  ·exact .none
  ·exact x.getO _
 | _=>exact .none
theorem WRel.frozen (h:WRel B w w') {a a':Addr} (ha:AR B a a'):w'.frozen? a'=true→w.frozen? a=true:=by
 obtain⟨o,o',h1,h2,ho⟩:=h.objs _ _ ha.block
 unfold World.frozen?
 rw[h1,h2,ha.off]
 cases ho with
 | cells t m x =>
  rename_i fr fr'
  obtain⟨lo,hi⟩:=fr
  obtain⟨lo',hi'⟩:=fr'
  simp only[Bool.and_eq_true,decide_eq_true_eq]
  rintro⟨h1,h2⟩
  have:=m.sub (by simp only;omega)
  simp only at this
  omega
 | _=>intro h;exact h
theorem WRel.shape (h:WRel B w w') {r r':Nat} (hr:B r r'):w'.shape? r'=w.shape? r:=by
 obtain⟨o,o',h1,h2,ho⟩:=h.objs _ _ hr
 unfold World.shape?
 rw[h1,h2]
 cases ho with
 | cells t fr x=>simp[x.size]
 | _=>rfl
theorem Js (a:Array Obj) (i:Nat) (f:Obj→Obj) (j:Nat):(a.modify i f)[j]?=if i=j then (a[j]?).map f else a[j]?:=by
 rw[Array.getElem?_modify]
theorem WRel.modify (h:WRel B w w') {r r':Nat} (hr:B r r') {f g:Obj→Obj} (hf:∀ o o',ORel B o o'→ORel B (f o) (g o')) :
  WRel B { w with heap:=w.heap.modify r f } { w' with heap:=w'.heap.modify r' g }:=by
 refine⟨fun a b hab=>?_,h.os,by simpa using h.big,by simpa using h.big'⟩
 obtain⟨o,o',h1,h2,ho⟩:=h.objs a b hab
 simp only[Js,h1,h2]
 by_cases e:r=a
 ·subst e
  obtain rfl:=B.left hr hab
  simp only[if_true,Option.map_some]
  exact⟨_,_,rfl,rfl,hf _ _ ho⟩
 ·have e':¬ r'=b:=fun e'=>e (by subst e';exact B.right hr hab)
  simp only[e,e',if_false]
  exact⟨_,_,rfl,rfl,ho⟩
theorem WRel.setCell (h:WRel B w w') {a a':Addr} (ha:AR B a a') {v v':Value} (hv:VRel B v v'):WRel B (w.setCell a v) (w'.setCell a' v'):=by
 unfold World.setCell
 refine WRel.modify h ha.block fun o o' ho=>?_
 cases ho with
 | cells t m x =>
  rw[ha.spot,ha.off]
  refine .cells t m ?_
  split
  ·exact x
  ·exact x.set _ hv
 | map k x=>exact .map k x
 | chan n c s r t x=>exact .chan n c s r t x
 | stringIter s p=>exact .stringIter s p
 | mapIter s n k x=>exact .mapIter s n k x
 | loop x=>exact .loop x
 | deferred x=>exact .deferred x
 | number l x=>exact .number l x
theorem WRel.setObj (h:WRel B w w') {r r':Nat} (hr:B r r') {o o':Obj} (ho:ORel B o o') :
  WRel B { w with heap:=w.heap.setIfInBounds r o } { w' with heap:=w'.heap.setIfInBounds r' o' }:=by
 refine⟨fun a b hab=>?_,h.os,by simpa using h.big,by simpa using h.big'⟩
 obtain⟨x,x',h1,h2,hx⟩:=h.objs a b hab
 obtain⟨lr,lr'⟩:=h.lt hr
 by_cases e:r=a
 ·subst e
  obtain rfl:=B.left hr hab
  exact⟨o,o',by simp[lr],by simp[lr'],ho⟩
 ·have e':¬ r'=b:=fun e'=>e (by subst e';exact B.right hr hab)
  exact⟨x,x',by simp[Array.getElem?_setIfInBounds_ne e,h1],by simp[Array.getElem?_setIfInBounds_ne e',h2],hx⟩
def WRel.more (h:WRel B w w'):Ren where
 rel a b:=B a b∨(a=w.heap.size∧b=w'.heap.size)
 ok:=B.ok
 okF:=B.okF
 has:=B.has
 glob:=B.glob
 out:=B.out
 side:=fun {a b} x=>by
  rcases x with x|⟨rfl,rfl⟩
  ·exact B.side x
  ·have:=h.big;have:=h.big';omega
 left:=fun {a b c} x y=>by
  rcases x with x|⟨rfl,rfl⟩<;>rcases y with y|⟨e,e'⟩
  ·exact B.left x y
  ·have:=(h.lt x).1;omega
  ·have:=(h.lt y).1;omega
  ·exact e'.symm
 right:=fun {a b c} x y=>by
  rcases x with x|⟨rfl,rfl⟩<;>rcases y with y|⟨e,e'⟩
  ·exact B.right x y
  ·have:=(h.lt x).2;omega
  ·have:=(h.lt y).2;omega
  ·exact e.symm
theorem WRel.le_more (h:WRel B w w'):B.le h.more:=⟨fun _ _ x=>.inl x,rfl,rfl,rfl,rfl,rfl⟩
theorem WRel.up_more (h:WRel B w w'):B.up h.more w.heap.size w'.heap.size:=⟨h.le_more,fun a b x=>by
 rcases x with x|⟨rfl,rfl⟩
 ·exact .inl x
 ·exact .inr ⟨Nat.le_refl _,Nat.le_refl _⟩⟩
theorem WRel.new (h:WRel B w w') {o o':Obj} (ho:ORel B o o') :
  WRel h.more { w with heap:=w.heap.push o } { w' with heap:=w'.heap.push o' }:=by
 refine⟨fun a b hab=>?_,h.os,?_,?_⟩
 rotate_left
 ·have:=h.big;show B.glob≤(w.heap.push o).size;simp;omega
 ·have:=h.big';show B.glob≤(w'.heap.push o').size;simp;omega
 rcases hab with hab|⟨rfl,rfl⟩
 ·obtain⟨x,x',h1,h2,hx⟩:=h.objs a b hab
  obtain⟨l1,l2⟩:=h.lt hab
  refine⟨x,x',?_,?_,hx.mono (h.le_more)⟩
  ·show (w.heap.push o)[a]?=_
   rw[Array.getElem?_push_lt l1,← h1];simp[l1]
  ·show (w'.heap.push o')[b]?=_
   rw[Array.getElem?_push_lt l2,← h2];simp[l2]
 ·exact⟨o,o',by simp,by simp,ho.mono (h.le_more)⟩
theorem WRel.taped (h:WRel B w w') (t t':Nat→Question→Nat) (d d':Nat):WRel B { w with tape:=t,drawn:=d } { w' with tape:=t',drawn:=d' }:=⟨h.objs,h.os,h.big,h.big'⟩
end
abbrev EsR (B:Ren):=Rows (EvR B)
def ja (w:World) (b:Nat):Prop:=∃ c t m,w.heap[b]?=some (.cells c t m)∧∀ i,i<c.size→m.1≤i∧i<m.2
structure Calm (w w1:World):Prop where
 os:w1.os=w.os
 output:w1.output=w.output
 tape:w1.tape=w.tape
theorem Calm.refl (w:World):Calm w w:=⟨rfl,rfl,rfl⟩
theorem Calm.trans {w v w1:World} (h:Calm w v) (k:Calm v w1):Calm w w1:=⟨k.os.trans h.os,k.output.trans h.output,k.tape.trans h.tape⟩
structure Frames (w w1:World) (es:Array Event):Prop where
 size:w.heap.size≤w1.heap.size
 os:Calm w w1
 same:∀ b,b<w.heap.size→(∀ e∈es.toList,e.write=true→(∀ a,e.loc=.cell a→a.block≠b)∧e.loc≠.obj b)→w1.heap[b]?=w.heap[b]?
theorem Frames.quiet {w v:World} {es:Array Event} (e:v.heap=w.heap) (eo:Calm w v:=by exact⟨rfl,rfl,rfl⟩):Frames w v es:=⟨by rw[e];exact Nat.le_refl _,eo,fun b _ _=>by rw[e]⟩
theorem Frames.of_heap {w v w1:World} {es:Array Event} (h:Frames v w1 es) (e:v.heap=w.heap) (eo:Calm w v:=by exact⟨rfl,rfl,rfl⟩):Frames w w1 es:=⟨by rw[← e];exact h.size,eo.trans h.os,fun b hb hq=>by rw[← e];exact h.same b (by rw[e];exact hb) hq⟩
theorem Frames.trans {w v w1:World} {d d':Array Event} (h:Frames w v d) (k:Frames v w1 d'):Frames w w1 (d++d'):=by
 refine⟨Nat.le_trans h.size k.size,h.os.trans k.os,fun b hb hq=>?_⟩
 have h1:=h.same b hb fun e he=>hq e (by rw[Array.toList_append];exact List.mem_append_left _ he)
 have h2:=k.same b (Nat.lt_of_lt_of_le hb h.size) fun e he=>hq e (by rw[Array.toList_append];exact List.mem_append_right _ he)
 exact h2.trans h1
theorem Frames.store {w:World} {a:Addr} {u:Value} {s:Bool} : Frames w (w.setCell a u) #[⟨.cell a,true,s⟩]:=by
 refine⟨by unfold World.setCell;simp,⟨rfl,rfl,rfl⟩,fun b _ hq=>?_⟩
 have:=(hq ⟨.cell a,true,s⟩ (by simp) rfl).1 a rfl
 unfold World.setCell
 simp only[Js,this,if_false]
theorem Frames.new {w:World} {o:Obj} : Frames w { w with heap:=w.heap.push o } #[]:=by
 refine⟨by simp,⟨rfl,rfl,rfl⟩,fun b hb _=>?_⟩
 show (w.heap.push o)[b]?=_
 rw[Array.getElem?_push_lt hb,Array.getElem?_eq_getElem hb]
theorem Frames.setObj {w:World} {r:Nat} {o:Obj} {s:Bool} : Frames w { w with heap:=w.heap.setIfInBounds r o } #[⟨.obj r,true,s⟩]:=by
 refine⟨by simp,⟨rfl,rfl,rfl⟩,fun b _ hq=>?_⟩
 have:=(hq ⟨.obj r,true,s⟩ (by simp) rfl).2
 exact Array.getElem?_setIfInBounds_ne (fun e=>this (by rw[e]))
structure Keeps (w w1:World) (es:Array Event):Prop where
 rows:∀ b,ja w b→ja w1 b∧∀ c t m,w.heap[b]?=some (.cells c t m)→∃ m1,w1.heap[b]?=some (.cells c t m1)
 evs:∀ e∈es.toList,e.write=true→∀ b,ja w b→(∀ a,e.loc=.cell a→a.block≠b)∧e.loc≠.obj b
 size:w.heap.size≤w1.heap.size
 same:∀ b,b<w.heap.size→(∀ e∈es.toList,e.write=true→(∀ a,e.loc=.cell a→a.block≠b)∧e.loc≠.obj b)→w1.heap[b]?=w.heap[b]?
theorem Keeps.of_heap {w v w1:World} {es:Array Event} (h:Keeps v w1 es) (e:v.heap=w.heap):Keeps w w1 es:=by
 have es':∀ b,ja w b→ja v b:=fun b ⟨c,t,m,h1,h2⟩=>⟨c,t,m,by rw[e];exact h1,h2⟩
 exact⟨fun b hb=>⟨(h.rows b (es' b hb)).1,fun c t m h1=>(h.rows b (es' b hb)).2 c t m (by rw[e];exact h1)⟩,fun x hx hw b hb=>h.evs x hx hw b (es' b hb),by rw[← e];exact h.size,fun b hb hq=>by rw[← e];exact h.same b (by rw[e];exact hb) hq⟩
theorem Keeps.trans {w v w1:World} {d d':Array Event} (h:Keeps w v d) (k:Keeps v w1 d'):Keeps w w1 (d++d'):=by
 refine⟨fun b hb=>⟨(k.rows b (h.rows b hb).1).1,fun c t m h1=>?_⟩,fun e he hw b hb=>?_,Nat.le_trans h.size k.size,fun b hb hq=>?_⟩
 rotate_right
 ·have h1:=h.same b hb fun e he=>hq e (by rw[Array.toList_append];exact List.mem_append_left _ he)
  have h2:=k.same b (Nat.lt_of_lt_of_le hb h.size) fun e he=>hq e (by rw[Array.toList_append];exact List.mem_append_right _ he)
  exact h2.trans h1
 ·obtain⟨m1,h2⟩:=(h.rows b hb).2 c t m h1
  exact (k.rows b (h.rows b hb).1).2 c t m1 h2
 ·rw[Array.toList_append,List.mem_append] at he
  rcases he with he|he
  ·exact h.evs e he hw b hb
  ·exact k.evs e he hw b (h.rows b hb).1
theorem Keeps.quiet {w v:World} {es:Array Event} (e:v.heap=w.heap) (hq:∀ x∈es.toList,x.write=true→(∀ a,x.loc≠.cell a)∧∀ r,x.loc≠.obj r):Keeps w v es:=by
 refine⟨fun b ⟨c,t,m,h1,h2⟩=>⟨⟨c,t,m,by rw[e];exact h1,h2⟩,fun c' t' m' h3=>⟨m',by rw[e];exact h3⟩⟩,fun x hx hw b _=>⟨fun a ha=>absurd ha ((hq x hx hw).1 a),(hq x hx hw).2 b⟩,by rw[e];exact Nat.le_refl _,fun b _ _=>by rw[e]⟩
theorem Keeps.refl (w:World):Keeps w w #[]:=.quiet rfl fun x hx=>by simp at hx
theorem Keeps.read {w v:World} {l:Loc} {s:Bool} (e:v.heap=w.heap):Keeps w v #[⟨l,false,s⟩]:=.quiet e fun x hx hw=>by
 simp only[List.mem_singleton] at hx
 subst hx
 cases hw
theorem sealed_frozen {w:World} {a:Addr} {b:Nat} (h:ja w b) (hb:a.block=b) {v:Value} (hv:w.cell? a=some v):w.frozen? a=true:=by
 obtain⟨c,t,m,h1,h2⟩:=h
 subst hb
 unfold World.cell? at hv
 rw[h1] at hv
 simp only at hv
 split at hv
 ·cases hv
 ·have hlt:a.off<c.size:=(Array.getElem?_eq_some_iff.1 hv).1
  unfold World.frozen?
  rw[h1]
  have:=h2 _ hlt
  obtain⟨lo,hi⟩:=m
  simpa using this
theorem Keeps.store {w:World} {a:Addr} {v u:Value} {s:Bool} (hv:w.cell? a=some v) (hf:w.frozen? a=false):Keeps w (w.setCell a u) #[⟨.cell a,true,s⟩]:=by
 have ne:∀ b,ja w b→a.block≠b:=fun b hb e=>by rw[sealed_frozen hb e hv] at hf;cases hf
 have heap:∀ b,ja w b→(w.setCell a u).heap[b]?=w.heap[b]?:=fun b hb=>by
  unfold World.setCell
  simp only[Js,ne b hb,if_false]
 refine⟨fun b hb=>?_,fun e he _ b hb=>?_,(Frames.store (s:=s)).size,(Frames.store (s:=s)).same⟩
 ·obtain⟨c,t,m,h1,h2⟩:=hb
  exact⟨⟨c,t,m,by rw[heap b ⟨c,t,m,h1,h2⟩];exact h1,h2⟩,fun c' t' m' h3=>⟨m',by rw[heap b ⟨c,t,m,h1,h2⟩];exact h3⟩⟩
 ·simp only[List.mem_singleton] at he
  subst he
  exact⟨fun a' e=>by cases e;exact ne b hb,by simp⟩
theorem Keeps.new {w:World} {o:Obj} : Keeps w { w with heap:=w.heap.push o } #[]:=by
 have heap:∀ (b:Nat) x,w.heap[b]?=some x→(w.heap.push o)[b]?=some x:=fun b x h=>by
  have hlt:=(Array.getElem?_eq_some_iff.1 h).1
  rw[Array.getElem?_push_lt hlt]
  rw[Array.getElem?_eq_getElem hlt] at h
  exact h
 exact⟨fun b ⟨c,t,m,h1,h2⟩=>⟨⟨c,t,m,heap b _ h1,h2⟩,fun c' t' m' h3=>⟨m',heap b _ h3⟩⟩,fun x hx=>by simp at hx,Frames.new.size,Frames.new.same⟩
theorem Keeps.setObj {w:World} {r:Nat} {x o:Obj} {s:Bool} (h:w.heap[r]?=some x) (hx:∀ c t m,x≠.cells c t m):Keeps w { w with heap:=w.heap.setIfInBounds r o } #[⟨.obj r,true,s⟩]:=by
 have ne:∀ b,ja w b→r≠b:=fun b ⟨c,t,m,h1,_⟩ e=>by subst e;rw[h] at h1;cases h1;exact hx _ _ _ rfl
 have heap:∀ b,ja w b→(w.heap.setIfInBounds r o)[b]?=w.heap[b]?:=fun b hb=>Array.getElem?_setIfInBounds_ne (ne b hb)
 refine⟨fun b hb=>?_,fun e he _ b hb=>?_,(Frames.setObj (s:=s)).size,(Frames.setObj (s:=s)).same⟩
 ·obtain⟨c,t,m,h1,h2⟩:=hb
  exact⟨⟨c,t,m,by show (w.heap.setIfInBounds r o)[b]?=_;rw[heap b ⟨c,t,m,h1,h2⟩];exact h1,h2⟩,fun c' t' m' h3=>⟨m',by show (w.heap.setIfInBounds r o)[b]?=_;rw[heap b ⟨c,t,m,h1,h2⟩];exact h3⟩⟩
 ·simp only[List.mem_singleton] at he
  subst he
  exact⟨fun a' e=>by simp at e,by simp only[ne_eq,Loc.obj.injEq];exact ne b hb⟩
def Agrees (t t0:Nat→Question→Nat) (a b:Nat):Prop:=∀ d,a≤d→d<b→t d=t0 d
section
variable {P P':Program} {α α':Type} {R:Ren→α→α'→Prop}
theorem zeD {B:Ren} {a a':Addr} (h:AR B a a') (x y:Bool):EvR B ⟨.cell a,x,y⟩ ⟨.cell a',x,y⟩:=⟨.cell h,rfl,rfl⟩
theorem evObj {B:Ren} {r r':Nat} (h:B r r') (x:Bool) {y y':Bool} (e:y'=y):EvR B ⟨.obj r,x,y⟩ ⟨.obj r',x,y'⟩:=⟨.obj h,rfl,e⟩
theorem evMark {B:Ren} {m m':Mark} (h:MR B m m') (x y:Bool):EvR B ⟨.mark m,x,y⟩ ⟨.mark m',x,y⟩:=⟨.mark h,rfl,rfl⟩
theorem noFar_load {B:Ren} {w w':World} (h:WRel B w w') {a a':Addr} (ha:AR B a a') (p:Program) (at_:Bool) (_hn:w.cell? a=none):∃ hl,w.farLoad p a at_=.error hl∧hl.bad:=by
 obtain⟨o,o',h1,h2,ho⟩:=h.objs _ _ ha.block
 unfold World.farLoad World.noCell
 rw[h1]
 cases ho<;>exact⟨_,rfl,trivial⟩
theorem noFar_store {B:Ren} {w w':World} (h:WRel B w w') {a a':Addr} (ha:AR B a a') (p:Program) (v:Value) (at_:Bool):∃ hl,w.farStore p a v at_=.error hl∧hl.bad:=by
 obtain⟨o,o',h1,h2,ho⟩:=h.objs _ _ ha.block
 unfold World.farStore World.noCell
 rw[h1]
 cases ho<;>exact⟨_,rfl,trivial⟩
theorem ORel.isCells {B:Ren} {o o':Obj} (h:ORel B o o'):(∃ c t fr c' fr',o=.cells c t fr∧o'=.cells c' t fr')∨((∀ c t fr,o≠.cells c t fr)∧(∀ c t fr,o'≠.cells c t fr)):=by
 cases h with
 | cells t m x=>exact .inl ⟨_,_,_,_,_,rfl,rfl⟩
 | _=>exact .inr ⟨by intros;simp,by intros;simp⟩
theorem ORel.isChan {B:Ren} {o o':Obj} (h:ORel B o o'):o'.isChan=o.isChan:=by cases h<;>rfl
theorem Doomed.run {s:Sem α} (h:Doomed P s):∀ (w:World) es,∃ hl w1 es1,s.runT P w es=(.halt hl w1,es1)∧hl.bad:=by
 induction h with
 | halt h=>exact fun w es=>⟨_,w,es,rfl,h⟩
 | new _ ih=>exact fun w es=>ih _ _ _
 | @choose q k _ ih =>
  intro w es
  simp only[Sem.runT]
  split
  ·exact ih _ _ _
  ·exact ih _ _ _
 | program _ ih=>exact fun w es=>ih _ _
 | mark _ ih=>exact fun w es=>ih _ _
 | sys _ ih=>exact fun w es=>ih _ _ _
 | shape _ ih=>exact fun w es=>ih _ _ _
 | frozen _ ih=>exact fun w es=>ih _ _ _
def Halts (P:Program) (s:Sem α) (w:World) (es:Array Event):Prop:=∃ hl w1 es1,s.runT P w es=(.halt hl w1,es1)∧hl.bad
structure Ends (P P':Program) (R:Ren→α→α'→Prop) (B:Ren) (s:Sem α) (s':Sem α') (w w':World) (es es':Array Event) (t0:Nat→Question→Nat) (n:Nat) (C:Ren) (a : α) (a' : α') (w1 w1':World) (d d':Array Event):Prop where
 left:∀ t,Agrees t t0 w.drawn n→s.runT P { w with tape:=t } es=(.ok a { w1 with tape:=t },es++d)
 right:s'.runT P' w' es'=(.ok a' w1',es'++d')
 up:B.up C w.heap.size w'.heap.size
 rel:R C a a'
 mem:WRel C w1 w1'
 drawn:w1.drawn=n
 evs:EsR C d d'
 keeps:Keeps w w1 d
 frames:Frames w' w1' d'
structure Panics (P P':Program) (B:Ren) (s:Sem α) (s':Sem α') (w w':World) (es es':Array Event) (t0:Nat→Question→Nat) (n:Nat) (C:Ren) (a a':Value) (w1 w1':World) (d d':Array Event):Prop where
 left:∀ t,Agrees t t0 w.drawn n→s.runT P { w with tape:=t } es=(.halt (.panic a) { w1 with tape:=t },es++d)
 right:s'.runT P' w' es'=(.halt (.panic a') w1',es'++d')
 up:B.up C w.heap.size w'.heap.size
 rel:VRel C a a'
 mem:WRel C w1 w1'
 drawn:w1.drawn=n
 evs:EsR C d d'
 keeps:Keeps w w1 d
 frames:Frames w' w1' d'
theorem Ends.le {B:Ren} {s:Sem α} {s':Sem α'} {w w':World} {es es':Array Event} {t0:Nat→Question→Nat} {n:Nat} {C:Ren} {a : α} {a' : α'} {w1 w1':World} {d d':Array Event} (h:Ends P P' R B s s' w w' es es' t0 n C a a' w1 w1' d d'):B.le C:=h.up.le
theorem Panics.le {B:Ren} {s:Sem α} {s':Sem α'} {w w':World} {es es':Array Event} {t0:Nat→Question→Nat} {n:Nat} {C:Ren} {a a':Value} {w1 w1':World} {d d':Array Event} (h:Panics P P' B s s' w w' es es' t0 n C a a' w1 w1' d d'):B.le C:=h.up.le
def RunsR (P P':Program) (R:Ren→α→α'→Prop) (B:Ren) (s:Sem α) (s':Sem α') (w w':World) (es es':Array Event):Prop:=
 ∃ (t0:Nat→Question→Nat) (n:Nat),w.drawn≤n∧((∀ t,Agrees t t0 w.drawn n→Halts P s { w with tape:=t } es) ∨
  (∃ C a a' w1 w1' d d',Ends P P' R B s s' w w' es es' t0 n C a a' w1 w1' d d')∨∃ C a a' w1 w1' d d',Panics P P' B s s' w w' es es' t0 n C a a' w1 w1' d d')
theorem RunsR.bad {B:Ren} {s:Sem α} {s':Sem α'} {w w':World} {es es':Array Event} (h:∀ t:Nat→Question→Nat,Halts P s { w with tape:=t } es):RunsR P P' R B s s' w w' es es':=
 ⟨w.tape,w.drawn,Nat.le_refl _,.inl fun t _=>h t⟩
theorem RunsR.on {B C:Ren} {s k:Sem α} {s' k':Sem α'} {w w' v v':World} {es es' u u':Array Event} (h:RunsR P P' R C k k' v v' (es++u) (es'++u')) (hd:v.drawn=w.drawn) (hk:Keeps w v u) (hf:Frames w' v' u')
  (hl:B.up C w.heap.size w'.heap.size) (hu:EsR C u u') (e1:∀ t:Nat→Question→Nat,s.runT P { w with tape:=t } es=k.runT P { v with tape:=t } (es++u)) (e2:s'.runT P' w' es'=k'.runT P' v' (es'++u')):RunsR P P' R B s s' w w' es es':=by
 obtain⟨t0,n,hn,h⟩:=h
 refine⟨t0,n,by rw[← hd];exact hn,?_⟩
 rcases h with h|⟨D,a,a',w1,w1',d,d',h⟩|⟨D,a,a',w1,w1',d,d',h⟩
 ·exact .inl fun t ht=>by unfold Halts;rw[e1 t];exact h t (by rw[hd];exact ht)
 ·exact .inr (.inl ⟨D,a,a',w1,w1',u++d,u'++d',⟨fun t ht=>by rw[e1 t,h.left t (by rw[hd];exact ht),Array.append_assoc],by rw[e2,h.right,Array.append_assoc],hl.trans h.up hk.size hf.size,h.rel,h.mem,h.drawn,(hu.mono fun _ _=>EvR.mono h.le).append h.evs,hk.trans h.keeps,hf.trans h.frames⟩⟩)
 ·exact .inr (.inr ⟨D,a,a',w1,w1',u++d,u'++d',⟨fun t ht=>by rw[e1 t,h.left t (by rw[hd];exact ht),Array.append_assoc],by rw[e2,h.right,Array.append_assoc],hl.trans h.up hk.size hf.size,h.rel,h.mem,h.drawn,(hu.mono fun _ _=>EvR.mono h.le).append h.evs,hk.trans h.keeps,hf.trans h.frames⟩⟩)
theorem RunsR.on0 {B C:Ren} {s k:Sem α} {s' k':Sem α'} {w w' v v':World} {es es':Array Event} (h:RunsR P P' R C k k' v v' es es') (hd:v.drawn=w.drawn) (hk:Keeps w v #[]) (hf:Frames w' v' #[])
  (hl:B.up C w.heap.size w'.heap.size) (e1:∀ t:Nat→Question→Nat,s.runT P { w with tape:=t } es=k.runT P { v with tape:=t } es) (e2:s'.runT P' w' es'=k'.runT P' v' es'):RunsR P P' R B s s' w w' es es':=
 RunsR.on (u:=#[]) (u':=#[]) (by simpa using h) hd hk hf hl Rows.empty (by simpa using e1) (by simpa using e2)
theorem RunsR.on1 {B:Ren} {s k:Sem α} {s' k':Sem α'} {w w' v v':World} {es es':Array Event} {e e':Event} (h:RunsR P P' R B k k' v v' (es.push e) (es'.push e')) (hd:v.drawn=w.drawn) (hk:Keeps w v #[e]) (hf:Frames w' v' #[e'])
  (hu:EvR B e e') (e1:∀ t:Nat→Question→Nat,s.runT P { w with tape:=t } es=k.runT P { v with tape:=t } (es.push e)) (e2:s'.runT P' w' es'=k'.runT P' v' (es'.push e')):RunsR P P' R B s s' w w' es es':=
 RunsR.on (u:=#[e]) (u':=#[e']) (by simpa using h) hd hk hf (.refl _ _ _) (Rows.one hu) (by simpa using e1) (by simpa using e2)
theorem SRel.run {B:Ren} {s:Sem α} {s':Sem α'} (h:SRel P P' R B s s'):∀ {w w':World},WRel B w w'→∀ es es',RunsR P P' R B s s' w w' es es':=by
 induction h with
 | @pure B a a' h =>
  intro w w' hw es es'
  exact⟨w.tape,w.drawn,Nat.le_refl _,.inr (.inl ⟨B,a,a',w,w',#[],#[],⟨fun t _=>by simp[Sem.runT],by simp[Sem.runT],.refl _ _ _,h,hw,rfl,Rows.empty,.refl w,.quiet rfl⟩⟩)⟩
 | @load B m a a' k k' ha _ ih =>
  intro w w' hw es es'
  have hc:=hw.cell ha
  cases hx:w.cell? a with
  | none =>
   refine .bad fun t=>?_
   obtain⟨hl,e,hb⟩:=noFar_load (hw.taped t w'.tape w.drawn w'.drawn) ha P (m==.atomic) hx
   refine⟨hl,{ w with tape:=t },es,?_,hb⟩
   simp only[Sem.runT]
   rw[show ({ w with tape:=t } : World).cell? a=none from hx]
   simp only[e]
  | some v =>
   rw[hx] at hc
   generalize e:w'.cell? a'=y at hc
   cases hc with
   | @some _ v' hv =>
    refine (ih _ _ hv hw (es.push ⟨.cell a,false,m==.atomic⟩) (es'.push ⟨.cell a',false,m==.atomic⟩)).on1 rfl (.read rfl) (.quiet rfl) (zeD ha _ _) (fun t=>?_) ?_
    ·simp only[Sem.runT]
     rw[show ({ w with tape:=t } : World).cell? a=some v from hx]
    ·simp only[Sem.runT]
     rw[e]
 | @store B m a a' v v' k k' ha hv _ ih =>
  intro w w' hw es es'
  have key:∀ u u':Value,(∀ c,u≠.agg c)→(∀ c,u≠.tuple c)→VRel B u u'→RunsR P P' R B (Sem.store m a u k) (Sem.store m a' u' k') w w' es es':=by
   intro u u' n1 n2 hu
   have n1':∀ c,u'≠.agg c:=fun c e=>by subst e;cases hu<;>first|exact n1 _ rfl|exact n2 _ rfl
   have n2':∀ c,u'≠.tuple c:=fun c e=>by subst e;cases hu<;>exact n2 _ rfl
   have e1:∀ w:World,(Sem.store m a u k).runT P w es=(match w.cell? a with
    | some _=>if w.frozen? a then (.halt (.unsupported (.unsafePointer "a write to bytes that a string shares")) w,es) else k.runT P (w.setCell a u) (es.push ⟨.cell a,true,m==.atomic⟩)
    | none=>match w.farStore P a u (m==.atomic) with
     | .ok (w,touched)=>k.runT P w (es++touched.toArray.map (⟨.cell ·,true,m==.atomic⟩))
     | .error h=>(.halt h w,es)):=by
    intro w
    cases u<;>first|rfl|exact absurd rfl (n1 _)|exact absurd rfl (n2 _)
   have e2:(Sem.store m a' u' k').runT P' w' es'=(match w'.cell? a' with
    | some _=>if w'.frozen? a' then (.halt (.unsupported (.unsafePointer "a write to bytes that a string shares")) w',es') else k'.runT P' (w'.setCell a' u') (es'.push ⟨.cell a',true,m==.atomic⟩)
    | none=>match w'.farStore P' a' u' (m==.atomic) with
     | .ok (w,touched)=>k'.runT P' w (es'++touched.toArray.map (⟨.cell ·,true,m==.atomic⟩))
     | .error h=>(.halt h w',es')):=by
    cases u'<;>first|rfl|exact absurd rfl (n1' _)|exact absurd rfl (n2' _)
   have hc:=hw.cell ha
   cases hx:w.cell? a with
   | none =>
    refine .bad fun t=>?_
    obtain⟨hl,e,hb⟩:=noFar_store (hw.taped t w'.tape w.drawn w'.drawn) ha P u (m==.atomic)
    refine⟨hl,{ w with tape:=t },es,?_,hb⟩
    rw[e1,show ({ w with tape:=t } : World).cell? a=none from hx]
    simp only[e]
   | some x =>
    rw[hx] at hc
    generalize ey:w'.cell? a'=y at hc
    cases hc with
    | some hxy =>
     cases hz:w.frozen? a with
     | true =>
      refine .bad fun t=>⟨.unsupported (.unsafePointer "a write to bytes that a string shares"),{ w with tape:=t },es,?_,trivial⟩
      rw[e1,show ({ w with tape:=t } : World).cell? a=some x from hx]
      simp only[show ({ w with tape:=t } : World).frozen? a=true from hz,if_true]
     | false =>
      have hz':w'.frozen? a'=false:=by
       cases hq:w'.frozen? a' with
       | false=>rfl
       | true=>rw[hw.frozen ha hq] at hz;cases hz
      refine (ih (hw.setCell ha hu) (es.push ⟨.cell a,true,m==.atomic⟩) (es'.push ⟨.cell a',true,m==.atomic⟩)).on1 rfl (.store hx hz) .store (zeD ha _ _) (fun t=>?_) ?_
      ·rw[e1,show ({ w with tape:=t } : World).cell? a=some x from hx]
       simp only[show ({ w with tape:=t } : World).frozen? a=false from hz,Bool.false_eq_true,if_false]
       rfl
      ·rw[e2,ey]
       simp only[hz',Bool.false_eq_true,if_false]
  cases v with
  | agg c=>exact .bad fun t=>⟨_,_,_,rfl,trivial⟩
  | tuple c=>exact .bad fun t=>⟨_,_,_,rfl,trivial⟩
  | _=>exact key _ _ (by intros;simp) (by intros;simp) hv
 | @new B o o' k k' ho _ ih =>
  intro w w' hw es es'
  exact (ih _ w.heap.size w'.heap.size hw.le_more (.inr ⟨rfl,rfl⟩) (hw.new ho) es es').on0 rfl .new .new hw.up_more (fun t=>rfl) rfl
 | @shape B r r' k k' hr _ ih =>
  intro w w' hw es es'
  exact (ih (w.shape? r) hw es es').on0 rfl (.refl w) (.quiet rfl) (.refl _ _ _) (fun t=>rfl) (by simp only[Sem.runT,hw.shape hr])
 | @frozen B a a' k k' ha _ ih =>
  intro w w' hw es es'
  exact (ih (w.frozen? a) (w'.frozen? a') (hw.frozen ha) hw es es').on0 rfl (.refl w) (.quiet rfl) (.refl _ _ _) (fun t=>rfl) rfl
 | @shapeR B s r' k' _ ih =>
  intro w w' hw es es'
  exact (ih (w'.shape? r') hw es es').on0 rfl (.refl w) (.quiet rfl) (.refl _ _ _) (fun t=>rfl) rfl
 | @frozenR B s a' k' _ ih =>
  intro w w' hw es es'
  exact (ih (w'.frozen? a') hw es es').on0 rfl (.refl w) (.quiet rfl) (.refl _ _ _) (fun t=>rfl) rfl
 | @getObj B r r' k k' hr _ ih =>
  intro w w' hw es es'
  obtain⟨o,o',h1,h2,ho⟩:=hw.objs _ _ hr
  rcases ho.isCells with ⟨c,t,fr,c',fr',rfl,rfl⟩|⟨n1,n2⟩
  ·exact .bad fun t=>⟨.stuck "getObj: a row of cells",{ w with tape:=t },es,by simp only[Sem.runT,h1],trivial⟩
  ·refine (ih _ _ ho hw (es.push ⟨.obj r,false,o.isChan⟩) (es'.push ⟨.obj r',false,o'.isChan⟩)).on1 rfl (.read rfl) (.quiet rfl) (evObj hr _ ho.isChan) (fun t=>?_) ?_
   ·simp only[Sem.runT,h1]
   ·simp only[Sem.runT,h2]
 | @setObj B r r' o o' k k' hr ho _ ih =>
  intro w w' hw es es'
  obtain⟨x,x',h1,h2,hx⟩:=hw.objs _ _ hr
  rcases hx.isCells with ⟨c,t,fr,c',fr',rfl,rfl⟩|⟨n1,n2⟩
  ·exact .bad fun t=>⟨.stuck "setObj: a row of cells",{ w with tape:=t },es,by simp only[Sem.runT,h1],trivial⟩
  ·refine (ih (hw.setObj hr ho) (es.push ⟨.obj r,true,o.isChan⟩) (es'.push ⟨.obj r',true,o'.isChan⟩)).on1 rfl (.setObj h1 n1) .setObj (evObj hr _ ho.isChan) (fun t=>?_) ?_
   ·simp only[Sem.runT,h1]
   ·simp only[Sem.runT,h2]
 | @choose B q k k' _ ih =>
  intro w w' hw es es'
  cases hq:q.forced with
  | true=>exact (ih 0 hw es es').on0 rfl (.refl w) (.quiet rfl) (.refl _ _ _) (fun t=>by simp only[Sem.runT,hq,if_true]) (by simp only[Sem.runT,hq,if_true])
  | false =>
   have hdr:=hw.taped w.tape w'.tape (w.drawn+1) (w'.drawn+1)
   obtain⟨t0,n,hn,h⟩:=ih (q.cut (w'.tape w'.drawn q)) hdr es es'
   have hn':w.drawn+1≤n:=hn
   have one:∀ t,Agrees t (fun d=>if d=w.drawn then w'.tape w'.drawn else t0 d) w.drawn n→Agrees t t0 (w.drawn+1) n ∧
     (Sem.choose q k).runT P { w with tape:=t } es=(k (q.cut (w'.tape w'.drawn q))).runT P { w with tape:=t,drawn:=w.drawn+1 } es:=by
    intro t ht
    refine⟨fun d a b=>?_,?_⟩
    ·rw[ht d (by omega) b]
     exact if_neg (by omega)
    ·simp only[Sem.runT,hq,Bool.false_eq_true,if_false]
     rw[ht w.drawn (Nat.le_refl _) hn']
     simp only[if_true]
   refine⟨fun d=>if d=w.drawn then w'.tape w'.drawn else t0 d,n,by omega,?_⟩
   rcases h with h|⟨D,a,a',w1,w1',d,d',h⟩|⟨D,a,a',w1,w1',d,d',h⟩
   ·exact .inl fun t ht=>by unfold Halts;rw[(one t ht).2];exact h t (one t ht).1
   ·exact .inr (.inl ⟨D,a,a',w1,w1',d,d',⟨fun t ht=>by rw[(one t ht).2];exact h.left t (one t ht).1,by simp only[Sem.runT,hq,Bool.false_eq_true,if_false];exact h.right,h.up,h.rel,h.mem,h.drawn,h.evs,h.keeps.of_heap rfl,h.frames.of_heap rfl⟩⟩)
   ·exact .inr (.inr ⟨D,a,a',w1,w1',d,d',⟨fun t ht=>by rw[(one t ht).2];exact h.left t (one t ht).1,by simp only[Sem.runT,hq,Bool.false_eq_true,if_false];exact h.right,h.up,h.rel,h.mem,h.drawn,h.evs,h.keeps.of_heap rfl,h.frames.of_heap rfl⟩⟩)
 | @chooseL B q m r k s' hq hr _ ih =>
  intro w w' hw es es'
  have hdr:=hw.taped w.tape w'.tape (w.drawn+1) w'.drawn
  obtain⟨t0,n,hn,h⟩:=ih hdr es es'
  have hn':w.drawn+1≤n:=hn
  have one:∀ t,Agrees t (fun d=>if d=w.drawn then fun _=>r else t0 d) w.drawn n→Agrees t t0 (w.drawn+1) n ∧
    (Sem.choose q k).runT P { w with tape:=t } es=(k m).runT P { w with tape:=t,drawn:=w.drawn+1 } es:=by
   intro t ht
   refine⟨fun d a b=>?_,?_⟩
   ·rw[ht d (by omega) b]
    exact if_neg (by omega)
   ·simp only[Sem.runT,hq,Bool.false_eq_true,if_false]
    rw[ht w.drawn (Nat.le_refl _) hn']
    simp only[if_true,hr]
  refine⟨fun d=>if d=w.drawn then fun _=>r else t0 d,n,by omega,?_⟩
  rcases h with h|⟨D,a,a',w1,w1',d,d',h⟩|⟨D,a,a',w1,w1',d,d',h⟩
  ·exact .inl fun t ht=>by unfold Halts;rw[(one t ht).2];exact h t (one t ht).1
  ·exact .inr (.inl ⟨D,a,a',w1,w1',d,d',⟨fun t ht=>by rw[(one t ht).2];exact h.left t (one t ht).1,h.right,h.up,h.rel,h.mem,h.drawn,h.evs,h.keeps.of_heap rfl,h.frames.of_heap rfl⟩⟩)
  ·exact .inr (.inr ⟨D,a,a',w1,w1',d,d',⟨fun t ht=>by rw[(one t ht).2];exact h.left t (one t ht).1,h.right,h.up,h.rel,h.mem,h.drawn,h.evs,h.keeps.of_heap rfl,h.frames.of_heap rfl⟩⟩)
 | @program B k k' _ ih =>
  intro w w' hw es es'
  exact (ih hw es es').on0 rfl (.refl w) (.quiet rfl) (.refl _ _ _) (fun t=>rfl) rfl
 | @mark B m m' k k' hm _ ih =>
  intro w w' hw es es'
  exact (ih hw (es.push ⟨.mark m,false,true⟩) (es'.push ⟨.mark m',false,true⟩)).on1 rfl (.read rfl) (.quiet rfl) (evMark hm _ _) (fun t=>rfl) rfl
 | @doomed B s s' hd =>
  intro w w' hw es es'
  exact .bad fun t=>hd.run _ _
 | @env B k k' hout _ ih =>
  intro w w' hw es es'
  have e:∀ w:World,w.sys .env=((w.sys .env).1,w):=fun w=>rfl
  have e2:(w'.sys .env).1=(w.sys .env).1:=by
   show (World.ask w' (Kernel.perform .env w'.os)).1.1=(World.ask w (Kernel.perform .env w.os)).1.1
   rw[hw.os]
   rfl
  refine (ih (w.sys .env).1 hw (es.push ⟨.output,true,false⟩) (es'.push ⟨.output,true,false⟩)).on1 rfl (.quiet rfl fun x hx _=>by simp only[List.mem_singleton] at hx;subst hx;exact⟨by intros;simp,by intros;simp⟩) (.quiet rfl) ⟨.output hout,rfl,rfl⟩ (fun t=>rfl) ?_
  show (k' (w'.sys .env).1).runT P' (w'.sys .env).2 _=_
  rw[e2]
  rfl
 | @panic B a a' h =>
  intro w w' hw es es'
  exact⟨w.tape,w.drawn,Nat.le_refl _,.inr (.inr ⟨B,a,a',w,w',#[],#[],⟨fun t _=>by simp[Sem.runT],by simp[Sem.runT],.refl _ _ _,h,hw,rfl,Rows.empty,.refl w,.quiet rfl⟩⟩)⟩
 | @bad B h s' hb =>
  intro w w' hw es es'
  exact .bad fun t=>⟨_,_,_,rfl,hb⟩
end
end Go.Par
