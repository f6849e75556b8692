/- One goroutine's step, run beside itself. The goroutine's step, case by case. -/
import Derived.Test.YtlgiofglcgbjgaaM05
namespace Go.Par
open Go
section
def zaa:ResultVar→Tmp
 | .tmp t=>t
 | .cell a _=>a
structure Two (P:Program) (fs:Array Func) (F:FuncId→Prop) (Lf:FuncId→Lic):Prop where
 types:TypesOk P.toTables
 rows:RowsOk P fs
 size:fs.size=P.funcs.size
 other:∀ f,¬ F f→fs[f]?=P.funcs[f]?
 results:∀ f:Nat,(fs[f]?).map (·.results)=(P.funcs[f]?).map (·.results)
 live:∀ (f:Nat) fn,P.funcs[f]?=some fn→∀ x∈fn.results,¬ (Lf f).d (zaa x)
 lost:∀ f:Nat,P.funcs[f]?=none→¬ (Lf f).d 0
 code:∀ (f:Nat) fn c,¬ F f→P.funcs[f]?=some fn→fn.body=some c→qs P (Lf f) c
 norace:∀ f:Nat,(fs[f]?).any (fun x:Func=>x.norace)=(P.funcs[f]?).any (fun x:Func=>x.norace)
structure Fit (P:Program) (Lf:FuncId→Lic) (B:Ren):Prop where
 based:Based P B
 ok:B.ok=qs P Lic.loop
 okF:B.okF=fun f=>Lf f=Lic.loop
 out:∀ f,(Lf f).p→B.out
 has:∀ f:Nat,B.has f→∃ fn,P.funcs[f]?=some fn∧fn.body.isNone=false
theorem Fit.mono {P:Program} {Lf:FuncId→Lic} {B C:Ren} (h:Fit P Lf B) (l:B.le C):Fit P Lf C:=⟨h.based.mono l,l.ok.trans h.ok,l.okF.trans h.okF,fun f hp=>by rw[l.out];exact h.out f hp,fun f hp=>h.has f (by rw[← l.has];exact hp)⟩
inductive TopR (P:Program) (fs:Array Func) (F:FuncId→Prop) (Lf:FuncId→Lic) (B:Ren):Frame→Frame→Prop
 | frame {f f'} : f.kind≠.early→f'.kind≠.early→FrameR P Lf B f f'→TopR P fs F Lf B f f'
 | enter (f k k') {a a'} : F f→B.has f→k≠.early→k'≠.early→VsRel B a a'→TopR P fs F Lf B (Frame.enter P f a k) (Frame.enter (swap P fs) f a' k')
structure BelowR (P:Program) (Lf:FuncId→Lic) (B:Ren) (f f':Frame):Prop where
 late:f.kind≠.early
 late':f'.kind≠.early
 rel:FrameR P Lf B f f'
theorem BelowR.mono {P:Program} {Lf:FuncId→Lic} {B C:Ren} (h:B.le C) {f f'} (x:BelowR P Lf B f f'):BelowR P Lf C f f':=⟨x.late,x.late',x.rel.mono h⟩
def Kinds (k0:CallKind):Frame→List Frame→Frame→List Frame→Prop
 | f,[],f',[]=>f.roundOf=none∧f.kind=.normal∧f'.kind=k0
 | f,c::cs,f',c'::cs'=>f'.kind=f.kind∧Kinds k0 c cs c' cs'
 | _,_,_,_=>False
structure Low (bot rest:List Frame):Prop where
 left:∀ f:Frame,f.kind=.normal→tryRecover f bot=none
 right:∀ f,tryRecover f rest=none
structure GRel (P:Program) (fs:Array Func) (F:FuncId→Prop) (Lf:FuncId→Lic) (k0:CallKind) (rest:List Frame) (bot:List Frame) (B:Ren) (g g':Goroutine):Prop where
 frame:TopR P fs F Lf B g.frame g'.frame
 callers:∃ cs cs',g.callers=cs++bot∧g'.callers=cs'++rest∧LR (BelowR P Lf B) cs cs'∧Kinds k0 g.frame cs g'.frame cs'
 status:g.status=.running
 status':g'.status=.running
 dying:g.dying=none
 dying':g'.dying=none
 offers:g.offers=none
 offers':g'.offers=none
structure Seals (w w1:World) (es:Array Event):Prop where
 rows:∀ b,ja w b→ja w1 b∧∀ c t m,w.heap[b]?=some (.cells c t m)→∃ m1,w1.heap[b]?=some (.cells c t m1)
 evs:∀ e∈es.toList,e.write=true→∀ b,ja w b→(∀ a,e.loc=.cell a→a.block≠b)∧e.loc≠.obj b
 size:w.heap.size≤w1.heap.size
theorem Keeps.seals {w w1:World} {es:Array Event} (h:Keeps w w1 es):Seals w w1 es:=⟨h.rows,h.evs,h.size⟩
theorem Seals.refl (w:World):Seals w w #[]:=(Keeps.refl w).seals
theorem Seals.of_heap {w v w1:World} {es:Array Event} (h:Seals v w1 es) (e:v.heap=w.heap):Seals w w1 es:=by
 have es':∀ b,ja w b→ja v b:=fun b ⟨c,t,m,h1,h2⟩=>⟨c,t,m,by rw[e];exact h1,h2⟩
 exact⟨fun b hb=>⟨(h.rows b (es' b hb)).1,fun c t m h1=>(h.rows b (es' b hb)).2 c t m (by rw[e];exact h1)⟩,fun x hx hw b hb=>h.evs x hx hw b (es' b hb),by rw[← e];exact h.size⟩
theorem Seals.trans {w v w1:World} {d d':Array Event} (h:Seals w v d) (k:Seals v w1 d'):Seals w w1 (d++d'):=by
 refine⟨fun b hb=>⟨(k.rows b (h.rows b hb).1).1,fun c t m h1=>?_⟩,fun e he hw b hb=>?_,Nat.le_trans h.size k.size⟩
 ·obtain⟨m1,h2⟩:=(h.rows b hb).2 c t m h1
  exact (k.rows b (h.rows b hb).1).2 c t m1 h2
 ·rw[Array.toList_append,List.mem_append] at he
  rcases he with he|he
  ·exact h.evs e he hw b hb
  ·exact k.evs e he hw b (h.rows b hb).1
structure Own (w w1 w' w1':World) (C:Ren):Prop where
 size:w'.heap.size≤w1'.heap.size
 os:Calm w' w1'
 same:∀ b,b<w'.heap.size→w1'.heap[b]?=w'.heap[b]?∨∃ r,C r b∧¬ ja w r
 sizeL:w.heap.size≤w1.heap.size
 sameL:∀ r,r<w.heap.size→w1.heap[r]?=w.heap[r]?∨∃ b,C r b
theorem Own.of {w w1 w' w1':World} {C:Ren} {d d':Array Event} (hk:Keeps w w1 d) (hf:Frames w' w1' d') (he:EsR C d d'):Own w w1 w' w1' C:=by
 refine⟨hf.size,hf.os,fun b hb=>?_,hk.size,fun r hr=>?_⟩
 rotate_left
 ·refine Classical.or_iff_not_imp_right.2 fun hno=>hk.same r hr fun e he1 hw=>?_
  obtain⟨i,hi,hx⟩:=List.getElem_of_mem he1
  have hi2:i<d.size:=by simpa using hi
  have hi':i<d'.size:=by rw[he.size];exact hi2
  have hx':d[i]=e:=by simpa using hx
  have hr2:EvR C e d'[i]:=by rw[← hx'];exact he.elem i hi2 hi'
  generalize d'[i]=e' at hr2
  obtain⟨loc,wr,sy⟩:=e
  obtain⟨loc',wr',sy'⟩:=e'
  have hl:=hr2.loc
  simp only at hl ⊢
  cases hl with
  | @cell a a' ha=>exact⟨fun a2 e2 e3=>by cases e2;exact hno ⟨a'.block,by rw[← e3];exact ha.block⟩,by simp⟩
  | @obj r1 r2 hr3=>exact⟨fun a2 e2=>by simp at e2,fun e2=>by cases e2;exact hno ⟨_,hr3⟩⟩
  | mark _=>exact⟨fun a2 e2=>by simp at e2,by simp⟩
  | output=>exact⟨fun a2 e2=>by simp at e2,by simp⟩
 ·refine Classical.or_iff_not_imp_right.2 fun hno=>hf.same b hb fun e' he' hw=>?_
  obtain⟨i,hi,hx⟩:=List.getElem_of_mem he'
  have hi':i<d'.size:=by simpa using hi
  have hi2:i<d.size:=by rw[← he.size];exact hi'
  have hx':d'[i]=e':=by simpa using hx
  have hr:EvR C d[i] e':=by rw[← hx'];exact he.elem i hi2 hi'
  have hm:d[i]∈d.toList:=by simp
  have hw2:d[i].write=true:=by rw[← hr.write];exact hw
  generalize d[i]=e at hr hm hw2
  have hkk:=hk.evs e hm hw2
  obtain⟨loc,wr,sy⟩:=e
  obtain⟨loc',wr',sy'⟩:=e'
  have hl:=hr.loc
  simp only at hl hkk ⊢
  cases hl with
  | @cell a a' ha =>
   refine⟨fun a2 e2 e3=>?_,by simp⟩
   cases e2
   refine hno ⟨a.block,by rw[← e3];exact ha.block,fun hs=>?_⟩
   exact (hkk _ hs).1 a rfl rfl
  | @obj r r' hr2 =>
   refine⟨fun a2 e2=>by simp at e2,fun e2=>?_⟩
   cases e2
   exact hno ⟨r,hr2,fun hs=>(hkk _ hs).2 rfl⟩
  | mark _=>exact⟨fun a2 e2=>by simp at e2,by simp⟩
  | output=>exact⟨fun a2 e2=>by simp at e2,by simp⟩
theorem Own.trans {w w1 w2 w' w1' w2':World} {C D:Ren} {d:Array Event} (h:Own w w1 w' w1' C) (hk:Seals w w1 d) (k:Own w1 w2 w1' w2' D) (hl:C.le D):Own w w2 w' w2' D:=by
 refine⟨Nat.le_trans h.size k.size,h.os.trans k.os,fun b hb=>?_,Nat.le_trans h.sizeL k.sizeL,fun r hr=>?_⟩
 ·rcases k.same b (Nat.lt_of_lt_of_le hb h.size) with h2|⟨r,h2,h3⟩
  ·rcases h.same b hb with h1|⟨r,h1,h4⟩
   ·exact .inl (h2.trans h1)
   ·exact .inr ⟨r,hl _ _ h1,h4⟩
  ·exact .inr ⟨r,h2,fun hs=>h3 (hk.rows r hs).1⟩
 ·rcases k.sameL r (Nat.lt_of_lt_of_le hr h.sizeL) with h2|⟨b,h2⟩
  ·rcases h.sameL r hr with h1|⟨b,h1⟩
   ·exact .inl (h2.trans h1)
   ·exact .inr ⟨b,hl _ _ h1⟩
  ·exact .inr ⟨b,h2⟩
theorem Ends.own {P P':Program} {α α':Type} {R:Ren→α→α'→Prop} {B:Ren} {s:Sem α} {s':Sem α'} {w w':World} {t0:Nat→Question→Nat} {n:Nat} {C:Ren} {a : α} {a' : α'} {w1 w1':World} {d d' es es':Array Event} (h:Ends P P' R B s s' w w' es es' t0 n C a a' w1 w1' d d'):Own w w1 w' w1' C:=Own.of h.keeps h.frames h.evs
theorem Panics.own {P P':Program} {α α':Type} {B:Ren} {s:Sem α} {s':Sem α'} {w w':World} {t0:Nat→Question→Nat} {n:Nat} {C:Ren} {a a':Value} {w1 w1':World} {d d' es es':Array Event} (h:Panics P P' B s s' w w' es es' t0 n C a a' w1 w1' d d'):Own w w1 w' w1' C:=Own.of h.keeps h.frames h.evs
theorem Own.refl (w w':World) (C:Ren):Own w w w' w' C:=⟨Nat.le_refl _,.refl _,fun _ _=>.inl rfl,Nat.le_refl _,fun _ _=>.inl rfl⟩
def Lost:GStep→Prop
 | .ended ..=>True
 | _=>False
inductive StepR (P:Program) (fs:Array Func) (F:FuncId→Prop) (Lf:FuncId→Lic) (k0:CallKind) (rest:List Frame) (B:Ren) (n:Nat) (w0 w0':World):(List Frame→(Nat→Question→Nat)→GStep)→GStep→Prop
 | go {C fr cs g' w w' es es'} : B.up C w0.heap.size w0'.heap.size→(∀ bot,GRel P fs F Lf k0 rest bot C { frame:=fr,callers:=cs++bot,status:=.running,dying:=none } g')→WRel C w w'→n≤w.drawn→EsR C es es'→Seals w0 w es→Own w0 w w0' w' C→StepR P fs F Lf k0 rest B n w0 w0' (fun bot t=>.go { frame:=fr,callers:=cs++bot,status:=.running,dying:=none } { w with tape:=t } es) (.go g' w' es')
 | lost {f s'} : (∀ bot t,Lost (f bot t))→StepR P fs F Lf k0 rest B n w0 w0' f s'
def After (P:Program) (fs:Array Func) (F:FuncId→Prop) (Lf:FuncId→Lic) (k0:CallKind) (rest:List Frame) (B:Ren) (f:List Frame→World→GStep) (w w':World) (s':GStep):Prop:=
 ∃ (t0:Nat→Question→Nat) (n:Nat),w.drawn≤n∧((∀ bot t,Agrees t t0 w.drawn n→Lost (f bot { w with tape:=t }))∨∃ G,(∀ bot t,Agrees t t0 w.drawn n→f bot { w with tape:=t }=G bot t)∧StepR P fs F Lf k0 rest B n w w' G s')
section
variable {P:Program} {fs:Array Func} {F:FuncId→Prop} {Lf:FuncId→Lic} {k0:CallKind} {rest:List Frame} {bot:List Frame} {B C:Ren}
theorem seen_mem (P:Program) (f:FuncId) (es:Array Event):∀ e∈(seen P f es).toList,e∈es.toList:=by
 unfold seen
 dsimp only
 rw[← Array.foldl_toList]
 have:∀ (l k:List Event) (q:Bool×Array Event),(∀ e∈q.2.toList,e∈k)→(∀ e∈l,e∈k)→∀ e∈(l.foldl (fun (x:Bool×Array Event) e=>match e.loc with
   | .mark (.extern f)=>((P.funcs[f]?).any (·.norace),x.2)
   | _=>(x.1,if x.1&&!e.sync then x.2 else x.2.push e)) q).2.toList,e∈k:=by
  intro l k
  induction l with
  | nil=>intro q h1 _ e he;exact h1 e he
  | cons x l ih =>
   intro q h1 h2
   refine ih _ ?_ fun e he=>h2 e (List.mem_cons_of_mem _ he)
   have hx:=h2 x List.mem_cons_self
   have push:∀ b:Bool,∀ e∈(if b then q.2 else q.2.push x).toList,e∈k:=by
    intro b e he
    cases b with
    | true=>exact h1 e he
    | false =>
     simp only[Bool.false_eq_true,if_false,Array.toList_push,List.mem_append,List.mem_singleton] at he
     rcases he with he|he
     ·exact h1 e he
     ·rw[he];exact hx
   obtain⟨loc,wr,sy⟩:=x
   cases loc<;>first|exact push _|skip
   rename_i m
   cases m<;>first|exact push _|exact h1
 exact this es.toList es.toList _ (fun e he=>by simp at he) (fun e he=>he)
theorem Seals.seen {w w1:World} {es:Array Event} (h:Seals w w1 es) {P:Program} {f:FuncId} : Seals w w1 (Go.seen P f es):=⟨h.rows,fun e he=>h.evs e (seen_mem P f es e he),h.size⟩
theorem Keeps.seen {w w1:World} {es:Array Event} (h:Keeps w w1 es) {P:Program} {f:FuncId} : Seals w w1 (Go.seen P f es):=h.seals.seen
theorem Lost.after {es:Array Event} {s:GStep} (h:Lost s):Lost (GStep.after es s):=by
 cases s<;>first|exact h|exact h.elim
theorem StepR.after {n:Nat} {w0 w1 w0' w1':World} (hl:B.up C w0.heap.size w0'.heap.size) {es es':Array Event} (hk:Seals w0 w1 es) (ho:Own w0 w1 w0' w1' C) (he:EsR C es es') {s s'} (h:StepR P fs F Lf k0 rest C n w1 w1' s s'):StepR P fs F Lf k0 rest B n w0 w0' (fun bot t=>GStep.after es (s bot t)) (GStep.after es' s'):=by
 cases h with
 | go l g w n e k o=>exact .go (hl.trans l hk.size ho.size) g w n ((he.mono fun _ _=>EvR.mono l.le).append e) (hk.trans k) (ho.trans hk o l.le)
 | lost h=>exact .lost fun bot t=>(h bot t).after
theorem After.all {f:List Frame→World→GStep} {w w':World} {s':GStep} (h:StepR P fs F Lf k0 rest B w.drawn w w' (fun bot t=>f bot { w with tape:=t }) s'):After P fs F Lf k0 rest B f w w' s':=⟨w.tape,w.drawn,Nat.le_refl _,.inr ⟨_,fun _ _ _=>rfl,h⟩⟩
theorem After.lost {f:List Frame→World→GStep} {w w':World} {s':GStep} (h:∀ bot (t:Nat→Question→Nat),Lost (f bot { w with tape:=t })):After P fs F Lf k0 rest B f w w' s':=⟨w.tape,w.drawn,Nat.le_refl _,.inl fun bot t _=>h bot t⟩
theorem WRel.tapeL {w w':World} (h:WRel B w w') (t:Nat→Question→Nat):WRel B { w with tape:=t } w':=h.taped t w'.tape w.drawn w'.drawn
theorem yG (H:Two P fs F Lf) (f:FuncId) {es es':Array Event} (h:EsR B es es'):EsR B (seen P f es) (seen (swap P fs) f es'):=by
 unfold seen
 dsimp only
 rw[← Array.foldl_toList,← Array.foldl_toList]
 show EsR B _ (List.foldl (fun (x:Bool×Array Event) e=>match e.loc with
   | .mark (.extern f)=>((fs[f]?).any (fun x:Func=>x.norace),x.2)
   | _=>(x.1,if x.1&&!e.sync then x.2 else x.2.push e)) ((fs[f]?).any (fun x:Func=>x.norace),#[]) es'.toList).2
 simp only[H.norace]
 have hl:=h.toList
 generalize es.toList=l at hl
 generalize es'.toList=l' at hl
 generalize (P.funcs[f]?).any (fun x:Func=>x.norace)=q
 have:∀ (q:Bool) (k k':Array Event),EsR B k k'→EsR B (l.foldl (fun (x:Bool×Array Event) e=>match e.loc with
   | .mark (.extern f)=>((P.funcs[f]?).any (fun x:Func=>x.norace),x.2)
   | _=>(x.1,if x.1&&!e.sync then x.2 else x.2.push e)) (q,k)).2 (l'.foldl (fun (x:Bool×Array Event) e=>match e.loc with
   | .mark (.extern f)=>((P.funcs[f]?).any (fun x:Func=>x.norace),x.2)
   | _=>(x.1,if x.1&&!e.sync then x.2 else x.2.push e)) (q,k')).2:=by
  induction hl with
  | nil=>intro q k k' hk;exact hk
  | cons he _ ih =>
   rename_i e e' _ _ _
   intro q k k' hk
   simp only[List.foldl_cons]
   obtain⟨loc,wr,sy⟩:=e
   obtain⟨loc',wr',sy'⟩:=e'
   obtain⟨h1,h2,h3⟩:=he
   simp only at h1 h2 h3
   subst h2 h3
   have push:∀ x:Bool,EsR B (if x&&!sy' then k else k.push ⟨loc,wr',sy'⟩) (if x&&!sy' then k' else k'.push ⟨loc',wr',sy'⟩):=by
    intro x
    split
    ·exact hk
    ·exact hk.push ⟨h1,rfl,rfl⟩
   cases h1 with
   | cell ha=>exact ih _ _ _ (push q)
   | obj ha=>exact ih _ _ _ (push q)
   | output=>exact ih _ _ _ (push q)
   | mark hm =>
    cases hm<;>first|exact ih _ _ _ (push q)|exact ih _ _ _ hk
 exact this q #[] #[] Rows.empty
theorem zej (H:Two P fs F Lf) (f:FuncId) (hh:B.has f) (k:CallKind) (hk:k≠.early) {a a':Array Value} (h:VsRel B a a'):TopR P fs F Lf B (Frame.enter P f a k) (Frame.enter (swap P fs) f a' k):=by
 by_cases e:F f
 ·exact .enter f k k e hh hk hk h
 ·refine .frame hk hk ?_
  unfold Frame.enter
  dsimp only
  rw[show (swap P fs).funcs[f]?=P.funcs[f]? from H.other f e]
  refine⟨rfl,.of ?_,.cons ?_ .nil,.nil,.run,.none,fun h=>absurd rfl h⟩
  ·exact h.append (by rw[h.size];exact Rows.replicate _ (VRel.undef B))
  ·cases hf:P.funcs[f]? with
   | none=>exact .code trivial
   | some fn =>
    cases hb:fn.body with
    | none=>simp only[Option.bind_some,hb,Option.getD_none];exact .code trivial
    | some c=>simp only[Option.bind_some,hb,Option.getD_some];exact .code (H.code f fn c e hf hb)
theorem zdV {l l':Nat} (hl:B l l') (f:FuncId) {a a':Array Value} (h:VsRel B a a') {x y:Code} (hx:qs P Lic.loop x) (hy:qs P Lic.loop y) (hn:Lf f=Lic.loop) (k:CallKind):FrameR P Lf B (Frame.round l f a x y k) (Frame.round l' f a' x y k):=by
 refine⟨rfl,.of h,?_,.nil,.run,.some hl,fun _=>hn⟩
 show LR (ItemR P (Lf f) B) _ _
 rw[hn]
 exact .cons (.code hx) (.cons .beginRound (.cons (.code hy) .nil))
end
end
section
section
variable {P:Program} {fs:Array Func} {F:FuncId→Prop} {Lf:FuncId→Lic} {k0:CallKind} {rest:List Frame} {bot:List Frame} {B C:Ren}
theorem Yi (hl:B.le C) {cs cs':List Frame} (h:LR (BelowR P Lf B) cs cs'):LR (BelowR P Lf C) cs cs':=h.mono fun _ _=>BelowR.mono hl
theorem finish_fn (f:Frame) (v:Value):(f.finish v).fn=f.fn:=by unfold Frame.finish;split<;>rfl
theorem YS (f:Frame) (v:Value):(f.finish v).kind=f.kind:=by unfold Frame.finish;split<;>rfl
theorem finish_round (f:Frame) (v:Value):(f.finish v).roundOf=f.roundOf:=by unfold Frame.finish;split<;>rfl
theorem raise_fn (f:Frame) (v:List PanicEntry):(f.raise v).fn=f.fn:=by unfold Frame.raise;split<;>rfl
theorem zaw (f:Frame) (v:List PanicEntry):(f.raise v).kind=f.kind:=by unfold Frame.raise;split<;>rfl
theorem raise_round (f:Frame) (v:List PanicEntry):(f.raise v).roundOf=f.roundOf:=by unfold Frame.raise;split<;>rfl
theorem Kinds.same {f f' g g':Frame} {cs cs':List Frame} (h:Kinds k0 f cs f' cs') (_e1:g.fn=f.fn) (e2:g.roundOf=f.roundOf) (e3:g.kind=f.kind) (e4:g'.kind=f'.kind):Kinds k0 g cs g' cs':=by
 cases cs with
 | nil =>
  cases cs' with
  | nil=>exact⟨e2.trans h.1,e3.trans h.2.1,e4.trans h.2.2⟩
  | cons _ _=>exact h.elim
 | cons c r =>
  cases cs' with
  | nil=>exact h.elim
  | cons c' r'=>exact⟨by rw[e3,e4];exact h.1,h.2⟩
structure OnR (P:Program) (Lf:FuncId→Lic) (k0:CallKind) (B:Ren) (fr fr':Frame) (cs cs':List Frame):Prop where
 late:fr.kind≠.early
 late':fr'.kind≠.early
 rel:FrameR P Lf B fr fr'
 callers:LR (BelowR P Lf B) cs cs'
 kinds:Kinds k0 fr cs fr' cs'
theorem OnR.mono {fr fr':Frame} {cs cs':List Frame} (hl:B.le C) (h:OnR P Lf k0 B fr fr' cs cs'):OnR P Lf k0 C fr fr' cs cs':=
 ⟨h.late,h.late',h.rel.mono hl,Yi hl h.callers,h.kinds⟩
theorem OnR.turn {fr fr' g g':Frame} {cs cs':List Frame} (h:OnR P Lf k0 B fr fr' cs cs') (hf:FrameR P Lf B g g') (e1:g.fn=fr.fn:=by rfl) (e2:g.roundOf=fr.roundOf:=by rfl) (e3:g.kind=fr.kind:=by rfl) (e4:g'.kind=fr'.kind:=by rfl) :
  OnR P Lf k0 B g g' cs cs':=
 ⟨by rw[e3];exact h.late,by rw[e4];exact h.late',hf,h.callers,h.kinds.same e1 e2 e3 e4⟩
theorem OnR.finish {fr fr':Frame} {cs cs':List Frame} (h:OnR P Lf k0 B fr fr' cs cs') {v v':Value} (hv:VRel B v v'):OnR P Lf k0 B (fr.finish v) (fr'.finish v') cs cs':=
 h.turn (h.rel.finish hv) (finish_fn _ _) (finish_round _ _) (YS _ _) (YS _ _)
theorem OnR.raise {fr fr':Frame} {cs cs':List Frame} (h:OnR P Lf k0 B fr fr' cs cs') {v v':List PanicEntry} (hv:LR (PanicR B) v v'):OnR P Lf k0 B (fr.raise v) (fr'.raise v') cs cs':=
 h.turn (h.rel.raise hv) (raise_fn _ _) (raise_round _ _) (zaw _ _) (zaw _ _)
theorem OnR.todo {fr fr':Frame} {cs cs':List Frame} (h:OnR P Lf k0 B fr fr' cs cs') {t t':List Item} (ht:LR (ItemR P (Lf fr.fn) B) t t'):OnR P Lf k0 B { fr with todo:=t } { fr' with todo:=t' } cs cs':=
 h.turn ⟨h.rel.fn,h.rel.tmps,ht,h.rel.defers,h.rel.mode,h.rel.roundOf,h.rel.calm⟩
theorem OnR.below {fr fr':Frame} {cs cs':List Frame} (h:OnR P Lf k0 B fr fr' cs cs'):BelowR P Lf B fr fr':=⟨h.late,h.late',h.rel⟩
theorem OnR.gr {fr fr':Frame} {cs cs':List Frame} (h:OnR P Lf k0 B fr fr' cs cs') :
  GRel P fs F Lf k0 rest bot B { frame:=fr,callers:=cs++bot,status:=.running,dying:=none } { frame:=fr',callers:=cs'++rest,status:=.running,dying:=none }:=
 ⟨.frame h.late h.late' h.rel,⟨cs,cs',rfl,rfl,h.callers,h.kinds⟩,rfl,rfl,rfl,rfl,rfl,rfl⟩
theorem OnR.step {n:Nat} {fr fr':Frame} {cs cs':List Frame} {w w':World} (h:OnR P Lf k0 B fr fr' cs cs') (hw:WRel B w w') (hn:n≤w.drawn) :
  StepR P fs F Lf k0 rest B n w w' (fun bot t=>.go { frame:=fr,callers:=cs++bot,status:=.running,dying:=none } { w with tape:=t }) (.go { frame:=fr',callers:=cs'++rest,status:=.running,dying:=none } w'):=
 .go (.refl _ _ _) (fun _=>h.gr) hw hn Rows.empty (.refl w) (Own.refl w w' B)
theorem zaA {v v':Value} (h:VRel B v v'):LR (PanicR B) [{ v,recovered:=false }] [{ v:=v',recovered:=false }]:=.cons ⟨h,rfl,rfl⟩ .nil
theorem kindOf_r {fr fr':Frame} (h:FrameR P Lf B fr fr'):(match fr'.todo with|.call _ true _ _::_=>CallKind.wrapped|_=>.normal)=(match fr.todo with|.call _ true _ _::_=>CallKind.wrapped|_=>.normal):=by
 have:=h.todo
 generalize fr.todo=t at this
 generalize fr'.todo=t' at this
 cases this with
 | nil=>rfl
 | cons hx _=>cases hx<;>rfl
theorem kindOf_late (t:List Item):(match t with|.call _ true _ _::_=>CallKind.wrapped|_=>.normal)≠.early:=by split<;>simp
theorem OnR.push {n:Nat} {fr fr':Frame} {cs cs':List Frame} {w w':World} (h:OnR P Lf k0 B fr fr' cs cs') (hw:WRel B w w') (hn:n≤w.drawn) {g g':Frame} (hg:TopR P fs F Lf B g g') (hk:g'.kind=g.kind) :
  StepR P fs F Lf k0 rest B n w w' (fun bot t=>.go { frame:=g,callers:=(fr::cs)++bot,status:=.running,dying:=none } { w with tape:=t }) (.go { frame:=g',callers:=fr'::(cs'++rest),status:=.running,dying:=none } w'):=
 .go (.refl _ _ _) (fun _=>⟨hg,⟨fr::cs,fr'::cs',rfl,rfl,.cons h.below h.callers,⟨hk,h.kinds⟩⟩,rfl,rfl,rfl,rfl,rfl,rfl⟩) hw hn Rows.empty (.refl w) (Own.refl w w' B)
theorem enter_r2 (H:Two P fs F Lf) (f:FuncId) (hh:B.has f) {k k':CallKind} (hk:k≠.early) (e:k'=k) {a a':Array Value} (h:VsRel B a a'):TopR P fs F Lf B (Frame.enter P f a k) (Frame.enter (swap P fs) f a' k'):=by
 subst e
 exact zej H f hh _ hk h
theorem oper_r {fr fr':Frame} (h:FrameR P Lf B fr fr'):fr'.oper?=fr.oper?:=by
 unfold Frame.oper?
 have:=h.todo
 generalize fr.todo=t at this
 generalize fr'.todo=t' at this
 cases this with
 | nil=>rfl
 | cons hx _ =>
  cases hx<;>first|rfl|skip
  rename_i l _
  cases l<;>rfl
theorem isNil_r {t t':Target} (h:TR B t t'):(match (generalizing:=false) t' with|.nil=>true|_=>false)=(match (generalizing:=false) t with|.nil=>true|_=>false):=by cases h<;>rfl
theorem DR.isNil {d d':Deferred} (h:DR B d d'):(match (generalizing:=false) d'.target with|.nil=>true|_=>false)=(match (generalizing:=false) d.target with|.nil=>true|_=>false):=by
 cases h with
 | reg h _ _=>exact isNil_r h
 | odd n c h1 _ h3=>rw[h1,h3]
theorem tryRecover_r (hq:∀ f,tryRecover f rest=none):∀ {cs cs':List Frame} {fr fr':Frame},LR (BelowR P Lf B) cs cs'→Kinds k0 fr cs fr' cs' →
  ((∀ bot,tryRecover fr (cs++bot)=none)∧tryRecover fr' (cs'++rest)=none)∨∃ v v' ks ks',(∀ bot,tryRecover fr (cs++bot)=some (v,ks++bot))∧tryRecover fr' (cs'++rest)=some (v',ks'++rest)∧VRel B v v'∧LR (BelowR P Lf B) ks ks'∧(∀ g g':Frame,g.roundOf=fr.roundOf→g.kind=fr.kind→g'.kind=fr'.kind→Kinds k0 g ks g' ks'):=by
 intro cs cs' fr fr' h
 induction h generalizing fr fr' with
 | nil=>exact fun hk=>.inl ⟨fun bot=>by unfold tryRecover;rw[hk.2.1],hq fr'⟩
 | @cons c c' cs cs' hc hcs ih =>
  intro hk
  have hk1:fr'.kind=fr.kind:=hk.1
  have hk2:Kinds k0 c cs c' cs':=hk.2
  unfold tryRecover
  rw[hk1]
  dsimp only[List.cons_append]
  cases hkd:fr.kind with
  | normal=>exact .inl ⟨fun _=>rfl,rfl⟩
  | early=>exact .inl ⟨fun _=>rfl,rfl⟩
  | report=>exact .inl ⟨fun _=>rfl,rfl⟩
  | deferred =>
   dsimp only
   have hm:=hc.rel.mode
   generalize e:c.mode=m at hm
   generalize e':c'.mode=m' at hm
   cases hm with
   | run=>exact .inl ⟨fun _=>rfl,rfl⟩
   | returning=>exact .inl ⟨fun _=>rfl,rfl⟩
   | panicking hp =>
    cases hp with
    | nil=>exact .inl ⟨fun _=>rfl,rfl⟩
    | @cons a b l l' hx hl =>
     obtain⟨v,r,g⟩:=a
     obtain⟨v',r',g'⟩:=b
     obtain⟨h1,h2,h3⟩:=hx
     simp only at h1 h2 h3
     subst h2 h3
     cases r' with
     | true=>exact .inl ⟨fun _=>rfl,rfl⟩
     | false =>
      cases g' with
      | true=>exact .inl ⟨fun _=>rfl,rfl⟩
      | false =>
       refine .inr ⟨v,v',{ c with mode:=.panicking ({ v,recovered:=true }::l) }::cs,{ c' with mode:=.panicking ({ v:=v',recovered:=true }::l') }::cs',fun _=>rfl,rfl,h1,.cons ⟨hc.late,hc.late',⟨hc.rel.fn,hc.rel.tmps,hc.rel.todo,hc.rel.defers,.panicking (.cons ⟨h1,rfl,rfl⟩ hl),hc.rel.roundOf,hc.rel.calm⟩⟩ hcs,fun x x' _ e2 e3=>⟨by rw[e3,e2],hk2.same rfl rfl rfl rfl⟩⟩
  | wrapped =>
   dsimp only
   rcases ih hk2 with ⟨h1,h2⟩|⟨v,v',ks,ks',h1,h2,h3,h4,h5⟩
   ·exact .inl ⟨fun bot=>by rw[h1 bot];rfl,by rw[h2];rfl⟩
   ·exact .inr ⟨v,v',c::ks,c'::ks',fun bot=>by rw[h1 bot];rfl,by rw[h2];rfl,h3,.cons hc h4,fun x x' _ e2 e3=>⟨by rw[e3,e2],h5 c c' rfl rfl rfl⟩⟩
theorem zcF (H:Two P fs F Lf) (hF:Fit P Lf B) (hq:∀ f,tryRecover f rest=none) {fr fr':Frame} {cs cs':List Frame} {m:Bool} (hm:m=true→fr.roundOf=none∧fr'.roundOf=none) {w w':World} (h:OnR P Lf k0 B fr fr' cs cs') (hw:WRel B w w') {s s':Sem Next}
  (hs:SRel P (swap P fs) (NRM m) B s s'):After P fs F Lf k0 rest B (fun bot=>stepG.apply P true fr (cs++bot) none s) w w' (stepG.apply (swap P fs) true fr' (cs'++rest) none s' w'):=by
 obtain⟨t0,n,hn,hrun⟩:=hs.run hw #[] #[]
 refine⟨t0,n,hn,?_⟩
 have e1:(fr.kind==CallKind.early)=false:=by simpa using h.late
 have e2:(fr'.kind==CallKind.early)=false:=by simpa using h.late'
 have right:∀ x,stepG.apply (swap P fs) true fr' (cs'++rest) none s' w'=x→∀ G,StepR P fs F Lf k0 rest B n w w' G x→StepR P fs F Lf k0 rest B n w w' G (stepG.apply (swap P fs) true fr' (cs'++rest) none s' w'):=fun x e G h=>by rw[e];exact h
 rcases hrun with hbad|⟨D,nx,nx',w1,w1',d,d',he⟩|⟨D,v,v',w1,w1',d,d',he⟩
 ·refine .inl fun bot t ht=>?_
  obtain⟨hl,w2,es2,e,hb⟩:=hbad t ht
  unfold stepG.apply
  simp only[if_true,e1,Bool.false_eq_true,if_false,e]
  refine Lost.after ?_
  cases hl with
  | stuck m=>exact trivial
  | unsupported u=>cases u<;>first|exact hb.elim|exact trivial
  | _=>exact hb.elim
 ·refine .inr ?_
  have hkl:=kindOf_late fr.todo
  have hkr:=kindOf_r h.rel
  have hev:=yG H fr.fn he.evs
  have hleft:=he.left
  have hright:=he.right
  simp only[Array.empty_append] at hleft hright
  have h1:=h.mono he.le
  have hF1:=hF.mono he.le
  have hw1:=he.mem
  have hd1:n≤w1.drawn:=Nat.le_of_eq he.drawn.symm
  have hl:=he.le
  have hu:=he.up
  have hn':=he.rel
  have hfn:fr'.fn=fr.fn:=h.rel.fn
  have hev':EsR D (seen P fr.fn d) (seen (swap P fs) fr'.fn d'):=by rw[hfn];exact hev
  rcases hn' with hn'|hrc
  rotate_left
  ·obtain⟨hr1,hr2⟩:=hm hrc
   rcases tryRecover_r hq h1.callers h1.kinds with ⟨r1,r2⟩|⟨v,v',ks,ks',r1,r2,hv,hks,hkd⟩
   ·refine⟨_,fun bot t ht=>?_,right _ ?_ _ (StepR.after hu he.keeps.seen he.own hev' ((h1.finish .nilIface).step hw1 hd1))⟩
    ·unfold stepG.apply;simp only[if_true,e1,Bool.false_eq_true,if_false,hleft t ht,hr1,r1]
    ·unfold stepG.apply;simp only[if_true,e2,Bool.false_eq_true,if_false,hright,hr2,r2]
   ·have h3:OnR P Lf k0 D fr fr' ks ks':=⟨h1.late,h1.late',h1.rel,hks,hkd fr fr' rfl rfl rfl⟩
    refine⟨_,fun bot t ht=>?_,right _ ?_ _ (StepR.after hu he.keeps.seen he.own hev' ((h3.finish hv).step hw1 hd1))⟩
    ·unfold stepG.apply;simp only[if_true,e1,Bool.false_eq_true,if_false,hleft t ht,hr1,r1]
    ·unfold stepG.apply;simp only[if_true,e2,Bool.false_eq_true,if_false,hright,hr2,r2]
  cases hn' with
  | value hv =>
   refine⟨_,fun bot t ht=>?_,right _ ?_ _ (StepR.after hu he.keeps.seen he.own hev' ((h1.finish hv).step hw1 hd1))⟩
   ·unfold stepG.apply;simp only[if_true,e1,Bool.false_eq_true,if_false,hleft t ht]
   ·unfold stepG.apply;simp only[if_true,e2,Bool.false_eq_true,if_false,hright]
  | skip =>
   refine⟨_,fun bot t ht=>?_,right _ ?_ _ (StepR.after hu he.keeps.seen he.own hev' ((h1.finish (VRel.undef D)).step hw1 hd1))⟩
   ·unfold stepG.apply;simp only[if_true,e1,Bool.false_eq_true,if_false,hleft t ht]
   ·unfold stepG.apply;simp only[if_true,e2,Bool.false_eq_true,if_false,hright]
  | enter f hh ha =>
   refine⟨_,fun bot t ht=>?_,right _ ?_ _ (StepR.after hu he.keeps.seen he.own hev' (h1.push hw1 hd1 (enter_r2 H f hh hkl hkr ha) hkr))⟩
   ·unfold stepG.apply;simp only[if_true,e1,Bool.false_eq_true,if_false,hleft t ht];rfl
   ·unfold stepG.apply;simp only[if_true,e2,Bool.false_eq_true,if_false,hright];rfl
  | round f x y hl2 ha hx hy hN =>
   rw[hF1.ok] at hx hy
   rw[hF1.okF] at hN
   refine⟨_,fun bot t ht=>?_,right _ ?_ _ (StepR.after hu he.keeps.seen he.own hev' (h1.push hw1 hd1 (.frame (by simp[Frame.round]) (by simp[Frame.round]) (zdV hl2 f ha hx hy hN .normal)) rfl))⟩
   ·unfold stepG.apply;simp only[if_true,e1,Bool.false_eq_true,if_false,hleft t ht];rfl
   ·unfold stepG.apply;simp only[if_true,e2,Bool.false_eq_true,if_false,hright]
  | @defer a a' hd hk =>
   have h2:=(h1.turn (g:={ fr with defers:=a::fr.defers }) (g':={ fr' with defers:=a'::fr'.defers }) ⟨h1.rel.fn,h1.rel.tmps,h1.rel.todo,.cons ⟨hd,hk⟩ h1.rel.defers,h1.rel.mode,h1.rel.roundOf,h1.rel.calm⟩).finish (VRel.undef D)
   refine⟨_,fun bot t ht=>?_,right _ ?_ _ (StepR.after hu he.keeps.seen he.own hev' (h2.step hw1 hd1))⟩
   ·unfold stepG.apply;simp only[if_true,e1,Bool.false_eq_true,if_false,hleft t ht]
   ·unfold stepG.apply;simp only[if_true,e2,Bool.false_eq_true,if_false,hright]
 ·have hev':EsR D (seen P fr.fn d) (seen (swap P fs) fr'.fn d'):=by rw[h.rel.fn];exact yG H fr.fn he.evs
  have hleft:=he.left
  have hright:=he.right
  simp only[Array.empty_append] at hleft hright
  refine .inr ⟨_,fun bot t ht=>?_,right _ ?_ _ (StepR.after he.up he.keeps.seen he.own hev' (((h.mono he.le).raise (zaA he.rel)).step he.mem (Nat.le_of_eq he.drawn.symm)))⟩
  ·unfold stepG.apply;simp only[if_true,e1,Bool.false_eq_true,if_false,hleft t ht]
  ·unfold stepG.apply;simp only[if_true,e2,Bool.false_eq_true,if_false,hright]
end
end
end Go.Par
