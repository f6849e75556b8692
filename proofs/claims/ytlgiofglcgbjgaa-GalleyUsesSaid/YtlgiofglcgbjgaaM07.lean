/- Returning and unwinding, run beside themselves. One goroutine's step, run beside itself, whole. One goroutine's step, run beside itself: the control of a frame, and the whole. -/
import Derived.Test.YtlgiofglcgbjgaaM06
namespace Go.Par
open Go
section
section
variable {P:Program} {fs:Array Func} {F:FuncId→Prop} {Lf:FuncId→Lic} {k0:CallKind} {rest:List Frame} {bot:List Frame} {B C:Ren}
theorem OnR.pop {fr fr' c c':Frame} {cs cs':List Frame} (h:OnR P Lf k0 B fr fr' (c::cs) (c'::cs')):OnR P Lf k0 B c c' cs cs':=by
 obtain⟨_,_,_,hc,hk⟩:=h
 cases hc with
 | cons hx hr=>exact⟨hx.late,hx.late',hx.rel,hr,hk.2⟩
theorem OnR.kind {fr fr' c c':Frame} {cs cs':List Frame} (h:OnR P Lf k0 B fr fr' (c::cs) (c'::cs')):fr'.kind=fr.kind:=h.kinds.1
theorem dropGoexit_r {l l':List PanicEntry} (h:LR (PanicR B) l l'):LR (PanicR B) (l.dropWhile (!·.goexit)) (l'.dropWhile (!·.goexit)):=by
 induction h with
 | nil=>exact .nil
 | cons hx h ih =>
  simp only[List.dropWhile_cons,hx.goexit]
  split
  ·exact ih
  ·exact .cons hx h
def settled (c:Frame):Frame:=
 match c.mode with
 | .panicking ({ recovered:=true,.. }::older) =>
  match older.dropWhile (!·.goexit) with
  | []=>{ c with mode:=.returning }
  | rest=>{ c with mode:=.panicking rest }
 | _=>c
theorem zbF {c c':Frame} {cs cs':List Frame} (h:OnR P Lf k0 B c c' cs cs'):OnR P Lf k0 B (settled c) (settled c') cs cs':=by
 have hm:=h.rel.mode
 have turn:∀ {m m':FrameMode},ModeR B m m'→OnR P Lf k0 B { c with mode:=m } { c' with mode:=m' } cs cs':=fun hm =>
  h.turn ⟨h.rel.fn,h.rel.tmps,h.rel.todo,h.rel.defers,hm,h.rel.roundOf,h.rel.calm⟩
 unfold settled
 generalize e:c.mode=m at hm
 generalize e':c'.mode=m' at hm
 cases hm with
 | run=>exact h
 | returning=>exact h
 | panicking hc =>
  cases hc with
  | nil=>exact h
  | @cons a b l l' hx hl =>
   obtain⟨v,r,g⟩:=a
   obtain⟨v',r',g'⟩:=b
   obtain⟨h1,h2,h3⟩:=hx
   simp only at h1 h2 h3
   subst h2 h3
   cases r' with
   | false=>exact h
   | true =>
    dsimp only
    have hd:=dropGoexit_r hl
    generalize l.dropWhile (!·.goexit)=k at hd
    generalize l'.dropWhile (!·.goexit)=k' at hd
    cases hd with
    | nil=>exact turn .returning
    | cons hx ht=>exact turn (.panicking (.cons hx ht))
theorem JC {mn:Bool} {n:Nat} {fr fr':Frame} {cs cs':List Frame} {w w':World} (hne:cs≠[]) (h:OnR P Lf k0 B fr fr' cs cs') (hw:WRel B w w') (hd:n≤w.drawn) {v v':Value} (hv:VRel B v v') :
  StepR P fs F Lf k0 rest B n w w' (fun bot t=>doReturn P true fr (cs++bot) none v { w with tape:=t }) (doReturn (swap P fs) mn fr' (cs'++rest) none v' w'):=by
 have hcs:=h.callers
 cases hcs with
 | nil=>exact absurd rfl hne
 | @cons c c' r r' hx hr =>
  have hp:=h.pop
  have hk:=h.kind
  have hl:=h.late
  unfold doReturn
  dsimp only[List.cons_append]
  rw[hk]
  generalize fr.kind=k at hl ⊢
  cases k with
  | normal=>exact (hp.finish hv).step hw hd
  | wrapped=>exact (hp.finish hv).step hw hd
  | early=>exact (hl rfl).elim
  | deferred=>exact (zbF hp).step hw hd
  | report=>exact (zbF hp).step hw hd
theorem takeDeferred_r {r r':Nat} (h:B r r'):SRel P (swap P fs) (fun C d d'=>LR (DR C) d d') B (Instr.takeDeferred r) (Instr.takeDeferred r'):=by
 unfold Instr.takeDeferred
 refine (qE h).bind fun C o o' hl ho=>?_
 cases ho<;>first|exact ze|skip
 rename_i hd
 cases hd with
 | none=>exact ze
 | some hd=>exact zb (qW (hl _ _ h) (.deferred .none)) fun D _ l2=>zd (hd.mono fun _ _=>DR.mono l2)
theorem zeF {d d':List Deferred} (h:LR (DR B) d d'):LR (DefR B) d d':=h.mono fun _ _ x=>⟨x,x.ok⟩
theorem isPanicking_r {m m':FrameMode} (h:ModeR B m m'):(match (generalizing:=false) m' with|.panicking _=>true|_=>false)=(match (generalizing:=false) m with|.panicking _=>true|_=>false):=by cases h<;>rfl
theorem Ze {l l':List Deferred} {fr fr':Frame} {cs cs':List Frame} (h:OnR P Lf k0 B fr fr' cs cs') (hl:LR (DefR B) l l'):OnR P Lf k0 B { fr with defers:=l } { fr' with defers:=l' } cs cs':=
 h.turn ⟨h.rel.fn,h.rel.tmps,h.rel.todo,hl,h.rel.mode,h.rel.roundOf,h.rel.calm⟩
theorem Lost.ite {c:Prop} [Decidable c] {a b:GStep} (h1:Lost a) (h2:Lost b):Lost (if c then a else b):=by
 split
 ·exact h1
 ·exact h2
theorem yb (H:Two P fs F Lf) (hF:Fit P Lf B) {fr fr':Frame} {cs cs':List Frame} {w w':World} (h:OnR P Lf k0 B fr fr' cs cs') (hw:WRel B w w') {d d':Deferred} (hd:DefR B d d') :
  After P fs F Lf k0 rest B (fun bot=>callDeferred P fr (cs++bot) none d) w w' (callDeferred (swap P fs) fr' (cs'++rest) none d' w'):=by
 have lost:∀ (bot:List Frame) hl (w2:World) (es2:Array Event) w,(invoke d.target d.args).runT P w #[]=(.halt hl w2,es2)→hl.bad→Lost (callDeferred P fr (cs++bot) none d w):=by
  intro bot hl w2 es2 w e hb
  unfold callDeferred
  dsimp only
  refine Lost.ite trivial ?_
  simp only[e]
  refine Lost.after ?_
  cases hl with
  | stuck m=>exact trivial
  | unsupported u=>exact trivial
  | _=>exact hb.elim
 have hcb':((match (generalizing:=false) d'.target with|.nil=>true|_=>false)&&(match (generalizing:=false) fr'.mode with|.panicking _=>true|_=>false))=((match (generalizing:=false) d.target with|.nil=>true|_=>false)&&(match (generalizing:=false) fr.mode with|.panicking _=>true|_=>false)):=
  congr (congrArg and hd.rel.isNil) (isPanicking_r h.rel.mode)
 cases hcb:((match (generalizing:=false) d.target with|.nil=>true|_=>false)&&(match (generalizing:=false) fr.mode with|.panicking _=>true|_=>false)) with
 | true =>
  refine .lost fun bot t=>?_
  unfold callDeferred
  exact (congrArg Lost (if_pos hcb)).mpr trivial
 | false =>
 have offL:¬ ((match (generalizing:=false) d.target with|.nil=>true|_=>false)&&(match (generalizing:=false) fr.mode with|.panicking _=>true|_=>false))=true:=by rw[hcb];simp
 have offR:¬ ((match (generalizing:=false) d'.target with|.nil=>true|_=>false)&&(match (generalizing:=false) fr'.mode with|.panicking _=>true|_=>false))=true:=by rw[hcb',hcb];simp
 obtain⟨t0,n,hn,hrun⟩:=(Yy H.types H.rows hF.based hd.rel).run hw #[] #[]
 refine⟨t0,n,hn,?_⟩
 have right:∀ x,callDeferred (swap P fs) fr' (cs'++rest) none d' w'=x→∀ G,StepR P fs F Lf k0 rest B n w w' G x→StepR P fs F Lf k0 rest B n w w' G (callDeferred (swap P fs) fr' (cs'++rest) none d' w'):=fun x e G h=>by rw[e];exact h
 rcases hrun with hbad|⟨D,nx,nx',w1,w1',u,u',he⟩|⟨D,v,v',w1,w1',u,u',he⟩
 ·refine .inl fun bot t ht=>?_
  obtain⟨hl,w2,es2,e,hb⟩:=hbad t ht
  exact lost _ _ _ _ _ e hb
 rotate_left
 ·have hev':EsR D (seen P fr.fn u) (seen (swap P fs) fr'.fn u'):=by rw[h.rel.fn];exact yG H fr.fn he.evs
  have hleft:=he.left
  have hright:=he.right
  simp only[Array.empty_append] at hleft hright
  refine .inr ⟨_,fun bot t ht=>?_,right _ ?_ _ (StepR.after he.up he.keeps.seen he.own hev' (((h.mono he.le).raise (zaA he.rel)).step he.mem (Nat.le_of_eq he.drawn.symm)))⟩
  ·unfold callDeferred;refine (if_neg offL).trans ?_;simp only[hleft t ht]
  ·unfold callDeferred;refine (if_neg offR).trans ?_;simp only[hright]
 ·have hev:=yG H fr.fn he.evs
  have hleft:=he.left
  have hright:=he.right
  simp only[Array.empty_append] at hleft hright
  have h1:=h.mono he.le
  have hF1:=hF.mono he.le
  have hw1:=he.mem
  have hd1:n≤w1.drawn:=Nat.le_of_eq he.drawn.symm
  have hl:=he.le
  have hu:=he.up
  have hn':=he.rel
  have hfn:fr'.fn=fr.fn:=h.rel.fn
  have hev':EsR D (seen P fr.fn u) (seen (swap P fs) fr'.fn u'):=by rw[hfn];exact hev
  refine .inr ?_
  cases hn' with
  | value hv =>
   refine⟨_,fun bot t ht=>?_,right _ ?_ _ (StepR.after hu he.keeps.seen he.own hev' (h1.step hw1 hd1))⟩
   ·unfold callDeferred;refine (if_neg offL).trans ?_;simp only[hleft t ht]
   ·unfold callDeferred;refine (if_neg offR).trans ?_;simp only[hright]
  | skip =>
   refine⟨_,fun bot t ht=>?_,right _ ?_ _ (StepR.after hu he.keeps.seen he.own hev' (h1.step hw1 hd1))⟩
   ·unfold callDeferred;refine (if_neg offL).trans ?_;simp only[hleft t ht]
   ·unfold callDeferred;refine (if_neg offR).trans ?_;simp only[hright]
  | enter f hh ha =>
   refine⟨_,fun bot t ht=>?_,right _ ?_ _ (StepR.after hu he.keeps.seen he.own hev' (h1.push hw1 hd1 (zej H f hh .deferred (by simp) ha) rfl))⟩
   ·unfold callDeferred;refine (if_neg offL).trans ?_;simp only[hleft t ht];rfl
   ·unfold callDeferred;refine (if_neg offR).trans ?_;simp only[hright]
  | round f x y hl2 ha hx hy hN =>
   rw[hF1.ok] at hx hy
   rw[hF1.okF] at hN
   refine⟨_,fun bot t ht=>?_,right _ ?_ _ (StepR.after hu he.keeps.seen he.own hev' (h1.push hw1 hd1 (.frame (by simp[Frame.round]) (by simp[Frame.round]) (zdV hl2 f ha hx hy hN .deferred)) rfl))⟩
   ·unfold callDeferred;refine (if_neg offL).trans ?_;simp only[hleft t ht];rfl
   ·unfold callDeferred;refine (if_neg offR).trans ?_;simp only[hright]
  | defer hd hk =>
   refine⟨_,fun bot t ht=>?_,right _ ?_ _ (StepR.after hu he.keeps.seen he.own hev' (h1.step hw1 hd1))⟩
   ·unfold callDeferred;refine (if_neg offL).trans ?_;simp only[hleft t ht]
   ·unfold callDeferred;refine (if_neg offR).trans ?_;simp only[hright]
theorem Je (hB:Based P B) {d:Nat→Prop} {a a':Array Value} (h:TmpsR d B a a'):∀ (l:List ResultVar) (C:Ren),B.le C→(∀ x∈l,¬ d (zaa x)) →
  SRel P (swap P fs) (fun D=>LR (VRel D)) C (l.mapM fun|.tmp t=>pure (a.getD t undef)|.cell c t=>do loadVar t (← asAddr (a.getD c undef))) (l.mapM fun|.tmp t=>pure (a'.getD t undef)|.cell c t=>do loadVar t (← asAddr (a'.getD c undef)))
 | [],C,_,_=>by simp only[List.mapM_nil];exact zd .nil
 | x::l,C,hC,hd=>by
  simp only[List.mapM_cons]
  have hx:=hd x List.mem_cons_self
  refine SRel.bind (R:=VR) ?_ fun D b b' hl hb=>(Je hB h l D (hC.trans hl) fun y hy=>hd y (List.mem_cons_of_mem _ hy)).bind fun E bs bs' hl2 hbs=>zd (.cons (hb.mono hl2) hbs)
  cases x with
  | tmp t=>exact zd ((h.mono hC).getD t hx (VRel.undef C))
  | cell c t=>exact (zdw (hB.mono hC).handle ((h.mono hC).getD c hx (VRel.undef C))).bind fun D x x' _ hx=>zca t hx
theorem QR (hB:Based P B) (fn:Func) {d:Nat→Prop} (hd:∀ x∈fn.results,¬ d (zaa x)) {a a':Array Value} (h:TmpsR d B a a'):SRel P (swap P fs) VR B (results fn a) (results fn a'):=by
 unfold results
 rw[Array.mapM_eq_mapM_toList,Array.mapM_eq_mapM_toList]
 refine SRel.bind (SRel.bind (Je hB h fn.results.toList B (Ren.le.refl _) fun x hx=>hd x (by simpa using hx)) (S:=fun D=>Rows (VRel D)) fun C l l' _ hll=>zd hll.toArray) fun C vs vs' hl hv=>?_
 ·refine zd ?_
  by_cases e:vs.size=1
  ·have e':vs'.size=1:=by rw[hv.size];exact e
   simp only[e,e',dif_pos]
   exact hv.elem 0 (by omega) (by omega)
  ·have e':¬ vs'.size=1:=by rw[hv.size];exact e
   simp only[e,e',dif_neg,not_false_eq_true]
   exact .tuple hv.size hv.2
theorem catches_r {fr fr':Frame} (h:FrameR P Lf B fr fr'):fr'.catches (swap P fs)=false:=by
 unfold Frame.catches
 have:=h.todo
 generalize fr.todo=t at this
 generalize fr'.todo=t' at this
 split
 ·cases this with
  | cons hx _=>cases hx
 ·rfl
theorem catchesL_r {fr fr':Frame} (h:FrameR P Lf B fr fr'):fr.catches P=false:=by
 unfold Frame.catches
 have:=h.todo
 generalize fr.todo=t at this
 generalize fr'.todo=t' at this
 split
 ·cases this with
  | cons hx _=>cases hx
 ·rfl
theorem unwind_r (H:Two P fs F Lf) (hF:Fit P Lf B) {mn:Bool} {fr fr':Frame} {cs cs':List Frame} {w w':World} (h:OnR P Lf k0 B fr fr' cs cs') (hw:WRel B w w') (hs:cs=[]→fr.mode=.run∨fr.defers≠[]) :
  After P fs F Lf k0 rest B (fun bot=>unwind P true fr (cs++bot) none) w w' (unwind (swap P fs) mn fr' (cs'++rest) none w'):=by
 have hdf:=h.rel.defers
 have hm:=h.rel.mode
 have hcs:=h.callers
 unfold unwind
 generalize e:fr.defers=ds at hdf
 generalize e':fr'.defers=ds' at hdf
 cases hdf with
 | @cons d d' r r' hd hr =>
  obtain⟨t,a⟩:=d
  obtain⟨t',a'⟩:=d'
  have hdd:=hd.rel
  cases hdd with
  | odd n c x1 x2 x3 =>
   simp only at x1 x3
   subst x1 x3
   exact yb H hF (Ze h hr) hw hd
  | reg ht _ _ =>
  simp only at ht
  cases ht with
  | collected hb =>
   dsimp only
   obtain⟨t0,n,hnn,hrun⟩:=(takeDeferred_r (P:=P) (fs:=fs) hb).run hw #[] #[]
   refine⟨t0,n,hnn,?_⟩
   rcases hrun with hbad|⟨D,x,x',w1,w1',u,u',he⟩|⟨D,x,x',w1,w1',u,u',he⟩
   ·refine .inl fun bot t ht=>?_
    obtain⟨hl,w2,es2,e,hb⟩:=hbad t ht
    simp only[e]
    exact Lost.after trivial
   rotate_left
   ·exact .inl fun bot t ht=>by simp only[he.left t ht];exact Lost.after trivial
   ·have hleft:=he.left
    have hright:=he.right
    simp only[Array.empty_append] at hleft hright
    simp only[hright]
    have hev':EsR D (seen P fr.fn u) (seen (swap P fs) fr'.fn u'):=by rw[h.rel.fn];exact yG H fr.fn he.evs
    exact .inr ⟨_,fun bot t ht=>by simp only[hleft t ht],StepR.after he.up he.keeps.seen he.own hev' ((Ze (h.mono he.le) ((zeF he.rel).append (hr.mono fun _ _=>DefR.mono he.le))).step he.mem (Nat.le_of_eq he.drawn.symm))⟩
  | fn h1 h2=>exact yb H hF (Ze h hr) hw hd
  | nil=>exact yb H hF (Ze h hr) hw hd
  | builtin b ts t cs=>exact yb H hF (Ze h hr) hw hd
 | nil =>
  dsimp only
  generalize em:fr.mode=m at hm
  generalize em':fr'.mode=m' at hm
  cases hm with
  | run=>exact .lost fun _ t=>trivial
  | returning =>
   have hne:cs≠[]:=by
    intro e0
    rcases hs e0 with hh|hh
    ·rw[em] at hh;cases hh
    ·exact hh e
   dsimp only
   rw[h.rel.fn]
   have hres:=H.results fr.fn
   rw[show (swap P fs).funcs[fr.fn]?=fs[fr.fn]? from rfl]
   cases hf:P.funcs[fr.fn]? with
   | none =>
    rw[hf] at hres
    have hf':fs[fr.fn]?=none:=by simpa using hres
    rw[hf']
    exact .all (JC hne h hw (Nat.le_refl _) (h.rel.tmps.getD 0 (H.lost _ hf) (VRel.undef B)))
   | some fn =>
    rw[hf] at hres
    obtain⟨fn',hf',hre⟩:∃ fn',fs[fr.fn]?=some fn'∧fn'.results=fn.results:=by simpa using hres
    rw[hf']
    dsimp only
    have hrr:∀ a,results fn' a=results fn a:=fun a=>by unfold results;rw[hre]
    rw[hrr]
    obtain⟨t0,n,hnn,hrun⟩:=(QR (P:=P) (fs:=fs) hF.based fn (H.live _ _ hf) h.rel.tmps).run hw #[] #[]
    refine⟨t0,n,hnn,?_⟩
    rcases hrun with hbad|⟨D,x,x',w1,w1',u,u',he⟩|⟨D,x,x',w1,w1',u,u',he⟩
    ·refine .inl fun bot t ht=>?_
     obtain⟨hl,w2,es2,e,hb⟩:=hbad t ht
     simp only[e]
     refine Lost.after ?_
     cases hl<;>exact trivial
    rotate_left
    ·exact .inl fun bot t ht=>by simp only[he.left t ht];exact Lost.after trivial
    ·have hleft:=he.left
     have hright:=he.right
     simp only[Array.empty_append] at hleft hright
     simp only[hright]
     exact .inr ⟨_,fun bot t ht=>by simp only[hleft t ht],StepR.after he.up he.keeps.seen he.own (yG H fr.fn he.evs) (JC hne (h.mono he.le) he.mem (Nat.le_of_eq he.drawn.symm) he.rel)⟩
  | panicking hc =>
   have hne:cs≠[]:=by
    intro e0
    rcases hs e0 with hh|hh
    ·rw[em] at hh;cases hh
    ·exact hh e
   dsimp only
   rw[catches_r h.rel]
   simp only[catchesL_r h.rel,Bool.false_eq_true,if_false]
   cases hcs with
   | nil=>exact absurd rfl hne
   | cons hx hr=>exact .all ((h.pop.raise hc).step hw (Nat.le_refl _))
end
end
section
section
variable {P:Program} {fs:Array Func} {F:FuncId→Prop} {Lf:FuncId→Lic} {k0:CallKind} {rest:List Frame} {bot:List Frame} {B C:Ren}
theorem endRound_r {l l':Nat} (h:B l l') (jump:Option Code) (hj:∀ c,jump=some c→B.ok c):SRel P (swap P fs) VR B (Instr.endRound l jump) (Instr.endRound l' jump):=by
 unfold Instr.endRound
 refine (ZE h).bind fun C x y hl hx=>?_
 refine zb (qW (hl _ _ h) (.loop ⟨rfl,rfl,hx.fn,hx.tmps,hx.params,hx.assign,hx.body,hx.defers,hx.okA,hx.okB,fun c e=>by rw[hl.ok];exact hj c e,hx.okN⟩)) fun D _ l2=>zd (.bool _)
theorem endLoop_r (hB:Based P B) {l l':Nat} (h:B l l'):SRel P (swap P fs) (fun C x y=>y=x∧∀ c,x=some c→C.ok c) B (Instr.endLoop l) (Instr.endLoop l'):=by
 unfold Instr.endLoop
 refine (ZE h).bind fun C x y hl hx=>?_
 rw[hx.state]
 have go:∀ D,C.le D→SRel P (swap P fs) (fun C x y=>y=x∧∀ c,x=some c→C.ok c) D (do setObj l (.loop { x with state:=.exhausted });pure x.pending) (do setObj l' (.loop { y with state:=.exhausted });pure y.pending):=fun D l2 =>
  zb (qW (l2 _ _ (hl _ _ h)) (.loop (LoopR.mono l2 ⟨rfl,hx.pending,hx.fn,hx.tmps,hx.params,hx.assign,hx.body,hx.defers,hx.okA,hx.okB,hx.okP,hx.okN⟩))) fun E _ l3=>zd ⟨hx.pending,fun c e=>by rw[(l2.trans l3).ok];exact hx.okP c e⟩
 dsimp only
 split
 ·exact qc (hB.mono hl).handle _
 ·exact go C (Ren.le.refl _)
theorem enterLoop_r (f:FuncId) {t t':Array Value} (ht:VsRel B t t') (ps:Array Tmp) {a b:Code} (ha:B.ok a) (hb:B.ok b) (hN:B.okF f) {o o':Option Nat} (ho:OR B.rel o o') :
  SRel P (swap P fs) (fun C x y=>C x.1 y.1∧LR (DR C) x.2 y.2) B (Instr.enterLoop f t ps a b o) (Instr.enterLoop f t' ps a b o'):=by
 unfold Instr.enterLoop
 have last:∀ C d d' m m',B.le C→C d d'→LR (DR C) m m'→SRel P (swap P fs) (fun C x y=>C x.1 y.1∧LR (DR C) x.2 y.2) C
   (do pure (← newObj (.loop { state:=.ready,pending:=none,fn:=f,tmps:=t,params:=ps,assign:=a,body:=b,defers:=d }),m)) (do pure (← newObj (.loop { state:=.ready,pending:=none,fn:=f,tmps:=t',params:=ps,assign:=a,body:=b,defers:=d' }),m')):=fun C d d' m m' hl hd hm =>
  (yW (.loop (l:={ state:=.ready,pending:=none,fn:=f,tmps:=t,params:=ps,assign:=a,body:=b,defers:=d }) (l':={ state:=.ready,pending:=none,fn:=f,tmps:=t',params:=ps,assign:=a,body:=b,defers:=d' }) ⟨rfl,rfl,rfl,VsRel.mono hl ht,rfl,rfl,rfl,hd,by rw[hl.ok];exact ha,by rw[hl.ok];exact hb,(fun c e=>by simp at e),(by rw[hl.okF];exact hN)⟩)).bind fun D r r' l2 hr=>zd ⟨hr,hm.mono fun _ _=>DR.mono l2⟩
 cases ho with
 | some h=>exact (ZE h).bind fun C x y hl hx=>last C _ _ _ _ hl hx.defers .nil
 | none=>exact (yW (.deferred (.some .nil))).bind fun C r r' hl hr=>last C _ _ _ _ hl hr (.cons (.reg (.collected hr) Rows.empty trivial) .nil)
theorem beginRound_r (hB:Based P B) {l l':Nat} (h:B l l'):SRel P (swap P fs) (Same Unit) B (Instr.beginRound l) (Instr.beginRound l'):=by
 unfold Instr.beginRound
 refine (ZE h).bind fun C x y hl hx=>?_
 refine zb (qW (hl _ _ h) (.loop ⟨rfl,hx.pending,hx.fn,hx.tmps,hx.params,hx.assign,hx.body,hx.defers,hx.okA,hx.okB,hx.okP,hx.okN⟩)) fun D _ l2=>?_
 rw[hx.state]
 cases x.state with
 | ready=>exact zd rfl
 | done=>exact zG ((hB.mono hl).mono l2).handle _
 | busy=>exact zG ((hB.mono hl).mono l2).handle _
 | exhausted=>exact zG ((hB.mono hl).mono l2).handle _
theorem ite_step2 {n:Nat} {w0 w0':World} {c:Prop} [Decidable c] {a b:List Frame→(Nat→Question→Nat)→GStep} {a' b':GStep} (h1:c→StepR P fs F Lf k0 rest B n w0 w0' a a') (h2:¬c→∀ bot t,Lost (b bot t)):StepR P fs F Lf k0 rest B n w0 w0' (fun bot t=>if c then a bot t else b bot t) (if c then a' else b'):=by
 by_cases hc:c
 ·simp only[if_pos hc];exact h1 hc
 ·simp only[if_neg hc];exact .lost (h2 hc)
def zaT (P:Program) (mn:Bool) (fr:Frame) (cs:List Frame) (w:World) (jump:Option Code):GStep:=
 match fr.roundOf with
 | none=>if jump matches none|some .ret then .go { frame:={ fr with mode:=.returning },callers:=cs,status:=.running,dying:=none } w else .ended (.stuck "exit, goto: no such block or label" (fr.pos P)) w
 | some l =>
  let (r,es):=(Instr.endRound l jump).runT P w #[]
  GStep.after (seen P fr.fn es) <| match r with
  | .ok v w=>doReturn P mn fr cs none v w
  | .halt _ w=>.ended (.stuck "range over a function: no such loop" (fr.pos P)) w
theorem leave_r (H:Two P fs F Lf) (hF:Fit P Lf B) {mn:Bool} {fr fr':Frame} {cs cs':List Frame} {w w':World} (h:OnR P Lf k0 B fr fr' cs cs') (hw:WRel B w w')
  (jump:Option Code) (hj:∀ c,jump=some c→qs P Lic.loop c) :
  After P fs F Lf k0 rest B (fun bot w=>zaT P true fr (cs++bot) w jump) w w' (zaT (swap P fs) mn fr' (cs'++rest) w' jump):=by
 have hjump:∀ l l',B l l'→SRel P (swap P fs) VR B (Instr.endRound l jump) (Instr.endRound l' jump):=fun l l' hl=>endRound_r hl jump (by rw[hF.ok];exact hj)
 clear hj
 have hret:OnR P Lf k0 B { fr with mode:=.returning } { fr' with mode:=.returning } cs cs':=h.turn ⟨h.rel.fn,h.rel.tmps,h.rel.todo,h.rel.defers,.returning,h.rel.roundOf,h.rel.calm⟩
 unfold zaT
 obtain⟨fn,tm,td,df,md,kd,ro⟩:=fr
 obtain⟨fn',tm',td',df',md',kd',ro'⟩:=fr'
 have hr:OR B.rel ro ro':=h.rel.roundOf
 cases hr with
 | none =>
  dsimp only
  exact .all (ite_step2 (fun _=>hret.step hw (Nat.le_refl _)) (fun _ _ _=>trivial))
 | @some l l' hl =>
  dsimp only
  have hne:cs≠[]:=by
   intro e0
   subst e0
   have:=h.kinds
   cases cs' with
   | nil=>cases this.1
   | cons _ _=>exact this
  obtain⟨t0,n,hnn,hrun⟩:=(hjump l l' hl).run hw #[] #[]
  refine⟨t0,n,hnn,?_⟩
  rcases hrun with hbad|⟨D,x,x',w1,w1',u,u',he⟩|⟨D,x,x',w1,w1',u,u',he⟩
  ·refine .inl fun bot t ht=>?_
   obtain⟨hl,w2,es2,e,hb⟩:=hbad t ht
   simp only[e]
   exact Lost.after trivial
  rotate_left
  ·exact .inl fun bot t ht=>by simp only[he.left t ht];exact Lost.after trivial
  ·have hleft:=he.left
   have hright:=he.right
   simp only[Array.empty_append] at hleft hright
   simp only[hright]
   have hev':EsR D (seen P fn u) (seen (swap P fs) fn' u'):=by rw[show fn'=fn from h.rel.fn];exact yG H fn he.evs
   exact .inr ⟨_,fun bot t ht=>by simp only[hleft t ht],StepR.after he.up he.keeps.seen he.own hev' (JC hne (h.mono he.le) he.mem (Nat.le_of_eq he.drawn.symm) he.rel)⟩
theorem chooseRun_r (q:Question) {w w':World} (hw:WRel B w w'):∃ (t0:Nat→Question→Nat) (m:Nat),w.drawn≤m∧∃ n u u',(∀ t,Agrees t t0 w.drawn m→(choose q).run P { w with tape:=t }=.ok n { u with tape:=t })∧(choose q).run (swap P fs) w'=.ok n u'∧WRel B u u'∧m≤u.drawn∧u.heap=w.heap∧u'.heap=w'.heap∧Calm w' u':=by
 unfold choose
 cases hq:q.forced with
 | true =>
  refine⟨w.tape,w.drawn,Nat.le_refl _,0,w,w',fun t _=>?_,?_,hw,Nat.le_refl _,rfl,rfl,⟨rfl,rfl,rfl⟩⟩
  ·simp only[Sem.run,hq,if_true]
  ·simp only[Sem.run,hq,if_true]
 | false =>
  refine⟨fun _=>w'.tape w'.drawn,w.drawn+1,Nat.le_succ _,q.cut (w'.tape w'.drawn q),{ w with drawn:=w.drawn+1 },{ w' with drawn:=w'.drawn+1 },fun t ht=>?_,?_,hw.taped w.tape w'.tape _ _,Nat.le_refl _,rfl,rfl,⟨rfl,rfl,rfl⟩⟩
  ·simp only[Sem.run,hq,Bool.false_eq_true,if_false]
   rw[ht w.drawn (Nat.le_refl _) (Nat.lt_succ_self _)]
  ·simp only[Sem.run,hq,Bool.false_eq_true,if_false]
theorem calm_r {fr fr':Frame} (h:FrameR P Lf B fr fr') (hm:(Lf fr.fn).m=true):fr.roundOf=none∧fr'.roundOf=none:=by
 have e:fr.roundOf=none:=Classical.byContradiction fun hne=>by
  rw[h.calm hne] at hm
  cases hm
 have hr:=h.roundOf
 rw[e] at hr
 generalize fr'.roundOf=x at hr
 cases hr
 exact⟨e,rfl⟩
theorem oper_step (H:Two P fs F Lf) (hF:Fit P Lf B) (hq:∀ f,tryRecover f rest=none) {fr fr':Frame} {cs cs':List Frame} {w w':World} (h:OnR P Lf k0 B fr fr' cs cs') (hw:WRel B w w')
  (ho:∀ o,fr.oper?=some o→OpOk P (Lf fr.fn) o.op):After P fs F Lf k0 rest B (fun bot=>stepG.oper P true fr (cs++bot) none) w w' (stepG.oper (swap P fs) true fr' (cs'++rest) none w'):=by
 unfold stepG.oper
 rw[oper_r h.rel]
 have hρ : ∀ x,zu P (Lf fr.fn) x→VRel B (fr.eval x) (fr'.eval x):=fun x hx=>h.rel.eval hF.based hx
 cases e:fr.oper? with
 | none=>exact .lost fun _ t=>trivial
 | some o =>
  have hok:=ho o e
  have usual:=zcF (rest:=rest) H hF hq (calm_r h.rel) h hw (execOp_r H.types H.rows hF.based hρ (hF.out _) o hok)
  dsimp only
  have hr:=h.rel.roundOf
  have hc0:=h.rel.calm
  generalize e1:fr.roundOf=r at hr hc0
  generalize e2:fr'.roundOf=r' at hr
  cases hr with
  | none=>exact usual
  | some hl =>
   cases hc:o.op<;>simp only[hc] at hok<;>first|exact usual|skip
   have:=hok.1
   rw[hc0 (by simp)] at this
   cases this
end
end
section
section
variable {P:Program} {fs:Array Func} {F:FuncId→Prop} {Lf:FuncId→Lic} {k0:CallKind} {rest:List Frame} {bot:List Frame} {B C:Ren}
theorem to_r {n:Nat} {fr fr':Frame} {cs cs':List Frame} {w w':World} (h:OnR P Lf k0 B fr fr' cs cs') (hw:WRel B w w') (hn:n≤w.drawn) {t t':List Item} (ht:LR (ItemR P (Lf fr.fn) B) t t') :
  StepR P fs F Lf k0 rest B n w w' (fun bot u=>.go { frame:={ fr with todo:=t },callers:=cs++bot,status:=.running,dying:=none } { w with tape:=u }) (.go { frame:={ fr' with todo:=t' },callers:=cs'++rest,status:=.running,dying:=none } w'):=(h.todo ht).step hw hn
theorem StepR.same {n:Nat} {w w0 w' w0':World} {s s'} (h:StepR P fs F Lf k0 rest B n w w' s s') (e:w.heap=w0.heap) (e':w'.heap=w0'.heap) (eo:Calm w0' w'):StepR P fs F Lf k0 rest B n w0 w0' s s':=by
 cases h with
 | go l g w n e2 k o =>
  refine .go (by rw[← e,← e'];exact l) g w n e2 (k.of_heap e) ⟨by rw[← e'];exact o.size,eo.trans o.os,fun b hb=>?_,by rw[← e];exact o.sizeL,fun r hr=>by rw[← e];exact o.sameL r (by rw[e];exact hr)⟩
  rcases o.same b (by rw[e'];exact hb) with h1|⟨r,h1,h2⟩
  ·exact .inl (by rw[← e'];exact h1)
  ·exact .inr ⟨r,h1,fun ⟨c,t,m,h3,h4⟩=>h2 ⟨c,t,m,by rw[e];exact h3,h4⟩⟩
 | lost h=>exact .lost h
theorem Agrees.left {t t0 t1:Nat→Question→Nat} {a b c:Nat} (h:Agrees t (fun d=>if d<b then t0 d else t1 d) a c) (hb:b≤c):Agrees t t0 a b:=fun d h1 h2=>by
 rw[h d h1 (Nat.lt_of_lt_of_le h2 hb)]
 exact if_pos h2
theorem Agrees.right {t t0 t1:Nat→Question→Nat} {a b c:Nat} (h:Agrees t (fun d=>if d<b then t0 d else t1 d) a c) (hb:a≤b):Agrees t t1 b c:=fun d h1 h2=>by
 rw[h d (Nat.le_trans hb h1) h2]
 exact if_neg (Nat.not_lt.2 h1)
theorem After.then {f g:List Frame→World→GStep} {w w1 w' w1':World} {s':GStep} (t0:Nat→Question→Nat) {n:Nat} {es es':Array Event} (hl:B.up C w.heap.size w'.heap.size) (hk:Seals w w1 es) (ho:Own w w1 w' w1' C) (he:EsR C es es') (hn:w.drawn≤n) (hd:w1.drawn=n) (e:∀ bot t,Agrees t t0 w.drawn n→f bot { w with tape:=t }=GStep.after es (g bot { w1 with tape:=t })) (h:After P fs F Lf k0 rest C g w1 w1' s') :
  After P fs F Lf k0 rest B f w w' (GStep.after es' s'):=by
 obtain⟨t1,m,hm,h⟩:=h
 subst hd
 refine⟨fun d=>if d<w1.drawn then t0 d else t1 d,m,Nat.le_trans hn hm,?_⟩
 rcases h with h|⟨G,h,hs⟩
 ·exact .inl fun bot t ht=>by rw[e bot t (ht.left hm)];exact (h bot t (ht.right hn)).after
 ·exact .inr ⟨_,fun bot t ht=>(e bot t (ht.left hm)).trans (congrArg (GStep.after es) (h bot t (ht.right hn))),StepR.after hl hk ho he hs⟩
theorem rangeFunc_r (H:Two P fs F Lf) (hF:Fit P Lf B) (hq:∀ f,tryRecover f rest=none) {fr fr':Frame} {cs cs':List Frame} {w w':World} (h:OnR P Lf k0 B fr fr' cs cs') (hw:WRel B w w') (f:Operand) (ps:Array Tmp) (a b:Code) (hf:zu P (Lf fr.fn) f) (ha:qs P (Lf fr.fn) a) (hb:qs P (Lf fr.fn) b) (hnd:Lf fr.fn=Lic.loop)
  {k k':List Item} (hk:LR (ItemR P (Lf fr.fn) B) k k') :
  After P fs F Lf k0 rest B
   (fun bot w=>let (r,es):=(Instr.enterLoop fr.fn fr.tmps ps a b fr.roundOf).runT P w #[]
   GStep.after (seen P fr.fn es) <| match r with
   | .ok (l,mark) w =>
    let fr:={ fr with todo:=.inRangeFunc l::k,defers:=mark++fr.defers }
    let call:Call:={ callee:=.value f,args:=#[.const (.func (.yield l) #[] #[])],argTypes:=#[] }
    stepG.apply P true fr (cs++bot) none (do let d ← resolve fr.eval call 0;invoke d.target d.args) w
   | .halt _ w=>.ended (.stuck "range over a function: no such loop" (fr.pos P)) w) w w'
   (let (r,es):=(Instr.enterLoop fr'.fn fr'.tmps ps a b fr'.roundOf).runT (swap P fs) w' #[]
   GStep.after (seen (swap P fs) fr'.fn es) <| match r with
   | .ok (l,mark) w =>
    let fr:={ fr' with todo:=.inRangeFunc l::k',defers:=mark++fr'.defers }
    let call:Call:={ callee:=.value f,args:=#[.const (.func (.yield l) #[] #[])],argTypes:=#[] }
    stepG.apply (swap P fs) true fr (cs'++rest) none (do let d ← resolve fr.eval call 0;invoke d.target d.args) w
   | .halt _ w=>.ended (.stuck "range over a function: no such loop" (fr'.pos (swap P fs))) w):=by
 obtain⟨t0,n,hnn,hrun⟩:=(enterLoop_r (P:=P) (fs:=fs) fr.fn (h.rel.tmps.all (by rw[hnd];exact fun _ h=>h)) ps (by rw[hF.ok,← hnd];exact ha) (by rw[hF.ok,← hnd];exact hb) (by rw[hF.okF];exact hnd) h.rel.roundOf).run hw #[] #[]
 rw[h.rel.fn]
 rcases hrun with hbad|⟨D,x,x',w1,w1',u,u',he⟩|⟨D,x,x',w1,w1',u,u',he⟩
 ·refine⟨t0,n,hnn,.inl fun bot t ht=>?_⟩
  obtain⟨hl,w2,es2,e,hb⟩:=hbad t ht
  simp only[e]
  exact Lost.after trivial
 rotate_left
 ·exact⟨t0,n,hnn,.inl fun bot t ht=>by simp only[he.left t ht];exact Lost.after trivial⟩
 ·obtain⟨l,mark⟩:=x
  obtain⟨l',mark'⟩:=x'
  have hleft:=he.left
  have hright:=he.right
  simp only[Array.empty_append] at hleft hright
  simp only[hright]
  have hx:=he.rel
  have hF1:=hF.mono he.le
  have h1:=h.mono he.le
  have h2:OnR P Lf k0 D { fr with todo:=.inRangeFunc l::k,defers:=mark++fr.defers } { fr' with fn:=fr.fn,todo:=.inRangeFunc l'::k',defers:=mark'++fr'.defers } cs cs':=
   h1.turn ⟨rfl,h1.rel.tmps,.cons (.inRangeFunc hx.1 hnd) (hk.mono fun _ _=>ItemR.mono he.le),(zeF hx.2).append h1.rel.defers,h1.rel.mode,h1.rel.roundOf,h1.rel.calm⟩
  refine After.then (g:=fun bot=>stepG.apply P true { fr with todo:=.inRangeFunc l::k,defers:=mark++fr.defers } (cs++bot) none (do let d ← resolve (Frame.eval { fr with todo:=.inRangeFunc l::k,defers:=mark++fr.defers }) { callee:=.value f,args:=#[.const (.func (.yield l) #[] #[])],argTypes:=#[] } 0;invoke d.target d.args)) t0 he.up he.keeps.seen he.own (yG H fr.fn he.evs) hnn he.drawn (fun bot t ht=>by simp only[hleft t ht]) (zcF (m:=false) H hF1 hq (fun e=>by cases e) h2 he.mem (SRel.weaken ?_ fun _ _ _ _ h=>.of h))
  refine SRel.bind (zbU (h2.rel.eval hF1.based hf) ?_) fun E d d' l2 hd=>Yy H.types H.rows (hF1.based.mono l2) hd.1
  rw[List.map_toArray,List.map_toArray]
  exact Rows.one (.func (.yield hx.1) rfl (fun i x y h=>by simp at h) rfl (fun i x y h=>by simp at h))
theorem zcj {α : Type} {R : α→α→Prop} {o o':Option α} (h:OR R o o') {w w':World} {a:List Frame→World→GStep} {a':GStep} {g : α→List Frame→World→GStep} {g' : α→GStep} (h1:After P fs F Lf k0 rest B a w w' a') (h2:∀ x x',R x x'→After P fs F Lf k0 rest B (g x) w w' (g' x')):After P fs F Lf k0 rest B (fun bot w=>o.elim (a bot w) (fun x=>g x bot w)) w w' (o'.elim a' g'):=by
 cases h with
 | none=>exact h1
 | some hx=>exact h2 _ _ hx
theorem exec_r (H:Two P fs F Lf) (hF:Fit P Lf B) (hq:∀ f,tryRecover f rest=none) {mn:Bool} {fr fr':Frame} {cs cs':List Frame} {w w':World} (h:OnR P Lf k0 B fr fr' cs cs') (hw:WRel B w w') :
  After P fs F Lf k0 rest B (fun bot=>stepG.exec P true true fr (cs++bot) none) w w' (stepG.exec (swap P fs) mn true fr' (cs'++rest) none w'):=by
 have hop:∀ o,fr.oper?=some o→OpOk P (Lf fr.fn) o.op:=by
  intro o ho
  have:=h.rel.todo
  unfold Frame.oper? at ho
  generalize fr.todo=t at this ho
  generalize fr'.todo=t' at this
  cases this with
  | nil=>cases ho
  | cons hx _ =>
   cases hx<;>first|(cases ho;done)|skip
   rename_i l hl
   cases l with
   | nil=>cases ho
   | cons i r=>exact (hl i o ho).1
 have hoper:=oper_step (rest:=rest) H hF hq h hw hop
 clear hop
 obtain⟨fn,tm,td,df,md,kd,ro⟩:=fr
 obtain⟨fn',tm',td',df',md',kd',ro'⟩:=fr'
 have leave:∀ jump,(∀ c,jump=some c→qs P Lic.loop c)→After P fs F Lf k0 rest B (fun bot w=>zaT P true ⟨fn,tm,td,df,md,kd,ro⟩ (cs++bot) w jump) w w' (zaT (swap P fs) mn ⟨fn',tm',td',df',md',kd',ro'⟩ (cs'++rest) w' jump):=fun jump hj=>leave_r H hF h hw jump hj
 have to:∀ {t t'},LR (ItemR P (Lf fn) B) t t'→After P fs F Lf k0 rest B (fun bot w=>.go { frame:=⟨fn,tm,t,df,md,kd,ro⟩,callers:=cs++bot,status:=.running,dying:=none } w) w w' (.go { frame:=⟨fn',tm',t',df',md',kd',ro'⟩,callers:=cs'++rest,status:=.running,dying:=none } w'):=fun ht=>.all (to_r h hw (Nat.le_refl _) ht)
 have htodo:LR (ItemR P (Lf fn) B) td td':=h.rel.todo
 unfold stepG.exec
 dsimp only
 cases htodo with
 | nil=>exact leave none (fun c e=>by cases e)
 | @cons x x' k k' hx hk =>
  cases hx with
  | @code c hc =>
   cases c with
   | skip=>exact to hk
   | label l=>exact to hk
   | ret=>exact leave (some .ret) (fun c e=>by cases e;trivial)
   | seq a b=>exact to (.cons (.code hc.1) (.cons (.code hc.2) hk))
   | cond c a b =>
    have hv:=h.rel.eval hF.based hc.1
    dsimp only
    generalize Frame.eval _ c=v at hv ⊢
    generalize Frame.eval _ c=v' at hv ⊢
    cases hv<;>first|exact .lost fun _ t=>trivial|skip
    rename_i b
    cases b
    ·exact to (.cons (.code hc.2.2) hk)
    ·exact to (.cons (.code hc.2.1) hk)
   | block i c=>exact to (.cons (.code hc) (.cons (.inBlock i) hk))
   | loop c=>exact to (.cons (.code hc) (.cons (.inLoop hc) hk))
   | scope c=>exact to (.cons (.code hc) (.cons (.inScope hc) hk))
   | exit i=>exact zcj (exitTo_r i hk) (leave (some (.exit i)) (fun c e=>by cases e;trivial)) fun _ _ ht=>to ht
   | goto i=>exact zcj (gotoIn_r i hk) (leave (some (.goto i)) (fun c e=>by cases e;trivial)) fun _ _ ht=>to ht
   | refuse why=>exact .lost fun _ t=>trivial
   | rangeFunc f ps a b=>exact rangeFunc_r H hF hq h hw f ps a b hc.1 hc.2.1 hc.2.2.1 hc.2.2.2 hk
   | region i ops draw =>
    dsimp only
    cases draw with
    | false =>
     simp only[Bool.not_false,if_true]
     exact to (.cons (.inRegion _ hc) hk)
    | true =>
     simp only[Bool.not_true,Bool.false_eq_true,if_false]
     obtain rfl:fn'=fn:=h.rel.fn
     obtain⟨t0,m,hm,n,u,u',e1,e2,hu,hmu,hhp,hhp',hho⟩:=chooseRun_r (P:=P) (fs:=fs) (.order fn' i) hw
     rw[e2]
     exact⟨t0,m,hm,.inr ⟨_,fun bot t ht=>by simp only[e1 t ht],(to_r h hu hmu (.cons (.inRegion _ hc) hk)).same hhp hhp' hho⟩⟩
  | inBlock i=>exact to hk
  | inLoop hc=>exact to (.cons (.code hc) (.cons (.inLoop hc) hk))
  | inScope hc=>exact to hk
  | inRangeFunc hl _=>exact .lost fun _ t=>trivial
  | endRangeFunc hl hlp =>
   dsimp only
   obtain⟨t0,n,hnn,hrun⟩:=(endLoop_r (P:=P) (fs:=fs) hF.based hl).run hw #[] #[]
   refine⟨t0,n,hnn,?_⟩
   rcases hrun with hbad|⟨D,j,j',w1,w1',u,u',he⟩|⟨D,j,j',w1,w1',u,u',he⟩
   ·refine .inl fun bot t ht=>?_
    obtain⟨hl,w2,es2,e,hb⟩:=hbad t ht
    simp only[e]
    refine Lost.after ?_
    cases hl<;>first|exact hb.elim|exact trivial
   rotate_left
   ·have hleft:=he.left
    have hright:=he.right
    simp only[Array.empty_append] at hleft hright
    simp only[hright]
    have hev':EsR D (seen P fn u) (seen (swap P fs) fn' u'):=by rw[show fn'=fn from h.rel.fn];exact yG H fn he.evs
    exact .inr ⟨_,fun bot t ht=>by simp only[hleft t ht],StepR.after he.up he.keeps.seen he.own hev' (((h.mono he.le).raise (zaA he.rel)).step he.mem (Nat.le_of_eq he.drawn.symm))⟩
   ·have hleft:=he.left
    have hright:=he.right
    simp only[Array.empty_append] at hleft hright
    simp only[hright]
    have hev':EsR D (seen P fn u) (seen (swap P fs) fn' u'):=by rw[show fn'=fn from h.rel.fn];exact yG H fn he.evs
    obtain⟨rfl,hj⟩:=he.rel
    refine .inr ⟨_,fun bot t ht=>by simp only[hleft t ht],StepR.after he.up he.keeps.seen he.own hev' (to_r (t:=(j'.map Item.code).toList++k) (t':=(j'.map Item.code).toList++k') (h.mono he.le) he.mem (Nat.le_of_eq he.drawn.symm) ?_)⟩
    refine LR.append ?_ (hk.mono fun _ _=>ItemR.mono he.le)
    cases j' with
    | none=>exact .nil
    | some c =>
     have:=hj c rfl
     rw[(hF.mono he.le).ok] at this
     refine .cons (.code ?_) .nil
     rw[show Lf fn=Lic.loop from hlp]
     exact this
  | beginRound =>
   refine zcF (m:=false) H hF hq (fun e=>by cases e) h hw (SRel.weaken (R:=NR) ?_ fun _ _ _ _ h=>.of h)
   have hr:OR B.rel ro ro':=h.rel.roundOf
   refine zb ?_ fun C _ hl=>zd .skip
   cases hr with
   | none=>exact ze
   | some hl=>exact beginRound_r hF.based hl
  | @inRegion ops l ho =>
   cases l with
   | nil=>exact to hk
   | cons i r =>
    dsimp only
    have hy:yielded ops tm'=yielded ops tm:=funext fun j=>yielded_r ho h.rel.tmps j
    rw[hy]
    split
    ·exact hoper
    ·exact .all ((h.finish (VRel.undef B)).step hw (Nat.le_refl _))
theorem stepG_r (H:Two P fs F Lf) (hF:Fit P Lf B) (hq:∀ f,tryRecover f rest=none) {mn:Bool} {fr fr':Frame} {cs cs':List Frame} {w w':World} (h:OnR P Lf k0 B fr fr' cs cs') (hw:WRel B w w') (hs:cs=[]→fr.mode=.run∨fr.defers≠[]) :
  After P fs F Lf k0 rest B (fun bot w=>stepG P true { frame:=fr,callers:=cs++bot,status:=.running,dying:=none } w) w w' (stepG (swap P fs) mn { frame:=fr',callers:=cs'++rest,status:=.running,dying:=none } w'):=by
 have he:=exec_r (rest:=rest) (mn:=mn) H hF hq h hw
 have hu:=unwind_r (rest:=rest) (mn:=mn) H hF h hw hs
 have hm:=h.rel.mode
 unfold stepG
 dsimp only
 generalize fr.mode=m at hm ⊢
 generalize fr'.mode=m' at hm ⊢
 cases hm with
 | run=>exact he
 | returning=>exact hu
 | panicking _=>exact hu
end
end
end Go.Par
