/- Left states: a good one comes to its end on whatever tape; so it cannot go on for ever. What stands below is a door: whoever comes out of the function otherwise than by a return ends the .. -/
import Derived.Test.YtlgiofglcgbjgaaM07
import Derived.Calls
import Derived.Conc.Beside
import Derived.Conc.CrowdTrace
namespace Go.Par
open Go
section
def door (P:Program):Frame:={ fn:=P.funcs.size,tmps:=#[undef],todo:=[.call { target:=.nil,args:=#[] } false "fmt's door" #[]],defers:=[],mode:=.run,kind:=.normal }
structure St where
 fr:Frame
 cs:List Frame
 w:World
def St.g (s:St):Goroutine:={ frame:=s.fr,callers:=s.cs,status:=.running,dying:=none }
def St.on (s:St) (t:Nat→Question→Nat):Machine:=lone s.fr s.cs { s.w with tape:=t }
def St.stop (P:Program) (s:St):Prop:=s.cs=[door P]∧s.fr.mode≠.run∧s.fr.defers=[]
section
variable {P:Program}
theorem next_door:Extern.next "fmt's door" = none:=by decide +kernel
theorem door_finish (v:Value) (w:World):∃ o w',Go.step P (lone ((door P).finish v) [] w)=.ended o w':=by
 have:∃ o es,stepG P true { frame:=(door P).finish v,callers:=[],status:=.running,dying:=none } w=.ended o w es:=by
  simp only[door,Frame.finish,stepG,stepG.exec,next_door,Option.elim_none]
  exact⟨_,_,rfl⟩
 obtain⟨o,es,h⟩:=this
 exact⟨o,w,step_lone_ended (by rw[h];rfl)⟩
theorem door_raise (c:List PanicEntry) (w:World):∃ o w',Go.step P (lone ((door P).raise c) [] w)=.ended o w':=by
 have:∃ o es,stepG P true { frame:=(door P).raise c,callers:=[],status:=.running,dying:=none } w=.ended o w es:=by
  have hcat:Frame.catches P ((door P).raise c)=true:=by
   simp only[Frame.catches,door,Frame.raise,Array.getElem?_eq_none (Nat.le_refl _)]
   decide +kernel
  have hm:((door P).raise c).mode=.panicking c:=rfl
  have hd:((door P).raise c).defers=[]:=rfl
  simp only[stepG,hm,unwind,hd,hcat,if_true]
  exact⟨_,_,rfl⟩
 obtain⟨o,es,h⟩:=this
 exact⟨o,w,step_lone_ended (by rw[h];rfl)⟩
theorem stop_step {fr:Frame} {w:World} (hm:fr.mode≠.run) (hd:fr.defers=[]) (hk:fr.kind=.normal) :
  (∃ o w',Go.step P (lone fr [door P] w)=.ended o w')∨∃ c w1,Go.step P (lone fr [door P] w)=.next (lone c [] w1)∧∃ o w',Go.step P (lone c [] w1)=.ended o w':=by
 have ended:(∃ o w' es,stepG P true { frame:=fr,callers:=[door P],status:=.running,dying:=none } w=.ended o w' es)→∃ o w',Go.step P (lone fr [door P] w)=.ended o w':=
  fun ⟨o,w',es,h⟩=>⟨o,w',step_lone_ended (by rw[h];rfl)⟩
 have back:(∃ v w' es,stepG P true { frame:=fr,callers:=[door P],status:=.running,dying:=none } w=.go { frame:=(door P).finish v,callers:=[],status:=.running,dying:=none } w' es) →
   ∃ c w1,Go.step P (lone fr [door P] w)=.next (lone c [] w1)∧∃ o w',Go.step P (lone c [] w1)=.ended o w':=
  fun ⟨v,w',es,h⟩=>⟨_,w',step_lone_go (by rw[h];rfl),door_finish v w'⟩
 cases hmd:fr.mode with
 | run=>exact absurd hmd hm
 | panicking c =>
  cases hc:fr.catches P with
  | true =>
   refine .inl (ended ?_)
   simp only[stepG,hmd,unwind,hd,hc,if_true]
   exact⟨_,_,_,rfl⟩
  | false =>
   refine .inr ⟨(door P).raise c,w,step_lone_go ?_,door_raise c w⟩
   simp only[stepG,hmd,unwind,hd,hc,Bool.false_eq_true,if_false]
   rfl
 | returning =>
  cases hf:P.funcs[fr.fn]? with
  | none =>
   refine .inr (back ?_)
   simp only[stepG,hmd,unwind,hd,hf,doReturn,hk]
   exact⟨_,_,_,rfl⟩
  | some fn =>
   cases hr:(results fn fr.tmps).runT P w #[] with
   | mk r es =>
    cases r with
    | ok v w1 =>
     refine .inr (back ?_)
     simp only[stepG,hmd,unwind,hd,hf,hr,doReturn,hk,GStep.after]
     exact⟨_,_,_,rfl⟩
    | halt h w1 =>
     refine .inl (ended ?_)
     simp only[stepG,hmd,unwind,hd,hf,hr]
     cases h<;>exact⟨_,_,_,rfl⟩
structure Nxt (P:Program) (s s1:St) (es:Array Event):Prop where
 le:s.w.drawn≤s1.w.drawn
 past:∀ d,d<s.w.drawn→s1.w.tape d=s.w.tape d
 step:∀ t,Agrees t s1.w.tape s.w.drawn s1.w.drawn→stepG P true s.g { s.w with tape:=t }=.go s1.g { s1.w with tape:=t } es
 keeps:Seals s.w s1.w es
structure Leads (P:Program) (n:Nat) (s s1:St):Prop where
 le:s.w.drawn≤s1.w.drawn
 past:∀ d,d<s.w.drawn→s1.w.tape d=s.w.tape d
 run:∀ t,(∀ d,d<s1.w.drawn→t d=s1.w.tape d)→∃ k,n≤k∧runN P k (s.on t)=.next (s1.on t)
def Good (P:Program) (Q:Frame→World→Prop) (s:St):Prop:=
 ∀ t,(∀ d,d<s.w.drawn→t d=s.w.tape d)→∃ k fr w,runN P k (s.on t)=.next (lone fr [door P] w)∧fr.mode=.returning∧fr.defers=[]∧fr.kind=.normal∧Q fr w
variable {Q:Frame→World→Prop} {s s1 s2:St} {es:Array Event}
theorem Leads.refl (s:St):Leads P 0 s s:=⟨Nat.le_refl _,fun _ _=>rfl,fun _t _=>⟨0,Nat.le_refl _,rfl⟩⟩
theorem Leads.trans {n m:Nat} (h:Leads P n s s1) (k:Leads P m s1 s2):Leads P (n+m) s s2:=by
 refine⟨Nat.le_trans h.le k.le,fun d hd=>(k.past d (Nat.lt_of_lt_of_le hd h.le)).trans (h.past d hd),fun t ht=>?_⟩
 obtain⟨i,hi,e1⟩:=h.run t fun d hd=>by rw[ht d (Nat.lt_of_lt_of_le hd k.le),k.past d hd]
 obtain⟨j,hj,e2⟩:=k.run t ht
 exact⟨i+j,Nat.add_le_add hi hj,by rw[runN_add,e1];exact e2⟩
theorem Leads.mono {n m:Nat} (h:Leads P n s s1) (e:m≤n):Leads P m s s1:=⟨h.le,h.past,fun t ht=>let ⟨k,hk,hr⟩:=h.run t ht;⟨k,Nat.le_trans e hk,hr⟩⟩
theorem Nxt.leads (h:Nxt P s s1 es):Leads P 1 s s1:=by
 refine⟨h.le,h.past,fun t ht=>⟨1,Nat.le_refl _,?_⟩⟩
 have e:Go.step P (s.on t)=.next (s1.on t):=by
  refine step_lone_go ?_
  have:=h.step t fun d _ hd=>ht d hd
  unfold St.g at this
  rw[this]
  rfl
 simp[runN,e]
theorem zak {P:Program} {m m':Machine} {o:Outcome} {w:World} {k:Nat} (h:runN P k m=.next m') (e:Go.step P m'=.ended o w) (j:Nat):runN P (k+1+j) m=.ended o w:=by
 rw[Nat.add_assoc,runN_add,h]
 have:∀ j,runN P (1+j) m'=.ended o w:=by
  intro j
  rw[Nat.add_comm]
  simp[runN,e]
 exact this j
theorem zbj {m:Machine} {fr:Frame} {w:World} {k:Nat} (hr:runN P k m=.next (lone fr [door P] w)) (hm:fr.mode≠.run) (hd:fr.defers=[]) (hk:fr.kind=.normal) {j:Nat} {m':Machine} (hj:runN P (k+1+j) m=.next m'):∃ c w1,m'=lone c [] w1∧j=0:=by
 rcases stop_step (P:=P) (fr:=fr) (w:=w) hm hd hk with ⟨o,w',e⟩|⟨c,w1,e,o,w',e2⟩
 ·rw[zak hr e j] at hj
  cases hj
 ·have h1:runN P (k+1) m=.next (lone c [] w1):=by
   rw[runN_add,hr]
   simp[runN,e]
  cases j with
  | zero =>
   rw[Nat.add_zero,h1] at hj
   cases hj
   exact⟨c,w1,rfl,rfl⟩
  | succ j =>
   have:=zak h1 e2 j
   rw[show k+1+1+j=k+1+(j+1) by omega] at this
   rw[this] at hj
   cases hj
theorem Good.leads {n:Nat} (h:Good P Q s) (hl:Leads P n s s1) (hne:s1.cs≠[]):Good P Q s1:=by
 intro t ht
 obtain⟨k,fr,w,hr,hm,hd,hk,hq⟩:=h t fun d hd=>by rw[ht d (Nat.lt_of_lt_of_le hd hl.le),hl.past d hd]
 obtain⟨k1,_,h1⟩:=hl.run t ht
 rcases Nat.lt_or_ge k k1 with hlt|hge
 ·exfalso
  obtain⟨j,rfl⟩:∃ j,k1=k+1+j:=⟨k1-(k+1),by omega⟩
  obtain⟨c,w1,e,_⟩:=zbj hr (by rw[hm];simp) hd hk h1
  unfold St.on lone at e
  simp at e
  exact hne e.2.2
 ·obtain⟨j,rfl⟩:=Nat.le.dest hge
  rw[runN_add,h1] at hr
  exact⟨j,fr,w,hr,hm,hd,hk,hq⟩
theorem Good.acc (h:Good P Q s):Acc (fun b a=>Leads P 1 a b) s:=by
 classical
 refine Classical.byContradiction fun hna=>?_
 have succ:∀ a:{ a:St // ¬ Acc (fun b a=>Leads P 1 a b) a },∃ b:{ a:St // ¬ Acc (fun b a=>Leads P 1 a b) a },Leads P 1 a.1 b.1:=by
  intro ⟨a,hna⟩
  refine Classical.byContradiction fun hno=>hna ⟨_,fun b hb=>Classical.byContradiction fun hnb=>hno ⟨⟨b,hnb⟩,hb⟩⟩
 let nx:=fun a=>Classical.choose (succ a)
 have hnx:∀ a,Leads P 1 a.1 (nx a).1:=fun a=>Classical.choose_spec (succ a)
 let f:Nat→{ a:St // ¬ Acc (fun b a=>Leads P 1 a b) a }:=fun n=>Nat.rec ⟨s,hna⟩ (fun _ a=>nx a) n
 have hf:∀ n,Leads P 1 (f n).1 (f (n+1)).1:=fun n=>hnx (f n)
 have mono:∀ i j,(f i).1.w.drawn≤(f (i+j)).1.w.drawn:=by
  intro i j
  induction j with
  | zero=>exact Nat.le_refl _
  | succ j ih=>exact Nat.le_trans ih (hf (i+j)).le
 have coh:∀ i j d,d<(f i).1.w.drawn→(f (i+j)).1.w.tape d=(f i).1.w.tape d:=by
  intro i j d hd
  induction j with
  | zero=>rfl
  | succ j ih=>exact ((hf (i+j)).past d (Nat.lt_of_lt_of_le hd (mono i j))).trans ih
 let T:Nat→Question→Nat:=fun d=>if hk:∃ k,d<(f k).1.w.drawn then (f (Classical.choose hk)).1.w.tape d else fun _=>0
 have hT:∀ k d,d<(f k).1.w.drawn→T d=(f k).1.w.tape d:=by
  intro k d hd
  have hk:∃ k,d<(f k).1.w.drawn:=⟨k,hd⟩
  have e:T d=(f (Classical.choose hk)).1.w.tape d:=dif_pos hk
  have hc:=Classical.choose_spec hk
  rw[e]
  generalize Classical.choose hk=j at hc
  rcases Nat.le_total j k with hjk|hjk
  ·obtain⟨m,rfl⟩:=Nat.le.dest hjk
   exact (coh j m d hc).symm
  ·obtain⟨m,rfl⟩:=Nat.le.dest hjk
   exact coh k m d hd
 have run:∀ k,∃ K,k≤K∧runN P K ((f 0).1.on T)=.next ((f k).1.on T):=by
  intro k
  induction k with
  | zero=>exact⟨0,Nat.le_refl _,by simp[runN]⟩
  | succ k ih =>
   obtain⟨K,hK,e⟩:=ih
   obtain⟨j,hj,e2⟩:=(hf k).run T (hT (k+1))
   exact⟨K+j,by omega,by rw[runN_add,e];exact e2⟩
 obtain⟨k,fr,w,hr,hm,hd,hk,hq⟩:=h T (hT 0)
 obtain⟨K,hK,e⟩:=run (k+2)
 obtain⟨j,rfl⟩:∃ j,K=k+1+(j+1):=⟨K-(k+2),by omega⟩
 obtain⟨c,w1,_,e0⟩:=zbj hr (by rw[hm];simp) hd hk e
 omega
end
end
section
section
variable {P:Program} {f:FuncId} {args:Array Value} {w:World} {R:Ending→World→Prop}
def Done (P:Program) (f:FuncId) (R:Ending→World→Prop) (fr:Frame) (w:World):Prop:=fr.fn=f∧∃ v,R (.returned v) w∧fr.leaving P w (.returned v)
theorem Zy (hR:∀ e w',R e w'→∃ v,e=.returned v) (hc:∀ t,(∀ d,d<w.drawn→t d=w.tape d)→Calls P f args { w with tape:=t } R) :
  Good P (Done P f R) ⟨Frame.enter P f args .normal,[door P],w⟩:=by
 intro t ht
 obtain⟨e,w',fr,hr,hcm,hf,hl⟩:=hc t ht [door P]
 obtain⟨v,rfl⟩:=hR _ _ hr
 obtain⟨k,hk⟩:=hcm
 exact⟨k,fr,w',hk,hl.1,hl.2.1,hl.2.2.1,hf,v,hr,hl⟩
theorem Good.stop {Q:Frame→World→Prop} {s:St} (h:Good P Q s) (hs:s.stop P) (hk:s.fr.kind=.normal):s.fr.mode=.returning∧∀ t,(∀ d,d<s.w.drawn→t d=s.w.tape d)→Q s.fr { s.w with tape:=t }:=by
 obtain⟨sfr,scs,sw⟩:=s
 obtain⟨rfl,hm,hd⟩:=hs
 simp only at hm hd hk
 have key:∀ t,(∀ d,d<sw.drawn→t d=sw.tape d)→sfr.mode=.returning∧Q sfr { sw with tape:=t }:=by
  intro t ht
  obtain⟨k,fr,w,hr,hrm,hrd,hrk,hq⟩:=h t ht
  cases k with
  | zero =>
   have e:St.on ⟨sfr,[door P],sw⟩ t=lone fr [door P] w:=by simpa[runN] using hr
   unfold St.on lone at e
   simp only[Machine.mk.injEq,Array.mk.injEq,List.cons.injEq,Goroutine.mk.injEq,and_true] at e
   obtain⟨e0,e1⟩:=e
   subst e1
   rw[← e0] at hq
   exact⟨hrm,hq⟩
  | succ k =>
   exfalso
   have h0:runN P 0 (St.on ⟨sfr,[door P],sw⟩ t)=.next (lone sfr [door P] { sw with tape:=t }):=by simp[runN,St.on]
   obtain⟨c,w1,e,_⟩:=zbj h0 hm hd hk (j:=k) (by rw[show 0+1+k=k+1 by omega];exact hr)
   unfold lone at e
   simp at e
 exact⟨(key sw.tape fun _ _=>rfl).1,fun t ht=>(key t ht).2⟩
end
end
section
section
variable {P:Program} {fs:Array Func} {F:FuncId→Prop} {Lf:FuncId→Lic} {k0:CallKind} {rest bot:List Frame} {B:Ren} {Q:Frame→World→Prop}
theorem Seals.to_heap {w w1 v:World} {es:Array Event} (h:Seals w w1 es) (e:w1.heap=v.heap):Seals w v es:=
 ⟨fun b hb=>⟨(by obtain⟨c,t,m,h1,h2⟩:=(h.rows b hb).1;exact⟨c,t,m,by rw[← e];exact h1,h2⟩),fun c t m h1=>by obtain⟨m1,h2⟩:=(h.rows b hb).2 c t m h1;exact⟨m1,by rw[← e];exact h2⟩⟩,h.evs,by rw[← e];exact h.size⟩
theorem Good.alive {s:St} (h:Good P Q s) (hs:¬ s.stop P) {t:Nat→Question→Nat} (ht:∀ d,d<s.w.drawn→t d=s.w.tape d) (hl:Lost (stepG P true s.g { s.w with tape:=t })):False:=by
 obtain⟨k,fr,w,hr,hm,hd,hk,hq⟩:=h t ht
 cases k with
 | zero =>
  refine hs ?_
  have e:s.on t=lone fr [door P] w:=by simpa[runN] using hr
  unfold St.on lone at e
  simp only[Machine.mk.injEq,Array.mk.injEq,List.cons.injEq,Goroutine.mk.injEq,and_true] at e
  obtain⟨_,e1,e2⟩:=e
  exact⟨e2,by rw[e1,hm];simp,by rw[e1,hd]⟩
 | succ k =>
  generalize hx:stepG P true s.g { s.w with tape:=t }=x at hl
  cases x with
  | ended o w1 es =>
   have:Go.step P (s.on t)=.ended o w1:=step_lone_ended (by unfold St.g at hx;rw[hx];rfl)
   simp[runN,this] at hr
  | _=>exact hl
theorem g_eta {g:Goroutine} (h1:g.status=.running) (h2:g.dying=none) (h3:g.offers=none):g={ frame:=g.frame,callers:=g.callers,status:=.running,dying:=none }:=by
 obtain⟨fr,cs,st,dy,of⟩:=g
 simp only at h1 h2 h3
 subst h1 h2 h3
 rfl
theorem GRel.cs_ne (hb:bot≠[]) {g g':Goroutine} (h:GRel P fs F Lf k0 rest bot B g g'):g.callers≠[]:=by
 obtain⟨cs,_,e,_⟩:=h.callers
 rw[e]
 intro h0
 exact hb (List.append_eq_nil_iff.1 h0).2
structure NxtA (P:Program) (fr:Frame) (cs:List Frame) (w:World) (fr1:Frame) (cs1:List Frame) (w1:World) (es:Array Event):Prop where
 le:w.drawn≤w1.drawn
 past:∀ d,d<w.drawn→w1.tape d=w.tape d
 step:∀ bot t,Agrees t w1.tape w.drawn w1.drawn→stepG P true { frame:=fr,callers:=cs++bot,status:=.running,dying:=none } { w with tape:=t }=.go { frame:=fr1,callers:=cs1++bot,status:=.running,dying:=none } { w1 with tape:=t } es
 keeps:Seals w w1 es
theorem NxtA.nxt {fr fr1:Frame} {cs cs1:List Frame} {w w1:World} {es:Array Event} (h:NxtA P fr cs w fr1 cs1 w1 es) (bot:List Frame):Nxt P ⟨fr,cs++bot,w⟩ ⟨fr1,cs1++bot,w1⟩ es:=⟨h.le,h.past,fun t ht=>h.step bot t ht,h.keeps⟩
theorem zei (H:Two P fs F Lf) (hF:Fit P Lf B) (hq:∀ f,tryRecover f rest=none) (hb:bot≠[]) {mn:Bool} {fr fr':Frame} {cs cs':List Frame} {w w':World} (h:OnR P Lf k0 B fr fr' cs cs') (hw:WRel B w w') (hG:Good P Q ⟨fr,cs++bot,w⟩) (hs:¬ St.stop P ⟨fr,cs++bot,w⟩) (hst:cs=[]→fr.mode=.run∨fr.defers≠[]) :
  ∃ (fr1:Frame) (cs1:List Frame) (w1:World) (es es':Array Event) (g1':Goroutine) (w1':World) (C:Ren),NxtA P fr cs w fr1 cs1 w1 es∧Good P Q ⟨fr1,cs1++bot,w1⟩ ∧
   stepG (swap P fs) mn { frame:=fr',callers:=cs'++rest,status:=.running,dying:=none } w'=.go g1' w1' es'∧B.up C w.heap.size w'.heap.size∧(∀ bot,GRel P fs F Lf k0 rest bot C { frame:=fr1,callers:=cs1++bot,status:=.running,dying:=none } g1')∧WRel C w1 w1'∧EsR C es es'∧Own w w1 w' w1' C:=by
 obtain⟨t0,n,hn,hrest⟩:=stepG_r (rest:=rest) (mn:=mn) H hF hq h hw hst
 have agr:Agrees (fun d=>if d<w.drawn then w.tape d else t0 d) t0 w.drawn n:=fun d h1 _=>if_neg (Nat.not_lt.2 h1)
 have past:∀ d,d<w.drawn→(fun d=>if d<w.drawn then w.tape d else t0 d) d=w.tape d:=fun d h1=>if_pos h1
 rcases hrest with hl|⟨G,hG2,hS⟩
 ·exact (hG.alive hs past (hl bot _ agr)).elim
 ·generalize stepG (swap P fs) mn { frame:=fr',callers:=cs'++rest,status:=.running,dying:=none } w'=x at hS ⊢
  cases hS with
  | lost hl=>exact (hG.alive hs past (by have:=hl bot (fun d=>if d<w.drawn then w.tape d else t0 d);rw[← hG2 bot _ agr] at this;exact this)).elim
  | @go C fr1 cs1 g' w1 w1' es es' hle hg hw1 hd he hk ho =>
   have hnx:NxtA P fr cs w fr1 cs1 { w1 with tape:=fun d=>if d<w.drawn then w.tape d else t0 d } es:=by
    refine⟨Nat.le_trans hn hd,past,fun bot t ht=>?_,hk.to_heap rfl⟩
    have ht0:Agrees t t0 w.drawn n:=fun d h1 h2=>by
     rw[ht d h1 (Nat.lt_of_lt_of_le h2 hd)]
     exact agr d h1 h2
    exact hG2 bot t ht0
   refine⟨fr1,cs1,_,es,es',g',w1',C,hnx,hG.leads (hnx.nxt bot).leads ((hg bot).cs_ne hb),rfl,hle,hg,hw1.tapeL _,he,⟨ho.size,ho.os,ho.same,ho.sizeL,ho.sameL⟩⟩
theorem follow (H:Two P fs F Lf) (hF:Fit P Lf B) (hq:Low bot rest) (hb:bot≠[]) {mn:Bool} {s:St} {fr':Frame} {cs cs':List Frame} {w':World} (hc:s.cs=cs++bot) (h:OnR P Lf k0 B s.fr fr' cs cs') (hw:WRel B s.w w') (hG:Good P Q s) (hs:¬ s.stop P) (hst:cs=[]→s.fr.mode=.run∨s.fr.defers≠[]) :
  ∃ (s1:St) (es es':Array Event) (g1':Goroutine) (w1':World) (C:Ren),Nxt P s s1 es∧Good P Q s1 ∧
   stepG (swap P fs) mn { frame:=fr',callers:=cs'++rest,status:=.running,dying:=none } w'=.go g1' w1' es'∧B.up C s.w.heap.size w'.heap.size∧GRel P fs F Lf k0 rest bot C s1.g g1'∧WRel C s1.w w1'∧EsR C es es'∧Own s.w s1.w w' w1' C:=by
 obtain⟨sfr,scs,sw⟩:=s
 simp only at hc
 subst hc
 obtain⟨fr1,cs1,w1,es,es',g1',w1',C,h1,h2,h3,h4,h5,h6,h7,h8⟩:=zei (mn:=mn) H hF hq.right hb h hw hG hs hst
 exact⟨⟨fr1,cs1++bot,w1⟩,es,es',g1',w1',C,h1.nxt bot,h2,h3,h4,h5 bot,h6,h7,h8⟩
end
end
section
end
section
open Go.Conc (Deaf Leavers Knows touchAt)
open Go.ConcN (CT Ok0 OkW Apart sumTo)
def ShB (Sb:Nat→Prop) (l:Loc):Prop:=∃ a,l=.cell a∧Sb a.block
def NoL (_:Nat) (_:Loc):Prop:=False
theorem JD (Sb:Nat→Prop):Apart (ShB Sb) NoL NoL:=⟨fun _ _ _ h=>h.elim,fun _ _ _ h=>h.elim,fun _ _ h=>h.elim,fun _ _ h=>h.elim⟩
structure Tr (Sb:Nat→Prop) (n N:Nat) (t:Trace):Prop where
 ct:CT (ShB Sb) NoL NoL t n
 over:t.HandedOver
 hears:Deaf t 0=0
 low:∀ op∈t,op.act.low N
section
variable {C:Ren} {Sb:Nat→Prop} {e e':Event} {N n:Nat} {t:Trace}
theorem EvR.still (h:EvR C e e'):e'.loc≠.mark .disable∧e'.loc≠.mark .enable:=by
 obtain⟨loc,wr,sy⟩:=e
 obtain⟨loc',wr',sy'⟩:=e'
 have hl:=h.loc
 simp only at hl ⊢
 cases hl with
 | cell _=>exact⟨by simp,by simp⟩
 | obj _=>exact⟨by simp,by simp⟩
 | output _=>exact⟨by simp,by simp⟩
 | mark m=>cases m<;>exact⟨by simp,by simp⟩
theorem EvR.low (h:EvR C e e') (hC:∀ r b,C r b→b<N):(MemAct.ofEvent e').low N:=by
 obtain⟨loc,wr,sy⟩:=e
 obtain⟨loc',wr',sy'⟩:=e'
 have hl:=h.loc
 simp only at hl ⊢
 cases hl with
 | cell ha=>cases wr'<;>cases sy'<;>exact hC _ _ ha.block
 | obj hr=>cases wr'<;>cases sy'<;>exact hC _ _ hr
 | output=>cases wr'<;>cases sy'<;>trivial
 | mark m=>cases m<;>trivial
theorem EvR.touch (h:EvR C e e') {x:Touch} (hx:(MemAct.ofEvent e').touch?=some x):(∃ a r,x.loc=.cell a∧C r a.block)∨(∃ b r,x.loc=.obj b∧C r b)∨x.loc=.output:=by
 obtain⟨loc,wr,sy⟩:=e
 obtain⟨loc',wr',sy'⟩:=e'
 have hl:=h.loc
 simp only at hl
 cases hl with
 | @cell a a' ha=>cases wr'<;>cases sy'<;>simp[MemAct.ofEvent,MemAct.touch?] at hx<;>subst hx<;>exact .inl ⟨a',_,rfl,ha.block⟩
 | @obj r r' hr=>cases wr'<;>cases sy'<;>simp[MemAct.ofEvent,MemAct.touch?] at hx<;>subst hx<;>exact .inr (.inl ⟨r',_,rfl,hr⟩)
 | output=>cases wr'<;>cases sy'<;>simp[MemAct.ofEvent,MemAct.touch?] at hx<;>subst hx<;>exact .inr (.inr rfl)
 | mark m=>cases m<;>simp[MemAct.ofEvent,MemAct.touch?] at hx
theorem EvR.clear (h:EvR C e e') (hC:∀ r b,C r b→¬ Sb b) {x:Touch} (hx:(MemAct.ofEvent e').touch?=some x):¬ ShB Sb x.loc:=by
 rintro⟨a,ha,hs⟩
 rcases h.touch hx with ⟨b,r,hb,hr⟩|⟨b,r,hb,hr⟩|hb
 ·rw[hb] at ha;cases ha;exact hC _ _ hr hs
 ·rw[hb] at ha;cases ha
 ·rw[hb] at ha;cases ha
theorem zdF {es es':Array Event} (h:EsR C es es') (he:e'∈es'):∃ e,EvR C e e':=by
 obtain⟨i,hi,rfl⟩:=Array.mem_iff_getElem.1 he
 have hi2:i<es.size:=by rw[← h.size];exact hi
 exact⟨_,h.elem i hi2 hi⟩
theorem Tr.main {N':Nat} (h:Tr Sb n N t) (hN:N≤N') {es es':Array Event} (he:EsR C es es') (hC:∀ r b,C r b→¬ Sb b∧b<N') {fn:FuncId} {pos:String} : Tr Sb n N' (t++MemOp.ofEvents 0 fn pos es'):=by
 refine⟨h.ct.app0 (JD Sb) fun op hop=>?_,Go.Conc.handedOver_app h.over fun op hop=>.inl ?_,?_,Go.Conc.seen_app (fun op hop=>MemAct.low_mono hN (h.low op hop)) fun op hop=>?_⟩
 ·obtain⟨e',hm,rfl⟩:=Go.Conc.mem_ofEvents hop
  obtain⟨e,hr⟩:=zdF he hm
  exact⟨rfl,fun x hx=>.inr ⟨hr.clear (fun r b hb=>(hC r b hb).1) hx,fun _ _ _ h=>h,fun _ _ _ _ h=>h⟩⟩
 ·obtain⟨e',hm,rfl⟩:=Go.Conc.mem_ofEvents hop
  rfl
 ·rw[Go.Conc.Deaf_own,Go.Conc.deafBehind_still fun e' hm=>let ⟨e,hr⟩:=zdF he hm;hr.still]
  exact h.hears
 ·obtain⟨e',hm,rfl⟩:=Go.Conc.mem_ofEvents hop
  obtain⟨e,hr⟩:=zdF he hm
  exact hr.low fun r b hb=>(hC r b hb).2
theorem Tr.mute (h:Tr Sb n N t) {g:Nat} (h1 : 1≤g) (h2:g≤n) {fn:FuncId} {pos:String} {es:Array Event} (hm:∀ e∈es,e.mute=true):Tr Sb n N (t++MemOp.ofEvents g fn pos es):=by
 have ht:∀ op∈MemOp.ofEvents g fn pos es,op.g=g∧op.act.touch?=none∧op.act.low N:=fun op hop=>by
  obtain⟨e,he,rfl⟩:=Go.Conc.mem_ofEvents hop
  exact⟨rfl,Go.Conc.touch_mute (hm e he),Go.Conc.low_mute (hm e he) N⟩
 refine⟨h.ct.appW (JD Sb) h1 h2 fun op hop=>⟨(ht op hop).1,fun x hx=>by rw[(ht op hop).2.1] at hx;cases hx⟩,Go.Conc.handedOver_app h.over fun op hop=>.inr (ht op hop).2.1,?_,Go.Conc.seen_app h.low fun op hop=>(ht op hop).2.2⟩
 rw[Go.Conc.Deaf_other t (g:=0) (g':=g) (by omega) _ fun op hop=>(ht op hop).1]
 exact h.hears
end
structure Fr (P:Program) (fs:Array Func) (F:FuncId→Prop) (Lf:FuncId→Lic) (Q:Frame→World→Prop) (W0:World) (Sb:Nat→Prop) (gs:Array Goroutine) (w':World) (t:Trace) (q:Nat→Nat) (s:St) (B:Ren):Prop where
 main:∃ g',gs[0]?=some g'∧GRel P fs F Lf .normal [] [door P] B s.g g'
 fit:Fit P Lf B
 mem:WRel B s.w w'
 good:Good P Q s
 lv:Leavers (swap P fs) t gs q
 tr:Tr Sb (gs.size-1) w'.heap.size t
 apart:∀ r b,B r b→¬ Sb b
 sb:∀ b,Sb b→b<w'.heap.size
 keep:∀ b,b<W0.heap.size→w'.heap[b]?=W0.heap[b]?
 size:W0.heap.size≤w'.heap.size
 calm:Calm W0 w'
 shut:∀ r b,B r b→b<W0.heap.size→ja s.w r
 sb0:∀ b,Sb b→W0.heap.size≤b
structure Entry (P:Program) (fs:Array Func) (F:FuncId→Prop) (B:Ren) (f:FuncId) (k k':CallKind) (a a':Array Value) (fr fr':Frame):Prop where
 hF:F f
 has:B.has f
 late:k≠.early
 late':k'≠.early
 fr:fr=Frame.enter P f a k
 fr':fr'=Frame.enter (swap P fs) f a' k'
 args:VsRel B a a'
theorem zaP (P:Program):Low [door P] []:=by
 have hn:∀ f,tryRecover f []=none:=fun f=>by unfold tryRecover;split<;>simp_all
 refine⟨fun f _=>?_,hn⟩
 unfold tryRecover
 split
 ·rename_i h1 h2
  cases h2
  rfl
 ·rename_i h1 h2
  cases h2
  rw[hn]
  rfl
 ·rfl
section
variable {P:Program} {fs:Array Func} {F:FuncId→Prop} {Lf:FuncId→Lic} {Q:Frame→World→Prop} {W0:World} {Sb:Nat→Prop} {gs:Array Goroutine} {w':World} {t:Trace} {q:Nat→Nat} {s:St} {B:Ren}
theorem Calm.at (w:World) (d:Nat):Calm w (w.at d):=⟨rfl,rfl,rfl⟩
theorem TopR.split {P:Program} {fs:Array Func} {F:FuncId→Prop} {Lf:FuncId→Lic} {B:Ren} {f f':Frame} (h:TopR P fs F Lf B f f') :
  (f.kind≠.early∧f'.kind≠.early∧FrameR P Lf B f f')∨∃ fn k k' a a',Entry P fs F B fn k k' a a' f f':=by
 cases h with
 | frame l1 l2 hf=>exact .inl ⟨l1,l2,hf⟩
 | enter f k k' hF hh l1 l2 ha=>exact .inr ⟨f,k,k',_,_,hF,hh,l1,l2,rfl,rfl,ha⟩
theorem Fr.at (h:Fr P fs F Lf Q W0 Sb gs w' t q s B) (d:Nat):Fr P fs F Lf Q W0 Sb gs (w'.at d) t q s B:=
 ⟨h.main,h.fit,h.mem.taped s.w.tape w'.tape s.w.drawn d,h.good,h.lv,h.tr,h.apart,h.sb,h.keep,h.size,h.calm.trans (Calm.at w' d),h.shut,h.sb0⟩
theorem Fr.running (h:Fr P fs F Lf Q W0 Sb gs w' t q s B) {g:Goroutine} (hg:gs[0]?=some g):g.status=.running:=by
 obtain⟨g',h0,hr⟩:=h.main
 rw[hg] at h0
 cases h0
 exact hr.status'
theorem Fr.awake (h:Fr P fs F Lf Q W0 Sb gs w' t q s B):∀ g∈gs,Go.Conc.awake g:=by
 intro g hg
 obtain⟨i,hi,rfl⟩:=Array.mem_iff_getElem.1 hg
 rcases Nat.eq_zero_or_pos i with rfl|hpos
 ·exact Go.Conc.awake_of (.inl (h.running (Array.getElem?_eq_getElem hi)))
 ·exact Go.Conc.awake_of ((h.lv.old i _ hpos (Array.getElem?_eq_getElem hi)).status.elim .inl fun x=>.inr (.inr x))
theorem Fr.slip (h:Fr P fs F Lf Q W0 Sb gs w' t q s B) {i:Nat} (hpos : 0<i) {g:Goroutine} (hi:gs[i]?=some g) (hg:g.status=.running) (sl:Option (Nat×Nat)) :
  ∃ gs1 t1 q1,runT (swap P fs) (Go.Conc.crowd gs w' sl) i=(.next (Go.Conc.crowd gs1 w' sl),t1)∧Fr P fs F Lf Q W0 Sb gs1 w' (t++t1) q1 s B∧gs1.size=gs.size∧sumTo gs1.size q1<sumTo gs.size q:=by
 have hq:=h.lv.old i g hpos hi
 have hi0:(i==0)=false:=by simp;omega
 have hlt:i<gs.size:=(Array.getElem?_eq_some_iff.1 hi).1
 cases hqi:q i with
 | zero=>rw[hqi] at hq;rw[hq.1] at hg;cases hg
 | succ k =>
  rw[hqi] at hq
  rcases hq with ⟨hf,_⟩|⟨_,g',es,hm,hstp,hq'⟩
  ·rw[hf] at hg;cases hg
  have hrunT:=Go.Conc.runT_crowd_go (P:=swap P fs) (sl:=sl) (i:=i) hi (by rw[hi0];exact hstp w')
  have hsz:((gs.map (Go.Conc.woken (swap P fs) g g' w')).setIfInBounds i g').size=gs.size:=by simp
  have hsum:sumTo gs.size (Go.ConcN.upd q i k)+(k+1)=sumTo gs.size q+k:=by
   have:=Go.ConcN.sumTo_upd q k id hlt
   simpa[hqi] using this
  obtain⟨gm,h0,hr⟩:=h.main
  refine⟨_,_,Go.ConcN.upd q i k,hrunT,⟨⟨gm,?_,hr⟩,h.fit,h.mem,h.good,⟨fun j x hj hx=>?_,fun j hj=>?_⟩,?_,h.apart,h.sb,h.keep,h.size,h.calm,h.shut,h.sb0⟩,hsz,by rw[hsz];omega⟩
  ·have hne:i≠0:=by omega
   rw[Array.getElem?_setIfInBounds_ne hne,Array.getElem?_map,h0]
   simp[Go.Conc.woken_run hr.status']
  ·by_cases hji:i=j
   ·subst hji
    rw[Array.getElem?_setIfInBounds_self_of_lt (by simpa using hlt)] at hx
    obtain rfl:=Option.some.inj hx
    rw[Go.ConcN.upd_same,Go.Conc.Deaf_own]
    exact hq'
   ·rw[Array.getElem?_setIfInBounds_ne hji,Array.getElem?_map] at hx
    obtain⟨y,hy,rfl⟩:=Option.map_eq_some_iff.1 hx
    have hqj:=h.lv.old j y hj hy
    rw[Go.Conc.woken_quitsD hqj,Go.ConcN.upd_ne q k (Ne.symm hji),Go.Conc.Deaf_other t hji _ (fun op hop=>by obtain⟨e,_,rfl⟩:=Go.Conc.mem_ofEvents hop;rfl)]
    exact hqj
  ·rw[Go.Conc.Deaf_other t (g':=i) (by simp at hj;omega) _ (fun op hop=>by obtain⟨e,_,rfl⟩:=Go.Conc.mem_ofEvents hop;rfl)]
   exact h.lv.above j (by simpa using hj)
  ·rw[hsz]
   exact h.tr.mute hpos (by omega) hm
theorem Fr.step (H:Two P fs F Lf) (h:Fr P fs F Lf Q W0 Sb gs w' t q s B) {g:Goroutine} (h0:gs[0]?=some g) (hs:¬ s.stop P) (hfr:∀ f k k' a a',Entry P fs F B f k k' a a' s.fr g.frame→False) (sl:Option (Nat×Nat)) :
  ∃ gs1 w1' t1 s1 C,runT (swap P fs) (Go.Conc.crowd gs w' sl) 0=(.next (Go.Conc.crowd gs1 w1' sl),t1)∧Fr P fs F Lf Q W0 Sb gs1 w1' (t++t1) q s1 C∧gs1.size=gs.size∧Leads P 1 s s1:=by
 obtain⟨gm,h1,hr⟩:=h.main
 rw[h0] at h1
 cases h1
 have eg:g={ frame:=g.frame,callers:=g.callers,status:=.running,dying:=none }:=g_eta hr.status' hr.dying' hr.offers'
 have hfrm:=hr.frame
 obtain⟨cs,cs',e1,e2,hcs,hkd⟩:=hr.callers
 have e1':s.cs=cs++[door P]:=e1
 have hon:OnR P Lf .normal B s.fr g.frame cs cs':=by
  rcases hfrm.split with ⟨l1,l2,hf⟩|⟨f,k,k',a,a',hx⟩
  ·exact⟨l1,l2,hf,hcs,hkd⟩
  ·exact (hfr f k k' _ _ hx).elim
 have hst:cs=[]→s.fr.mode=.run∨s.fr.defers≠[]:=fun e=>Classical.byContradiction fun hno=>hs ⟨by rw[e1',e];rfl,fun hm=>hno (.inl hm),Classical.byContradiction fun hd=>hno (.inr hd)⟩
 obtain⟨s1,es,es',g1',w1',C,hn,hg1,hstep,hup,hgr,hw1,he,ho⟩:=follow (mn:=true) H h.fit (zaP P) (by simp) e1' hon h.mem h.good hs hst
 have hstep':stepG (swap P fs) (0==0) g w'=.go g1' w1' es':=by
  rw[eg,e2]
  exact hstep
 have hrunT:=Go.Conc.runT_crowd_go (P:=swap P fs) (sl:=sl) (i:=0) h0 hstep'
 have hsz:((gs.map (Go.Conc.woken (swap P fs) g g1' w1')).setIfInBounds 0 g1').size=gs.size:=by simp
 have hlt : 0<gs.size:=(Array.getElem?_eq_some_iff.1 h0).1
 have hC:∀ r b,C r b→B r b∨(s.w.heap.size≤r∧w'.heap.size≤b):=hup.new
 refine⟨_,w1',_,s1,C,hrunT,⟨⟨g1',by simp[hlt],hgr⟩,h.fit.mono hup.le,hw1,hg1,⟨fun j x hj hx=>?_,fun j hj=>?_⟩,?_,fun r b hb=>?_,fun b hb=>Nat.lt_of_lt_of_le (h.sb b hb) ho.size,fun b hb=>?_,Nat.le_trans h.size ho.size,h.calm.trans ho.os,fun r b hb hlt=>?_,h.sb0⟩,hsz,hn.leads⟩
 ·have hne : 0≠j:=by omega
  rw[Array.getElem?_setIfInBounds_ne hne,Array.getElem?_map] at hx
  obtain⟨y,hy,rfl⟩:=Option.map_eq_some_iff.1 hx
  have hq:=h.lv.old j y hj hy
  rw[Go.Conc.woken_quitsD hq,Go.Conc.Deaf_other t (by omega) _ (fun op hop=>by obtain⟨e,_,rfl⟩:=Go.Conc.mem_ofEvents hop;rfl)]
  exact hq
 ·rw[Go.Conc.Deaf_other t (g':=0) (by simp at hj;omega) _ (fun op hop=>by obtain⟨e,_,rfl⟩:=Go.Conc.mem_ofEvents hop;rfl)]
  exact h.lv.above j (by simpa using hj)
 ·rw[hsz]
  refine h.tr.main ho.size he fun r b hb=>⟨?_,(hw1.lt hb).2⟩
  rcases hC r b hb with h1|⟨_,h2⟩
  ·exact h.apart r b h1
  ·exact fun hsb=>absurd (h.sb b hsb) (Nat.not_lt.2 h2)
 ·rcases hC r b hb with h1|⟨_,h2⟩
  ·exact h.apart r b h1
  ·exact fun hsb=>absurd (h.sb b hsb) (Nat.not_lt.2 h2)
 ·rcases ho.same b (Nat.lt_of_lt_of_le hb h.size) with h1|⟨r,h1,h2⟩
  ·exact h1.trans (h.keep b hb)
  ·rcases hC r b h1 with h3|⟨_,h3⟩
   ·exact (h2 (h.shut r b h3 hb)).elim
   ·have:=h.size;omega
 ·rcases hC r b hb with h1|⟨_,h2⟩
  ·exact (hn.keeps.rows r (h.shut r b h1 hlt)).1
  ·have:=h.size;omega
end
end
section
open Go.Conc (Deaf Leavers)
open Go.ConcN (sumTo)
section
variable {P:Program} {fs:Array Func} {F:FuncId→Prop} {Lf:FuncId→Lic} {Q:Frame→World→Prop} {W0:World}
def zeK (P:Program) (fs:Array Func) (F:FuncId→Prop) (Lf:FuncId→Lic) (Q:Frame→World→Prop) (W0:World):Prop:=
 ∀ Sb gs w' t q s B g f k k' a a' sl,Fr P fs F Lf Q W0 Sb gs w' t q s B→gs[0]?=some g→Entry P fs F B f k k' a a' s.fr g.frame →
  ∃ N Sb2 gs2 w2 t2 q2 s2 B2 sl2,runNT (swap P fs) N (Go.Conc.crowd gs w' sl) t=(.next (Go.Conc.crowd gs2 w2 sl2),t2)∧Leads P 1 s s2∧Fr P fs F Lf Q W0 Sb2 gs2 w2 t2 q2 s2 B2
theorem Fr.last (H:Two P fs F Lf) {f:FuncId} {Rl:Ending→World→Prop} {Post:Value→World→Prop} (hini:(swap P fs).inits.idxOf? f=none)
  (hpost:∀ v v' w w1' B,Rl (.returned v) w→VRel B v v'→W0.heap.size≤w1'.heap.size→(∀ b,b<W0.heap.size→w1'.heap[b]?=W0.heap[b]?)→Calm W0 w1'→Post v' w1')
  {Sb:Nat→Prop} {gs:Array Goroutine} {w':World} {t:Trace} {q:Nat→Nat} {s:St} {B:Ren} (h:Fr P fs F Lf (Done P f Rl) W0 Sb gs w' t q s B) {g:Goroutine} (h0:gs[0]?=some g) (hs:s.stop P) (sl:Option (Nat×Nat)) :
  ∃ o w1 ops,runT (swap P fs) (Go.Conc.crowd gs w' sl) 0=(.ended o w1,ops)∧∀ wx slx,Go.Conc.Good (swap P fs) Post (Go.Conc.crowd gs wx slx) o w1 (t++ops):=by
 obtain⟨gm,h1,hr⟩:=h.main
 rw[h0] at h1
 cases h1
 have eg:g={ frame:=g.frame,callers:=g.callers,status:=.running,dying:=none }:=g_eta hr.status' hr.dying' hr.offers'
 obtain⟨cs,cs',e1,e2,hcs,hkd⟩:=hr.callers
 have hst:=hs
 obtain⟨hc0,hm0,hd0⟩:=hs
 have e1':[door P]=cs++[door P]:=hc0.symm.trans e1
 have ecs:cs=[]:=by
  cases cs with
  | nil=>rfl
  | cons c r=>simp at e1'
 subst ecs
 cases hcs
 have hk:s.fr.kind=.normal∧g.frame.kind=.normal:=hkd.2
 obtain⟨hmr,hq⟩:=h.good.stop hst hk.1
 obtain⟨hfn,v,hR,hl⟩:=hq s.w.tape fun _ _=>rfl
 obtain⟨_,_,_,fn,hf,hres⟩:=hl
 rcases hr.frame.split with ⟨l1,l2,hfr⟩|⟨f2,k,k',a,a',hE⟩
 rotate_left
 ·exfalso
  have:s.fr.mode=.run:=by
   rw[show s.fr=Frame.enter P f2 a k from hE.fr]
   rfl
  rw[hmr] at this
  cases this
 have hfr':FrameR P Lf B s.fr g.frame:=hfr
 have hmode:g.frame.mode=.returning:=by
  have:=hfr'.mode
  rw[hmr] at this
  generalize g.frame.mode=m at this
  cases this
  rfl
 have hdef:g.frame.defers=[]:=by
  have:=hfr'.defers
  rw[hd0] at this
  generalize g.frame.defers=m at this
  cases this
  rfl
 have hres2:=H.results s.fr.fn
 rw[hf] at hres2
 obtain⟨fn',hf',hre⟩:∃ fn',fs[s.fr.fn]?=some fn'∧fn'.results=fn.results:=by simpa using hres2
 have hf2:(swap P fs).funcs[g.frame.fn]?=some fn':=by rw[hfr'.fn];exact hf'
 have hrr:∀ a,results fn' a=results fn a:=fun a=>by unfold results;rw[hre]
 obtain⟨t0,n,hnn,hrun⟩:=(QR (P:=P) (fs:=fs) h.fit.based fn (H.live _ _ hf) hfr'.tmps).run h.mem #[] #[]
 have hT:∀ x:Nat→Question→Nat,(∀ d,d<s.w.drawn→x d=s.w.tape d)→∃ v w1 es,(results fn s.fr.tmps).runT P { s.w with tape:=x } #[]=(.ok v w1,es)∧Rl (.returned v) { s.w with tape:=x }:=by
  intro x hx
  obtain⟨_,v,hR,_,_,_,fn2,hf3,hres3⟩:=hq x hx
  rw[hf] at hf3
  cases hf3
  have:=Sem.runT_fst P (results fn s.fr.tmps) { s.w with tape:=x } #[]
  rw[hres3] at this
  exact⟨v,_,_,Prod.ext this rfl,hR⟩
 let x:Nat→Question→Nat:=fun d=>if d<s.w.drawn then s.w.tape d else t0 d
 have hx1:∀ d,d<s.w.drawn→x d=s.w.tape d:=fun d hd=>if_pos hd
 have hx2:Agrees x t0 s.w.drawn n:=fun d hd _=>if_neg (Nat.not_lt.2 hd)
 obtain⟨v,w1,es,hrx,hRv⟩:=hT x hx1
 rcases hrun with hbad|⟨C,v1,v',w1,w1',d,d',he⟩|⟨C,v1,v',w1,w1',d,d',he⟩
 ·obtain⟨hl,w2,es2,e,hb⟩:=hbad x hx2
  rw[hrx] at e
  cases e
 rotate_left
 ·have:=he.left x hx2
  rw[hrx] at this
  cases this
 ·have hleft:=he.left x hx2
  rw[hrx] at hleft
  have ev:v=v1:=by cases hleft;rfl
  subst ev
  have hright:=he.right
  simp only[Array.empty_append] at hright
  have hstep:stepG (swap P fs) (0==0) g w'=.ended (.done v') w1' (seen (swap P fs) g.frame.fn d'):=by
   rw[eg,e2]
   simp only[stepG,hmode,unwind,hdef,hf2,hrr,hright,doReturn,List.nil_append,hk.2,GStep.after,beq_self_eq_true,Bool.not_true,Bool.false_eq_true,if_false]
   rw[hfr'.fn,hfn,hini]
   simp
  have hrunT:=Go.Conc.runT_many_ended (P:=swap P fs) (sl:=sl) (i:=0) h0 hstep
  have hC:∀ r b,C r b→¬ Sb b:=fun r b hb=>by
   rcases he.up.new r b hb with h1|⟨_,h2⟩
   ·exact h.apart r b h1
   ·exact fun hsb=>absurd (h.sb b hsb) (Nat.not_lt.2 h2)
  have hev:EsR C (seen P s.fr.fn d) (seen (swap P fs) g.frame.fn d'):=by rw[hfr'.fn];exact yG H _ he.evs
  have htr:=h.tr.main (fn:=g.frame.fn) (pos:=g.frame.place) he.own.size hev fun r b hb=>⟨hC r b hb,(he.mem.lt hb).2⟩
  refine⟨_,_,_,hrunT,fun wx slx=>⟨v',rfl,hpost v v' _ _ _ hRv he.rel (Nat.le_trans h.size he.own.size) (fun b hb=>?_) (h.calm.trans he.own.os),htr.ct.nr,htr.over,⟨fun y hy=>?_,rfl⟩,fun j y hy hj=>?_⟩⟩
  ·rcases he.own.same b (Nat.lt_of_lt_of_le hb h.size) with h1|⟨r,h1,h2⟩
   ·exact h1.trans (h.keep b hb)
   ·rcases he.up.new r b h1 with h3|⟨_,h3⟩
    ·exact (h2 (h.shut r b h3 hb)).elim
    ·have:=h.size;omega
  ·obtain⟨j,hj⟩:=List.mem_iff_getElem?.1 hy
   rw[List.getElem?_drop] at hj
   exact⟨_,(h.lv.old (1+j) y (by omega) (by simpa[Go.Conc.crowd] using hj)).leaves⟩
  ·have hq:=h.lv.old j y (by omega) hy
   refine⟨q j,?_⟩
   have e:(t++MemOp.ofEvents 0 g.frame.fn g.frame.place (seen (swap P fs) g.frame.fn d')).deaf j (t++MemOp.ofEvents 0 g.frame.fn g.frame.place (seen (swap P fs) g.frame.fn d')).size=Deaf t j:=
    Go.Conc.Deaf_other t (g:=j) (g':=0) (by omega) _ (fun op hop=>by obtain⟨e,_,rfl⟩:=Go.Conc.mem_ofEvents hop;rfl)
   rw[e]
   exact hq.hears _
def Comes (P:Program) (Post:Value→World→Prop) (m:Machine) (t:Trace):Prop:=
 ∃ N last o w1 t1,runNT P (N+1) m t=(.ended o w1,t1)∧runN P N m=.next last∧Go.step P last=.ended o w1∧Go.Conc.Good P Post last o w1 t1
theorem Comes.join {P:Program} {Post:Value→World→Prop} {m m2:Machine} {t t2:Trace} {N:Nat} (hr:runNT P N m t=(.next m2,t2)) (h:Comes P Post m2 t2):Comes P Post m t:=by
 obtain⟨N2,last,o,w1,t1,e1,e2,e3,e4⟩:=h
 refine⟨N+N2,last,o,w1,t1,?_,?_,e3,e4⟩
 ·rw[Nat.add_assoc,runNT_add,hr];exact e1
 ·rw[runN_add,← runNT_fst _ _ _ t,hr];exact e2
theorem JS {P:Program} {gs:Array Goroutine} {w':World} {sl sl':Option (Nat×Nat)} {d i:Nat} {t:Trace} {m2:Machine} {ops:Trace} (h1:stepT P (Go.Conc.crowd gs w' sl)=runT P (Go.Conc.crowd gs (w'.at d) sl') i)
  (h2:runT P (Go.Conc.crowd gs (w'.at d) sl') i=(.next m2,ops)):runNT P 1 (Go.Conc.crowd gs w' sl) t=(.next m2,t++ops):=by
 simp only[runNT,h1,h2]
theorem frame_runs (H:Two P fs F Lf) {f:FuncId} {Rl:Ending→World→Prop} {Post:Value→World→Prop} (hini:(swap P fs).inits.idxOf? f=none)
  (hpost:∀ v v' w w1' B,Rl (.returned v) w→VRel B v v'→W0.heap.size≤w1'.heap.size→(∀ b,b<W0.heap.size→w1'.heap[b]?=W0.heap[b]?)→Calm W0 w1'→Post v' w1')
  (hwin:zeK P fs F Lf (Done P f Rl) W0) {s:St} (ha:Acc (fun b a=>Leads P 1 a b) s) :
  ∀ (M:Nat) (q:Nat→Nat) (gs:Array Goroutine) (w':World) (sl:Option (Nat×Nat)) (t:Trace) (B:Ren) (Sb:Nat→Prop),sumTo gs.size q≤M→Fr P fs F Lf (Done P f Rl) W0 Sb gs w' t q s B→Comes (swap P fs) Post (Go.Conc.crowd gs w' sl) t:=by
 induction ha with
 | intro s _ ih =>
  intro M
  induction M using Nat.strongRecOn with
  | _ M ihM =>
  intro q gs w' sl t B Sb hM h
  obtain⟨g,h0,hr⟩:=h.main
  by_cases hent:∃ f k k' a a',Entry P fs F B f k k' a a' s.fr g.frame
  ·obtain⟨f2,k,k',a,a',hE⟩:=hent
   obtain⟨N,Sb2,gs2,w2,t2,q2,s2,B2,sl2,hrun,hl,hfr⟩:=hwin Sb gs w' t q s B g f2 k k' a a' sl h h0 hE
   exact Comes.join hrun (ih s2 hl _ q2 gs2 w2 sl2 t2 B2 Sb2 (Nat.le_refl _) hfr)
  ·obtain⟨i,g1,d,sl',hi,hg,hst⟩:=Go.Conc.crowd_pick (P:=swap P fs) (w:=w') (sl:=sl) h.awake ⟨0,g,h0,hr.status'⟩
   have hd:=h.at d
   rcases Nat.eq_zero_or_pos i with rfl|hpos
   ·by_cases hs:s.stop P
    ·obtain⟨o,w1,ops,hrun,hgood⟩:=hd.last H hini hpost h0 hs sl'
     exact⟨0,_,o,w1,t++ops,by simp only[runNT,hst,hrun],rfl,by simp only[Go.step,hst,hrun],hgood w' sl⟩
    ·obtain⟨gs1,w1',t1,s1,C,hrun,hfr,_,hl⟩:=hd.step H h0 hs (fun f k k' a a' hE=>hent ⟨f,k,k',a,a',hE⟩) sl'
     exact Comes.join (JS hst hrun) (ih s1 hl _ q gs1 w1' sl' _ C Sb (Nat.le_refl _) hfr)
   ·obtain⟨gs1,t1,q1,hrun,hfr,_,hlt⟩:=hd.slip hpos hi hg sl'
    exact Comes.join (JS hst hrun) (ihM (sumTo gs1.size q1) (by omega) q1 gs1 _ sl' _ B Sb (Nat.le_refl _) hfr)
end
end
end Go.Par
