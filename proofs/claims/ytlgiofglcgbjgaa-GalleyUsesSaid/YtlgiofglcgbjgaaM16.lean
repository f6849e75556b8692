/- What single operations yield: forward, and which halts they come to otherwise. What single operations yield, continued: those that touch memory. galley: the two left programs: S (the .. -/
import Derived.Test.YtlgiofglcgbjgaaM15
import Derived.Laws.MakeOwn
import Derived.Test.YtlgiofglcgbjgaaProg
namespace Go.Par
open Go
section
section
variable {P:Program} {σ : Nat→Value} {o:Oper} {w:World}
def Or (P:Program) (σ : Nat→Value) (o:Oper) (w:World) (φ : Value→Prop):Prop:=(∃ v,φ v∧RunV P σ o w v w)∨RunB P σ o w
theorem jG {v:Value} (h:∀ u:World,u.heap=w.heap→(execOp (evF σ) o).run P u=.ok (.value v) u):RunV P σ o w v w:=fun t _=>h { w with tape:=t } rfl
theorem zcx {hl:Halt} (hb:hl.bad) (h:∀ u:World,u.heap=w.heap→∃ u2,(execOp (evF σ) o).run P u=.halt hl u2):RunB P σ o w:=fun t=>let ⟨u2,e⟩:=h { w with tape:=t } rfl;⟨hl,u2,e,hb⟩
theorem ZB {x:Operand} (ho:o.op=.move x):RunV P σ o w (evF σ x) w:=jG fun u _=>by unfold execOp;simp only[ho];simp[go_sem]
theorem run_pick {c x y:Operand} {t:Bool} (ho:o.op=.pick c x y) (hc:evF σ c=.bool t):RunV P σ o w (if t then evF σ x else evF σ y) w:=jG fun u _=>by unfold execOp;simp only[ho,hc];simp[go_sem]
theorem run_field {ty:TypeId} {x:Operand} {j:Nat} {fs:Array Field} {f:Field} (ho:o.op=.field ty x j) (hs:P.underlying ty=some (.struct fs)) (hf:fs[j]?=some f) (ha:∀ u,(isAgg f.type).run P u=.ok false u) :
  Or P σ o w fun v=>∃ cs,evF σ x=.agg cs∧cs[f.offset]?=some v:=by
 have hu:∀ u:World,(execOp (evF σ) o).run P u=((do pure (.value (← Instr.field ty (evF σ x) j))):Sem Go.Next).run P u:=fun u=>by unfold execOp;simp only[ho]
 by_cases h:∃ cs,evF σ x=.agg cs
 ·obtain⟨cs,hc⟩:=h
  cases hv:cs[f.offset]? with
  | some v =>
   refine .inl ⟨v,⟨cs,hc,hv⟩,jG fun u _=>?_⟩
   rw[hu,hc]
   simp[go_sem,Instr.field,run_underlying hs,hf,asAgg,part,ha,hv]
  | none =>
   refine .inr (zcx (hl:=.stuck "part: no such cell") trivial fun u _=>⟨u,?_⟩)
   rw[hu,hc]
   simp[go_sem,Instr.field,run_underlying hs,hf,asAgg,part,ha,hv]
 ·refine .inr (zcx (hl:=.stuck "struct or array expected") trivial fun u _=>⟨u,?_⟩)
  rw[hu]
  generalize evF σ x=v at h
  cases v with
  | agg cs=>exact absurd ⟨cs,rfl⟩ h
  | _=>simp[go_sem,Instr.field,run_underlying hs,hf,asAgg]
theorem QP {ty e:TypeId} {x:Operand} {asq:Array Operand} {c:Callee} (hcl:asq=#[x]) (hcc:c=.builtin .len) (ho:o.op=.call { callee:=c,args:=asq,argTypes:=#[ty] }) (hs:P.underlying ty=some (.slice e)) :
  Or P σ o w fun v=>∃ s l m,evF σ x=.slice s l m∧v=.int .i64 l:=by
 subst hcl hcc
 have hu:∀ u:World,(execOp (evF σ) o).run P u=((do pure (.value (← Builtin.len_ #[ty] o.type #[evF σ x]))):Sem Go.Next).run P u:=fun u=>by
  unfold execOp
  simp only[ho]
  simp[resolve,invoke,builtin,go_sem]
 by_cases h:∃ s l m,evF σ x=.slice s l m
 ·obtain⟨s,l,m,hc⟩:=h
  refine .inl ⟨_,⟨s,l,m,hc,rfl⟩,jG fun u _=>?_⟩
  rw[hu,hc]
  simp[go_sem,Builtin.len_,run_underlying hs,goInt]
 ·refine .inr (zcx (hl:=.stuck "len: string, array, pointer to array, slice, map or channel expected") trivial fun u _=>⟨u,?_⟩)
  rw[hu]
  generalize evF σ x=v at h
  cases v with
  | slice s l m=>exact absurd ⟨s,l,m,rfl⟩ h
  | _=>simp[go_sem,Builtin.len_,run_underlying hs]
theorem JM {x y:Operand} {a:Int} {op:BinOp} {ty tz:TypeId} (hop:op=.leq∨op=.lss) (ho:o.op=.binOp op ty x y tz) (hx:evF σ x=.int .i64 a) :
  Or P σ o w fun v=>∃ b,evF σ y=.int .i64 b∧v=.bool (if op=.leq then decide (a≤b) else decide (a<b)):=by
 have hu:∀ u:World,(execOp (evF σ) o).run P u=((do pure (.value (← (do eqGuard op ty x y (evF σ x) (evF σ y);binOp op ty (evF σ x) (evF σ y))))):Sem Go.Next).run P u:=fun u=>by unfold execOp;simp only[ho]
 have hg:∀ u:World,(eqGuard op ty x y (evF σ x) (evF σ y)).run P u=.ok () u:=fun u=>by rcases hop with rfl|rfl<;>simp[eqGuard,go_sem]
 by_cases h:∃ b,evF σ y=.int .i64 b
 ·obtain⟨b,hb⟩:=h
  refine .inl ⟨_,⟨b,hb,rfl⟩,jG fun u _=>?_⟩
  rw[hu]
  have:=hg u
  rw[hx,hb] at this ⊢
  rcases hop with rfl|rfl<;>simp[go_sem,binOp,Op.intCmp]
 ·refine .inr fun t=>?_
  rw[hu]
  have:=hg { w with tape:=t }
  rw[hx] at this ⊢
  generalize evF σ y=v at h this
  have:∃ hl u2,((do eqGuard op ty x y (.int .i64 a) v;binOp op ty (.int .i64 a) v):Sem Value).run P { w with tape:=t }=.halt hl u2∧hl.bad:=by
   cases v with
   | int k b =>
    have hk:¬ (IntKind.i64=k):=fun e=>h ⟨b,by rw[e]⟩
    rcases hop with rfl|rfl<;>exact⟨.stuck "BinOp: operands of different kinds",_,by simp[go_sem,binOp,hk];rfl,trivial⟩
   | pointer p=>cases p<;>rcases hop with rfl|rfl<;>exact⟨.unsupported .addressObserved,_,by simp[go_sem,binOp];rfl,trivial⟩
   | _=>rcases hop with rfl|rfl<;>exact⟨.stuck "BinOp: no such operator on these operands",_,by simp[go_sem,binOp];rfl,trivial⟩
  obtain⟨hl,u2,e,hb⟩:=this
  refine⟨hl,u2,?_,hb⟩
  rw[Sem.run_bind,e]
  rfl
theorem zcv {x y:Operand} {a b:Int} {ty tz:TypeId} (ho:o.op=.binOp .add ty x y tz) (hx:evF σ x=.int .i64 a) (hy:evF σ y=.int .i64 b):RunV P σ o w (.int .i64 (IntKind.i64.wrap (a+b))) w:=jG fun u _=>by
 unfold execOp
 simp only[ho,hx,hy]
 simp[go_sem]
theorem QC {ty e:TypeId} (hs:P.underlying ty=some (.slice e)) (s:Option Addr) (l m d:Nat) (u:World):(Op.equalIn (d+1) ty (.slice s l m) (.slice none 0 0)).run P u=.ok s.isNone u:=by
 unfold Op.equalIn
 cases s<;>simp[go_sem,run_underlying hs]
theorem run_isNil {x:Operand} {s:Option Addr} {l m:Nat} {ty tz e:TypeId} (ho:o.op=.binOp .eql ty x (.const (.slice none 0 0)) tz) (hs:P.underlying ty=some (.slice e)) (hx:evF σ x=.slice s l m):RunV P σ o w (.bool s.isNone) w:=jG fun u _=>by
 have hu:(execOp (evF σ) o).run P u=((do pure (.value (← (do eqGuard .eql ty x (.const (.slice none 0 0)) (evF σ x) (.slice none 0 0);binOp .eql ty (evF σ x) (.slice none 0 0))))):Sem Go.Next).run P u:=by unfold execOp;simp only[ho];rfl
 have hg:(eqGuard .eql ty x (.const (.slice none 0 0)) (evF σ x) (.slice none 0 0)).run P u=.ok () u:=by rw[hx];simp[eqGuard,go_sem]
 have hb:(binOp .eql ty (evF σ x) (.slice none 0 0)).run P u=.ok (.bool s.isNone) u:=by
  rw[hx]
  show ((do pure (.bool (← Op.equalIn (9999+1) ty (.slice s l m) (.slice none 0 0)))):Sem Value).run P u=_
  rw[Sem.run_bind,QC hs]
  rfl
 rw[hu,Sem.run_bind,Sem.run_bind,hg]
 simp only[Result.andThen]
 rw[hb]
 rfl
theorem jS {x y:Operand} {a:Addr} {l m i sz:Nat} {ty e:TypeId} (ho:o.op=.indexAddr ty x y) (hs:P.underlying ty=some (.slice e)) (hz:∀ u,(sizeOf e).run P u=.ok sz u) (hx:evF σ x=.slice (some a) l m) (hy:evF σ y=.int .i64 i) (hi:i<l) :
  RunV P σ o w (.pointer (some (a.add (i*sz)))) w:=jG fun u _=>by
 have h1:(0:Int)≤i∧(i:Int)<l:=by omega
 unfold execOp
 simp only[ho,hx,hy]
 simp[go_sem,Instr.indexAt,asIntOf,run_underlying hs,hz,h1,hi]
end
end
section
def Solid (w:World) (b:Nat):Prop:=∃ o,w.heap[b]?=some o∧(match o with|.view ..=>False|.pending ..=>False|_=>True)
theorem yT {B:Ren} {w w':World} (h:WRel B w w') {r b:Nat} (hr:B r b):Solid w r:=by
 obtain⟨o,o',h1,h2,ho⟩:=h.objs _ _ hr
 refine⟨o,h1,?_⟩
 cases ho<;>trivial
section
variable {P:Program} {σ : Nat→Value} {o:Oper} {w:World}
theorem solid_far {u:World} {a:Addr} (h:Solid w a.block) (hu:u.heap=w.heap) (at_:Bool):∃ hl,u.farLoad P a at_=.error hl∧hl.bad:=by
 obtain⟨x,h1,h2⟩:=h
 unfold World.farLoad World.noCell
 rw[hu,h1]
 cases x<;>first|exact h2.elim|exact⟨_,rfl,trivial⟩
theorem zcn {u:World} (hu:u.heap=w.heap) (a:Addr):u.cell? a=w.cell? a:=by unfold World.cell?;rw[hu]
theorem add_block (a:Addr) (k:Nat):(a.add k).block=a.block:=by unfold Addr.add;split<;>rfl
theorem Yp {u:World} {a:Addr} {v:Value} (hc:w.cell? a=some v) (hu:u.heap=w.heap):(load a).run P u=.ok v u:=by
 unfold load
 simp only[Sem.run,zcn hu,hc]
theorem Jd {u:World} {a:Addr} (hc:w.cell? a=none) (hs:Solid w a.block) (hu:u.heap=w.heap):∃ hl,(load a).run P u=.halt hl u∧hl.bad:=by
 obtain⟨hl,e,hb⟩:=solid_far (P:=P) hs hu false
 refine⟨hl,?_,hb⟩
 unfold load
 simp only[Sem.run,zcn hu,hc]
 rw[show (Mode.plain==Mode.atomic)=false from rfl,e]
theorem zde (a:Addr) (hs:Solid w a.block):∀ (n i:Nat) (acc:Array Value),
  (∃ l:List Value,l.length=n∧(∀ j v,l[j]?=some v→w.cell? (a.add (i+j))=some v)∧∀ u:World,u.heap=w.heap→(loadCellsFrom a i n acc).run P u=.ok (acc++l.toArray) u) ∨
  ∀ u:World,u.heap=w.heap→∃ hl,(loadCellsFrom a i n acc).run P u=.halt hl u∧hl.bad
 | 0,i,acc=>.inl ⟨[],rfl,fun j v h=>by simp at h,fun u _=>by simp[loadCellsFrom,go_sem]⟩
 | n+1,i,acc=>by
  cases hc:w.cell? (a.add i) with
  | none =>
   refine .inr fun u hu=>?_
   obtain⟨hl,e,hb⟩:=Jd (P:=P) hc (by rw[add_block];exact hs) hu
   refine⟨hl,?_,hb⟩
   unfold loadCellsFrom
   rw[Sem.run_bind,e]
   rfl
  | some v =>
   have step:∀ u:World,u.heap=w.heap→(loadCellsFrom a i (n+1) acc).run P u=(loadCellsFrom a (i+1) n (acc.push v)).run P u:=fun u hu=>by
    rw[loadCellsFrom,Sem.run_bind,Yp hc hu]
    rfl
   rcases zde a hs n (i+1) (acc.push v) with ⟨l,h1,h2,h3⟩|h3
   ·refine .inl ⟨v::l,by simp[h1],fun j x hj=>?_,fun u hu=>?_⟩
    ·cases j with
     | zero =>
      simp only[List.getElem?_cons_zero,Option.some.injEq] at hj
      subst hj
      exact hc
     | succ j =>
      simp only[List.getElem?_cons_succ] at hj
      have:=h2 j x hj
      rw[show i+1+j=i+(j+1) by omega] at this
      exact this
    ·rw[step u hu,h3 u hu]
     congr 1
     apply Array.ext'
     simp
   ·exact .inr fun u hu=>by rw[step u hu];exact h3 u hu
theorem run_load {x:Operand} {a:Addr} {ty:TypeId} (ho:o.op=.load ty x) (ha:∀ u,(isAgg ty).run P u=.ok false u) (hx:evF σ x=.pointer (some a)) (hs:Solid w a.block):Or P σ o w fun v=>w.cell? a=some v:=by
 have hu:∀ u:World,(execOp (evF σ) o).run P u=((do pure (.value (← load a))):Sem Go.Next).run P u:=fun u=>by
  unfold execOp
  simp only[ho,hx]
  simp[go_sem,Instr.loadAt,Instr.sureAddr,loadVar,ha]
 cases hc:w.cell? a with
 | some v=>exact .inl ⟨v,rfl,jG fun u hh=>by rw[hu,Sem.run_bind,Yp hc hh];rfl⟩
 | none =>
  refine .inr fun t=>?_
  obtain⟨hl,e,hb⟩:=Jd (P:=P) (u:={ w with tape:=t }) hc hs rfl
  exact⟨hl,_,by rw[hu,Sem.run_bind,e];rfl,hb⟩
theorem Yn {x:Operand} {a:Addr} {ty:TypeId} {n:Nat} (ho:o.op=.load ty x) (ha:∀ u,(isAgg ty).run P u=.ok true u) (hz:∀ u,(sizeOf ty).run P u=.ok n u) (hx:evF σ x=.pointer (some a)) (hs:Solid w a.block) :
  Or P σ o w fun v=>∃ l:List Value,l.length=n∧v=.agg l.toArray∧∀ j v,l[j]?=some v→w.cell? (a.add j)=some v:=by
 have hu:∀ u:World,(execOp (evF σ) o).run P u=((do pure (.value (.agg (← loadCellsFrom a 0 n #[])))):Sem Go.Next).run P u:=fun u=>by
  unfold execOp
  simp only[ho,hx]
  simp[go_sem,Instr.loadAt,Instr.sureAddr,loadVar,ha,hz,loadCells]
  cases Sem.run P (loadCellsFrom a 0 n #[]) u<;>rfl
 rcases zde (P:=P) a hs n 0 #[] with ⟨l,h1,h2,h3⟩|h3
 ·refine .inl ⟨_,⟨l,h1,rfl,fun j v hj=>by have:=h2 j v hj;rwa [Nat.zero_add] at this⟩,jG fun u hh=>?_⟩
  rw[hu,Sem.run_bind,h3 u hh]
  simp[go_sem]
 ·refine .inr fun t=>?_
  obtain⟨hl,e,hb⟩:=h3 { w with tape:=t } rfl
  exact⟨hl,_,by rw[hu,Sem.run_bind,e];rfl,hb⟩
theorem zdS {x:Operand} {ty:TypeId} (ho:o.op=.box ty x):RunV P σ o w (.pointer (some ⟨w.heap.size,0,none⟩)) (w.alloc (.cells (evF σ x).cells ty)):=fun t _=>by
 unfold execOp
 simp only[ho]
 simp[go_sem]
 exact⟨rfl,rfl,rfl⟩
theorem run_make {x:Operand} {t e:TypeId} {i:TypeInfo} {z:Value} {n:Nat} (ho:o.op=.makeSlice t x x) (ht:P.underlying t=some (.slice e)) (hi:P.info? e=some i) (hz:i.zero=some z) (hx:evF σ x=.int .i64 n) (hb:(i.bytes:Int)*n≤281474976710656) (hc:n*i.size≤16777216) (h63:(n:Int)≤9223372036854775807) :
  RunV P σ o w (.slice (some ⟨w.heap.size,0,none⟩) n n) (w.alloc (.cells (madeCells z.cells (n*i.size)) e)):=fun tp _=>by
 have hr:=run_makeSlice (P:=P) { w with tape:=tp } t e i z ht hi hz .i64 .i64 n n (by omega) (by omega) (by simpa using hc) hb h63
 unfold execOp
 simp only[ho,hx]
 rw[Sem.run_bind,hr]
 rfl
theorem run_store1 {x y:Operand} {a:Addr} {ty:TypeId} {u v:Value} (ho:o.op=.store ty x y) (hz:∀ u,(sizeOf ty).run P u=.ok 1 u) (hx:evF σ x=.pointer (some a)) (hv:evF σ y=v) (h1:v.cells=#[v]) (hn:∀ c,v≠.agg c∧v≠.tuple c) (hc:w.cell? a=some u) (hf:w.frozen? a=false) :
  RunU P σ o w (w.setCell a v):=fun t _=>by
 have e0:a.add 0=a:=by simp[Addr.add]
 have e1:({ w with tape:=t } : World).cell? a=some u:=hc
 have e2:({ w with tape:=t } : World).frozen? a=false:=hf
 have hu:(execOp (evF σ) o).run P { w with tape:=t }=((do storeCells a [v];pure .skip):Sem Go.Next).run P { w with tape:=t }:=by
  unfold execOp
  simp only[ho,hx,hv,Instr.storeAt,Instr.sureAddr,storeVar,h1]
  simp[go_sem,hz]
 rw[hu]
 have hst:(storeCells a [v]).run P { w with tape:=t }=.ok () { heap:=(w.setCell a v).heap,tape:=t,drawn:=(w.setCell a v).drawn,os:=(w.setCell a v).os,output:=(w.setCell a v).output }:=by
  unfold storeCells store
  rw[e0]
  cases v with
  | agg c=>exact absurd rfl (hn c).1
  | tuple c=>exact absurd rfl (hn c).2
  | _ =>
   rw[Sem.run_bind]
   simp only[Sem.run,e1,e2,Bool.false_eq_true,if_false]
   rfl
 rw[Sem.run_bind,hst]
 rfl
theorem run_append {x:Operand} {c:Callee} {asq:Array Operand} {tt:Array TypeId} {t e:TypeId} {i:TypeInfo} {z:Value} (hcc:c=.builtin .append) (has:asq=#[.const (.slice none 0 0),x]) (htt:tt=#[t,t]) (ho:o.op=.call { callee:=c,args:=asq,argTypes:=tt }) (ht:P.underlying t=some (.slice e)) (hi:P.info? e=some i) (hz:i.zero=some z) (h1:i.size=1) (_hzc:z.cells.size=1)
  {a:Addr} {n m cap:Nat} {news:List Value} (hx:evF σ x=.slice (some a) n m) (hl:news.length=n) (hnews:∀ j v,news[j]?=some v→w.cell? (a.add j)=some v) (h0 : 0<n) (hb:n*i.bytes≤281474976710656) (hcap:n≤cap) (hmax:cap≤maxLen) :
  RunV P σ o w (.slice (some ⟨w.heap.size,0,none⟩) n cap) { w.alloc (.cells (news.toArray++Builtin.zeroCells z.cells (cap-n)) e) with tape:=fun d q=>if d=w.drawn then cap-n else w.tape d q,drawn:=w.drawn+1 }:=by
 subst hcc has htt
 intro tp htp
 have hd:tp w.drawn=fun _=>cap-n:=by
  have:=htp w.drawn (Nat.le_refl _) (Nat.lt_succ_self _)
  rw[this]
  funext q
  simp
 have hm:cap<2 ^ 63:=by simp only[maxLen] at hmax;omega
 have hg:grownCap { w with tape:=tp } n 0 e=cap:=by
  unfold grownCap
  simp only[Question.cut,hd]
  rw[Nat.mod_eq_of_lt (by omega)]
  omega
 have hr:=run_append_nil (P:=P) (w:={ w with tape:=tp }) t o.type e i z ht hi hz a n m news (by rw[h1,Nat.mul_one];exact hl) hnews h0 (by simp only[maxLen] at hmax;omega) hb
 rw[hg] at hr
 have hu:∀ u:World,(execOp (evF σ) o).run P u=((do pure (.value (← Builtin.append_ #[t,t] o.type #[.slice none 0 0,.slice (some a) n m]))):Sem Go.Next).run P u:=fun u=>by
  have hm:(#[.const (.slice none 0 0),x]:Array Operand).map (evF σ)=#[.slice none 0 0,evF σ x]:=by simp[evF]
  unfold execOp
  simp only[ho,resolve,hm,hx]
  rfl
 rw[hu,Sem.run_bind,hr]
 rfl
theorem run_append0 {x:Operand} {c:Callee} {asq:Array Operand} {tt:Array TypeId} {t e:TypeId} {i:TypeInfo} (hcc:c=.builtin .append) (has:asq=#[.const (.slice none 0 0),x]) (htt:tt=#[t,t]) (ho:o.op=.call { callee:=c,args:=asq,argTypes:=tt }) (ht:P.underlying t=some (.slice e)) (hi:P.info? e=some i) (hx:evF σ x=.slice none 0 0) :
  RunV P σ o w (.slice none 0 0) w:=by
 subst hcc has htt
 refine jG fun u _=>?_
 have hu:(execOp (evF σ) o).run P u=((do pure (.value (← Builtin.append_ #[t,t] o.type #[.slice none 0 0,.slice none 0 0]))):Sem Go.Next).run P u:=by
  have hm:(#[.const (.slice none 0 0),x]:Array Operand).map (evF σ)=#[.slice none 0 0,evF σ x]:=by simp[evF]
  unfold execOp
  simp only[ho,resolve,hm,hx]
  rfl
 rw[hu]
 simp[go_sem,Builtin.append_,run_underlying ht,sizeOf,typeInfo,hi,Builtin.lenOf,Builtin.firstCells]
theorem run_enter {f:Nat} {fn:Func} {c:Callee} {asq:Array Operand} {tt:Array TypeId} (hcc:c=.value (.func f)) (ho:o.op=.call { callee:=c,args:=asq,argTypes:=tt }) (hf:P.funcs[f]?=some fn) (hb:fn.body.isNone=false) (hn:(fn.name == "runtime.NumGoroutine")=false):RunE P σ o w f (asq.map (evF σ)):=by
 subst hcc
 intro t
 unfold execOp
 simp only[ho]
 have hn':¬ fn.name = "runtime.NumGoroutine":=by simpa using hn
 have hb':¬ fn.body=none:=by
  intro e
  rw[e] at hb
  simp at hb
 simp only[resolve,evF]
 simp[go_sem,invoke,callFunc,hf,hb',hn',Deferred.ofValue]
end
end
end Go.Par
namespace Go.Gal
open Go Go.Par Go.Proofs
section
def ov (d:Nat) (o:Op) (t:Nat:=0):Oper:={ dst:=some d,op:=o,type:=t,pos:= "",after:=#[],guard:=none }
def ou (o:Op):Oper:={ dst:=none,op:=o,type:=0,pos:= "",after:=#[],guard:=none }
def I (n:Int):Operand:=.const (.int .i64 n)
def lenOp (d ty x:Nat):Oper:=ov d (.call { callee:=.builtin .len,args:=#[.tmp x],argTypes:=#[ty] }) 3
def leqOp (d:Nat) (x y:Operand):Oper:=ov d (.binOp .leq 3 x y 3) 4
def lssOp (d:Nat) (x y:Operand):Oper:=ov d (.binOp .lss 3 x y 3) 4
def notOp (d x:Nat):Oper:=ov d (.pick (.tmp x) (.const (.bool false)) (.const (.bool true))) 4
def nilOp (d ty x:Nat):Oper:=ov d (.binOp .eql ty (.tmp x) (.const (.slice none 0 0)) ty) 4
def fldOp (d ty x j:Nat):Oper:=ov d (.field ty (.tmp x) j)
def ixOp (d ty x i:Nat):Oper:=ov d (.indexAddr ty (.tmp x) (.tmp i))
def ldOp (d ty x:Nat):Oper:=ov d (.load ty (.tmp x)) ty
def mvOp (d:Nat) (x:Operand):Oper:=ov d (.move x)
def addOp (d x:Nat):Oper:=ov d (.binOp .add 3 (.tmp x) (I 1) 3) 3
def num (x:Nat) (c:Code):Code:=one (leqOp 25 (I 0) (.tmp x)) <| check 25 <| one (leqOp 25 (.tmp x) (I 255)) <| check 25 c
def some_ (ty x:Nat) (c:Code):Code:=one (nilOp 25 ty x) <| one (notOp 25 25) <| check 25 <| one (ov 26 (.indexAddr ty (.tmp x) (I 0))) <| one (ldOp 26 3 26) c
def cHaul (c:Code):Code:=
 one (ixOp 26 27 18 28) <| one (ldOp 27 46 26) <| one (fldOp 29 46 27 0) <| one (fldOp 3 46 27 1) <| one (fldOp 8 46 27 2) <| num 29 <| num 3 <|
 one (lenOp 9 22 8) <| one (lssOp 25 (.tmp 24) (.tmp 9)) <| check 25 <| some_ 22 8 <| one (ixOp 26 22 8 24) <| one (ldOp 8 3 26) <| num 8 <|
 one (ixOp 26 22 1 28) <| one (ldOp 9 3 26) <| num 9 <| one (lssOp 25 (.tmp 9) (.tmp 20)) <| check 25 <|
 one (ixOp 26 26 17 9) <| one (ldOp 27 48 26) <| one (fldOp 27 48 27 0) <| one (lenOp 26 22 27) <| one (lssOp 25 (.tmp 24) (.tmp 26)) <| check 25 <| some_ 22 27 <|
 one (ixOp 26 22 27 24) <| one (ldOp 27 3 26) <| num 27 c
def rHaul:Code:=one (lssOp 25 (.tmp 28) (.tmp 21)) (.seq (.cond (.tmp 25) .skip (.exit 1)) (cHaul (one (addOp 28 28) .skip)))
def cGood (c:Code):Code:=
 one (ixOp 26 25 16 24) <| one (ldOp 27 42 26) <| one (fldOp 28 42 27 0) <| one (fldOp 29 42 27 1) <| one (fldOp 3 42 27 2) <| one (fldOp 8 42 27 3) <| num 28 <| num 29 <| num 3 <| num 8 <|
 one (mvOp 28 (I 0)) <| .seq (.block 1 (.loop rHaul)) c
def rGood:Code:=one (lssOp 25 (.tmp 24) (.tmp 19)) (.seq (.cond (.tmp 25) .skip (.exit 0)) (cGood (one (addOp 24 24) .skip)))
def cAll (c:Code):Code:=
 one (ov 23 (.buildSlice 58 1 #[(0,.tmp 0)])) <| one (fldOp 16 29 0 0) <| one (fldOp 17 29 0 1) <| one (fldOp 18 29 0 2) <|
 one (lenOp 19 25 16) <| one (lenOp 20 26 17) <| one (lenOp 21 27 18) <| one (lenOp 22 22 1) <|
 one (leqOp 25 (.tmp 19) (I 3)) <| check 25 <| one (leqOp 25 (.tmp 21) (I 16)) <| check 25 <| one (leqOp 25 (.tmp 21) (.tmp 22)) <| check 25 <|
 one (leqOp 25 (I 1) (.tmp 19)) <| check 25 <| one (leqOp 25 (I 1) (.tmp 20)) <| check 25 <| one (leqOp 25 (I 1) (.tmp 21)) <| check 25 <|
 some_ 25 16 <| some_ 26 17 <| some_ 27 18 <| some_ 22 1 <|
 one (mvOp 24 (I 0)) <| .seq (.block 0 (.loop rGood)) c
def fill (c:Code):Code:=
 one (ov 25 (.call { callee:=.value (.func 107),args:=#[.tmp 0,.tmp 1,.tmp 23],argTypes:=#[29,22,3] }) 141) <|
 one (ixOp 24 129 17 23) <| one (ou (.store 141 (.tmp 24) (.tmp 25))) <| one (ldOp 27 22 24) <|
 one (ov 27 (.call { callee:=.builtin .append,args:=#[.const (.slice none 0 0),.tmp 27],argTypes:=#[22,22] }) 22) <| one (ou (.store 22 (.tmp 24) (.tmp 27))) c
def rFill:Code:=one (lssOp 24 (.tmp 23) (.tmp 19)) (.seq (.cond (.tmp 24) .skip (.exit 0)) (fill (one (addOp 23 23) .skip)))
def allOf (tail:Code):Code:=
 one (ov 2 (.box 29 (.tmp 0))) <| one (mvOp 4 (.const (.slice none 0 0))) <| one (mvOp 5 (I 0)) <| one (mvOp 6 (.const (.bool false))) <| cAll <|
 one (ov 17 (.makeSlice 129 (.tmp 19) (.tmp 19))) <| one (ov 7 (.box 129 (.tmp 17))) <| one (mvOp 23 (I 0)) <| .seq (.block 0 (.loop rFill)) tail
def Qs:Code→Code
 | .seq _ (.seq _ (.seq _ (.seq _ (.seq _ tail))))=>tail
 | _=>.skip
def jP (fn:Func):Code:=match fn.body with|some c=>c|none=>.skip
def deadB (t:Nat):Bool:=t<30&&!(t==2||t==4||t==5||t==6||t==7||t==10||t==11||t==12||t==13||t==14||t==15)
def spS (f:Nat):Bool:=f==74||f==104||f==105||f==106||f==108
def stubS (f:Nat) (fn:Func):Code:=bif f==74 then allOf (Qs (jP fn)) else .refuse ""
def lbS (f:Nat):LicB:=bif f==67 then ⟨true,fun _=>false,false,false⟩ else bif f==94 then ⟨true,fun _=>false,true,false⟩ else bif f==95 then ⟨false,fun _=>false,true,false⟩ else bif f==74 then ⟨false,deadB,false,false⟩ else LicB.none
noncomputable abbrev S:Program:=leftP Try.prog spS stubS
abbrev LfS (f:FuncId):Lic:=(lbS f).lic
abbrev FSt:FuncId→Prop:=Ex Try.prog spS
def spW (f:Nat):Bool:=f==67||f==74||f==94||f==95||f==104||f==105||f==106||f==108
def stubW (_:Nat) (_:Func):Code:=.refuse ""
def lbW (_:Nat):LicB:=LicB.none
noncomputable abbrev Sw:Program:=leftP Try.prog spW stubW
abbrev LfW (f:FuncId):Lic:=(lbW f).lic
abbrev FW:FuncId→Prop:=Ex Try.prog spW
theorem YF:zdC Try.prog=true:=by kernel_rfl
theorem funcs_S:zdH Try.prog spS lbS=true:=by kernel_rfl
theorem funcs_W:zdH Try.prog spW lbW=true:=by kernel_rfl
theorem two_S:Two S Try.prog.funcs FSt LfS:=zeu YF funcs_S fun f hf=>by
 have h : 157≤f:=hf
 have ne:∀ n,n<157→(f==n)=false:=fun n hn=>by simp;omega
 unfold lbS
 rw[ne 67 (by omega),ne 94 (by omega),ne 95 (by omega),ne 74 (by omega)]
 rfl
theorem two_W:Two Sw Try.prog.funcs FW LfW:=zeu YF funcs_W fun _f _hf=>rfl
theorem tail_ok:codeB Try.prog (lbS 74) (Qs (jP Try.f74))=true:=by kernel_rfl
theorem tail_S:qs S (LfS 74) (Qs (jP Try.f74)):=jK (LicB.lic_for fun e=>Bool.noConfusion e) ((qD _ _).trans tail_ok)
theorem stub_ok:codeB Try.prog LicB.none (allOf (Qs (jP Try.f74)))=true:=by kernel_rfl
noncomputable abbrev body74:Code:=jP Try.f74
noncomputable def stub74:Code:=allOf (Qs body74)
theorem S_74:∃ fn,S.funcs[74]?=some fn∧fn.body=some stub74∧fn.ntmps=68:=by
 have h:Try.prog.funcs[74]?=some Try.f74:=Try.func74
 refine⟨modF spS stubS 74 Try.f74,?_,?_,?_⟩
 ·rw[qi,h]
  rfl
 ·kernel_rfl
 ·kernel_rfl
theorem self_S:Two S S.funcs (fun f=>FSt f∧f≠74) (fun f=>if f=74 then Lic.loop else LfS f):=two_S.self 74 fun fn c hf hb=>by
 obtain⟨fn2,h1,h2,_⟩:=S_74
 rw[hf] at h1
 cases h1
 rw[hb] at h2
 cases h2
 exact jK (P:=S) (b:=LicB.none) (L:=Lic.loop) (LicB.lic_for fun _=>⟨rfl,rfl⟩) ((qD _ _).trans stub_ok)
end
section
theorem dead_but {R:Program} {sp:Nat→Bool} {stub:Nat→Func→Code} {f0:Nat} (hst:∀ f,f≠f0→∀ fn,stub f fn=.refuse ""):Dead (leftP R sp stub) (fun f=>Ex R sp f∧f≠f0):=by
 refine⟨fun f hF hx a k cs w=>?_⟩
 obtain⟨fn,hf,hb⟩:=hx
 rw[qi] at hf
 obtain⟨g,hg,rfl⟩:=Option.map_eq_some_iff.1 hf
 rw[Zk] at hb
 have hs:sp f=true:=by
  have h:(sp f||bareB R f)=true:=hF.1
  unfold bareB at h
  rw[hg] at h
  simpa[hb] using h
 have e:(leftP R sp stub).funcs[f]?=some { g with body:=some (.refuse "") }:=by
  rw[qi,hg,Option.map_some,Qb hb hs,hst f hF.2]
 unfold Frame.enter
 simp[e,stepG,stepG.exec,Lost]
theorem zeG:Dead S (fun f=>FSt f∧f≠74):=dead_but fun f hf fn=>by
 have h74:(f==74)=false:=by simpa using hf
 unfold stubS
 rw[h74]
 rfl
theorem u25:S.underlying 25=some (.slice 42):=by kernel_rfl
theorem u26:S.underlying 26=some (.slice 48):=by kernel_rfl
theorem u27:S.underlying 27=some (.slice 46):=by kernel_rfl
theorem u22:S.underlying 22=some (.slice 3):=by kernel_rfl
theorem u129:S.underlying 129=some (.slice 141):=by kernel_rfl
theorem sz (t n:Nat) (h:(S.info? t).map (·.size)=some n) (u:World):(sizeOf t).run S u=.ok n u:=by
 obtain⟨i,hi,rfl⟩:=Option.map_eq_some_iff.1 h
 have hi':Tables.info? (Program.toTables S) t=some i:=hi
 simp[sizeOf,typeInfo,go_sem,hi']
theorem sz42:∀ u,(sizeOf 42).run S u=.ok 4 u:=sz 42 4 (by kernel_rfl)
theorem sz46:∀ u,(sizeOf 46).run S u=.ok 3 u:=sz 46 3 (by kernel_rfl)
theorem sz48:∀ u,(sizeOf 48).run S u=.ok 1 u:=sz 48 1 (by kernel_rfl)
theorem sz3:∀ u,(sizeOf 3).run S u=.ok 1 u:=sz 3 1 (by kernel_rfl)
theorem sz22:∀ u,(sizeOf 22).run S u=.ok 1 u:=sz 22 1 (by kernel_rfl)
theorem sz141:∀ u,(sizeOf 141).run S u=.ok 3 u:=sz 141 3 (by kernel_rfl)
theorem QG (t:Nat) (b:Bool) (h:(S.underlying t).isSome=true) (hb:(match S.underlying t with|some (.struct _)=>true|some (.array _ _)=>true|_=>false)=b) (u:World):(isAgg t).run S u=.ok b u:=by
 obtain⟨d,hd⟩:=Option.isSome_iff_exists.1 h
 rw[hd] at hb
 have hr:=run_underlying (P:=S) hd
 unfold isAgg
 rw[Sem.run_bind,hr]
 subst hb
 cases d<;>rfl
theorem ag3:∀ u,(isAgg 3).run S u=.ok false u:=QG 3 false (by kernel_rfl) (by kernel_rfl)
theorem ag22:∀ u,(isAgg 22).run S u=.ok false u:=QG 22 false (by kernel_rfl) (by kernel_rfl)
theorem ag42:∀ u,(isAgg 42).run S u=.ok true u:=QG 42 true (by kernel_rfl) (by kernel_rfl)
theorem ag46:∀ u,(isAgg 46).run S u=.ok true u:=QG 46 true (by kernel_rfl) (by kernel_rfl)
theorem ag48:∀ u,(isAgg 48).run S u=.ok true u:=QG 48 true (by kernel_rfl) (by kernel_rfl)
theorem ag25:∀ u,(isAgg 25).run S u=.ok false u:=QG 25 false (by kernel_rfl) (by kernel_rfl)
theorem ag26:∀ u,(isAgg 26).run S u=.ok false u:=QG 26 false (by kernel_rfl) (by kernel_rfl)
theorem ag27:∀ u,(isAgg 27).run S u=.ok false u:=QG 27 false (by kernel_rfl) (by kernel_rfl)
def ji (t j:Nat) (ty off:Nat):Prop:=∃ (fs:Array Field) (f:Field),S.underlying t=some (.struct fs)∧fs[j]?=some f∧f.type=ty∧f.offset=off
theorem jv (t j ty off:Nat) (h:(match S.underlying t with|some (.struct fs)=>(match fs[j]? with|some f=>f.type==ty&&f.offset==off|none=>false)|_=>false)=true):ji t j ty off:=by
 split at h
 ·rename_i fs hu
  split at h
  ·rename_i f hf
   simp only[Bool.and_eq_true,beq_iff_eq] at h
   exact⟨fs,f,hu,hf,h.1,h.2⟩
  ·cases h
 ·cases h
theorem f29_0:ji 29 0 25 0:=jv _ _ _ _ (by kernel_rfl)
theorem f29_1:ji 29 1 26 1:=jv _ _ _ _ (by kernel_rfl)
theorem f29_2:ji 29 2 27 2:=jv _ _ _ _ (by kernel_rfl)
theorem f42_0:ji 42 0 3 0:=jv _ _ _ _ (by kernel_rfl)
theorem f42_1:ji 42 1 3 1:=jv _ _ _ _ (by kernel_rfl)
theorem f42_2:ji 42 2 3 2:=jv _ _ _ _ (by kernel_rfl)
theorem f42_3:ji 42 3 3 3:=jv _ _ _ _ (by kernel_rfl)
theorem f46_0:ji 46 0 3 0:=jv _ _ _ _ (by kernel_rfl)
theorem f46_1:ji 46 1 3 1:=jv _ _ _ _ (by kernel_rfl)
theorem f46_2:ji 46 2 22 2:=jv _ _ _ _ (by kernel_rfl)
theorem f48_0:ji 48 0 22 0:=jv _ _ _ _ (by kernel_rfl)
section
variable {σ : Nat→Value} {w:World} {d ty x j t off:Nat}
theorem ju (h:ji t j ty off) (ha:∀ u,(isAgg ty).run S u=.ok false u):Go.Par.Or S σ (fldOp d t x j) w fun v=>∃ cs,σ x=.agg cs∧cs[off]?=some v:=by
 obtain⟨fs,f,h1,h2,h3,h4⟩:=h
 subst h3 h4
 exact run_field (o:=fldOp d t x j) (x:=.tmp x) rfl h1 h2 ha
end
end
section
structure Haul1 where
 hours:Nat
 covers:Nat
 price:Nat
 need:Nat
structure Good1 where
 room:Nat
 reserve:Nat
 melts:Nat
 start:Nat
 hauls:List Haul1
def int (n:Nat):Value:=.int .i64 n
def XR (B:Ren) (w':World) (b:Nat):Prop:=(∃ r,B r b)∧∃ c t m,w'.heap[b]?=some (.cells c t m)
theorem xr_of {B:Ren} {w':World} {r b o:Nat} {v:Value} (h:B r b) (hc:w'.cell? ⟨b,o,none⟩=some v):XR B w' b:=by
 refine⟨⟨r,h⟩,?_⟩
 unfold World.cell? at hc
 split at hc
 ·rename_i hx
  exact⟨_,_,_,hx⟩
 ·cases hc
structure HaulAt (w:World) (X:Nat→Prop) (hb ho mb mo db do_ nd i h:Nat) (H:Haul1):Prop where
 ex:∃ pb po np cp d nb no nn cn,X pb∧X nb∧w.cell? ⟨hb,ho+h*3,none⟩=some (int H.hours)∧w.cell? ⟨hb,ho+h*3+1,none⟩=some (int H.covers)∧w.cell? ⟨hb,ho+h*3+2,none⟩=some (.slice (some ⟨pb,po,none⟩) np cp)∧i<np ∧
  w.cell? ⟨pb,po+i,none⟩=some (int H.price)∧w.cell? ⟨mb,mo+h,none⟩=some (int d)∧d<nd∧w.cell? ⟨db,do_+d,none⟩=some (.slice (some ⟨nb,no,none⟩) nn cn)∧i<nn∧w.cell? ⟨nb,no+i,none⟩=some (int H.need)
 hours:H.hours≤255
 covers:H.covers≤255
 price:H.price≤255
 need:H.need≤255
section
variable {Q:Frame→World→Prop} {s0:St} {b:Frame} {cs:List Frame} {n:Nat} {σ : Nat→Value} {k:List Item} {w w':World} {B:Ren} {c:Code}
theorem On.or {o:Oper} {d:Nat} {φ : Value→Prop} (hG:Good S Q s0) (hcs:cs≠[]) (hk:b.kind≠.early) (h:On S s0 b cs n σ (.code (one o c)::k) w) (ho:Go.Par.Or S σ o w φ) (hg:o.guard=none) (hd:o.dst=some d) (hdn:d<n):∃ v,φ v∧On S s0 b cs n (putF σ d v) (.code c::k) w:=by
 rcases ho with ⟨v,hv,hr⟩|hb
 ·exact⟨v,hv,h.val hk hg hd hdn (.refl w) hr⟩
 ·exact (h.notBad hG hcs hk hg hb).elim
theorem On.v {o:Oper} {d:Nat} {v:Value} (hk:b.kind≠.early) (h:On S s0 b cs n σ (.code (one o c)::k) w) (hr:RunV S σ o w v w) (hg:o.guard=none) (hd:o.dst=some d) (hdn:d<n):On S s0 b cs n (putF σ d v) (.code c::k) w:=h.val hk hg hd hdn (.refl w) hr
theorem On.leq {x y:Operand} {a:Int} (hG:Good S Q s0) (hcs:cs≠[]) (hk:b.kind≠.early) (hn : 68≤n) (h:On S s0 b cs n σ (.code (one (leqOp 25 x y) (check 25 c))::k) w) (hx:evF σ x=.int .i64 a) :
  ∃ e,evF σ y=.int .i64 e∧a≤e∧On S s0 b cs n (putF σ 25 (.bool true)) (.code c::k) w:=by
 obtain⟨v,⟨e,he,hv⟩,h1⟩:=On.or hG hcs hk h (JM (o:=leqOp 25 x y) (.inl rfl) rfl hx) rfl rfl (by omega)
 obtain⟨hc,h2⟩:=h1.checked hG hcs
 have hc':v=.bool true:=hc
 subst hc'
 simp only[if_true,Value.bool.injEq] at hv
 exact⟨e,he,of_decide_eq_true hv.symm,h2⟩
theorem On.lss {x y:Operand} {a:Int} (hG:Good S Q s0) (hcs:cs≠[]) (hk:b.kind≠.early) (hn : 68≤n) (h:On S s0 b cs n σ (.code (one (lssOp 25 x y) (check 25 c))::k) w) (hx:evF σ x=.int .i64 a) :
  ∃ e,evF σ y=.int .i64 e∧a<e∧On S s0 b cs n (putF σ 25 (.bool true)) (.code c::k) w:=by
 obtain⟨v,⟨e,he,hv⟩,h1⟩:=On.or hG hcs hk h (JM (o:=lssOp 25 x y) (.inr rfl) rfl hx) rfl rfl (by omega)
 obtain⟨hc,h2⟩:=h1.checked hG hcs
 have hc':v=.bool true:=hc
 subst hc'
 have e1:¬ (BinOp.lss=BinOp.leq):=by simp
 simp only[e1,if_false,Value.bool.injEq] at hv
 exact⟨e,he,of_decide_eq_true hv.symm,h2⟩
theorem On.num {x:Nat} (hx:x≠25) (hG:Good S Q s0) (hcs:cs≠[]) (hk:b.kind≠.early) (hn : 68≤n) (h:On S s0 b cs n σ (.code (num x c)::k) w) :
  ∃ m:Nat,m≤255∧σ x=int m∧On S s0 b cs n (putF (putF σ 25 (.bool true)) 25 (.bool true)) (.code c::k) w:=by
 obtain⟨e,he,h0,h1⟩:=On.leq hG hcs hk hn h (x:=I 0) (y:=.tmp x) rfl
 have hx':Nat.beq x 25=false:=by
  cases e:Nat.beq x 25 with
  | true=>exact absurd (Nat.eq_of_beq_eq_true e) hx
  | false=>rfl
 have e2:evF (putF σ 25 (.bool true)) (.tmp x)=.int .i64 e:=by
  show putF σ 25 (.bool true) x=_
  unfold putF
  rw[hx']
  exact he
 obtain⟨f,hf,h3,h4⟩:=On.leq hG hcs hk hn h1 (y:=I 255) e2
 cases hf
 obtain⟨m,rfl⟩:=Int.eq_ofNat_of_zero_le h0
 exact⟨m,by omega,he,h4⟩
theorem beq_ne {x y:Nat} (h:x≠y):Nat.beq x y=false:=by
 cases e:Nat.beq x y with
 | true=>exact absurd (Nat.eq_of_beq_eq_true e) h
 | false=>rfl
theorem Zv {x d:Nat} {v:Value} (h:x≠d):putF σ d v x=σ x:=by
 unfold putF
 rw[beq_ne h]
 rfl
theorem qz (b o k:Nat):(⟨b,o,none⟩:Addr).add k=⟨b,o+k,none⟩:=by
 unfold Addr.add
 split
 ·rename_i h
  subst h
  rfl
 ·rfl
theorem ZU (hw:WRel B w w') {b b' o:Nat} (hb:B b b') {v:Value} (hc:w.cell? ⟨b,o,none⟩=some v):∃ v',w'.cell? ⟨b',o,none⟩=some v'∧VRel B v v':=by
 have h:=hw.cell (a:=⟨b,o,none⟩) (a':=⟨b',o,none⟩) ⟨hb,rfl,rfl⟩
 rw[hc] at h
 generalize w'.cell? ⟨b',o,none⟩=x at h
 cases h with
 | some h=>exact⟨_,rfl,h⟩
theorem jz (hw:WRel B w w') {b b' o m:Nat} (hb:B b b') (hc:w.cell? ⟨b,o,none⟩=some (int m)):w'.cell? ⟨b',o,none⟩=some (int m):=by
 obtain⟨v',h1,h2⟩:=ZU hw hb hc
 cases h2
 exact h1
theorem On.some_ {ty ety sz x:Nat} {s:Option Addr} {l m:Nat} {v':Value} (hx:x≠25) (_hx6:x≠26) (hG:Good S Q s0) (hcs:cs≠[]) (hk:b.kind≠.early) (hn : 68≤n) (hw:WRel B w w') (hu:S.underlying ty=some (.slice ety)) (hz:∀ u,(sizeOf ety).run S u=.ok sz u) (h:On S s0 b cs n σ (.code (some_ ty x c)::k) w) (hv : σ x=.slice s l m) (hl : 0<l) (hr:VRel B (σ x) v') :
  ∃ sb so sb',σ x=.slice (some ⟨sb,so,none⟩) l m∧v'=.slice (some ⟨sb',so,none⟩) l m∧B sb sb'∧XR B w' sb'∧∃ u0 u1 u2 u3,On S s0 b cs n (putF (putF (putF (putF σ 25 u0) 25 u1) 26 u2) 26 u3) (.code c::k) w:=by
 have h1:=On.v hk h (run_isNil (o:=nilOp 25 ty x) (x:=.tmp x) rfl hu hv) rfl rfl (by omega)
 have h2:=On.v hk h1 (run_pick (o:=notOp 25 25) (t:=s.isNone) rfl rfl) rfl rfl (by omega)
 obtain⟨hc,h3⟩:=h2.checked hG hcs
 obtain⟨a,rfl⟩:∃ a,s=some a:=by
  cases s with
  | some a=>exact⟨a,rfl⟩
  | none =>
   exfalso
   have hc':(if (none:Option Addr).isNone then (Value.bool false) else Value.bool true)=.bool true:=hc
   simp at hc'
 have hx2:evF (putF (putF σ 25 (.bool (some a).isNone)) 25 (if (some a).isNone=true then evF (putF σ 25 (.bool (some a).isNone)) (.const (.bool false)) else evF (putF σ 25 (.bool (some a).isNone)) (.const (.bool true)))) (.tmp x)=.slice (some a) l m:=by
  show putF (putF σ 25 _) 25 _ x=_
  rw[Zv hx,Zv hx]
  exact hv
 have h4:=On.v hk h3 (jS (o:=ov 26 (.indexAddr ty (.tmp x) (I 0))) (i:=0) rfl hu hz hx2 rfl hl) rfl rfl (by omega)
 rw[hv] at hr
 cases hr with
 | empty=>exact absurd hl (Nat.lt_irrefl 0)
 | slice l m hr =>
  cases hr with
  | @some _ a' hr =>
   have e0:a.add (0*sz)=a:=by rw[Nat.zero_mul];rfl
   rw[e0] at h4
   obtain⟨u,hu1,h5⟩:=On.or hG hcs hk h4 (Go.Par.run_load (o:=ldOp 26 3 26) (a:=a) rfl ag3 rfl (yT hw hr.block)) rfl rfl (by omega)
   have hsp:a.spot=none:=by
    unfold World.cell? at hu1
    split at hu1
    ·split at hu1
     ·cases hu1
     ·rename_i hn2
      cases e:a.spot with
      | none=>rfl
      | some y=>rw[e] at hn2;simp at hn2
    ·cases hu1
   obtain⟨ab,ao,asp⟩:=a
   obtain⟨ab',ao',asp'⟩:=a'
   obtain⟨r1,r2,r3⟩:=hr
   simp only at hsp r1 r2 r3
   subst hsp r2 r3
   obtain⟨_,x1,_⟩:=ZU hw r1 hu1
   exact⟨ab,ao',ab',hv,rfl,r1,xr_of r1 x1,_,_,_,_,h5⟩
def Keep (X:List Nat) (σ σ':Nat→Value):Prop:=∀ j,j ∉ X→σ' j=σ j
theorem Keep.refl (X:List Nat) (σ : Nat→Value):Keep X σ σ:=fun _ _=>rfl
theorem Keep.put {X:List Nat} {σ σ':Nat→Value} (h:Keep X σ σ') {d:Nat} (hd:d∈X) (v:Value):Keep X σ (putF σ' d v):=fun j hj=>by
 rw[Zv fun e=>hj (by rw[e];exact hd)]
 exact h j hj
theorem Keep.trans {X:List Nat} {σ σ1 σ2:Nat→Value} (h:Keep X σ σ1) (k:Keep X σ1 σ2):Keep X σ σ2:=fun j hj=>(k j hj).trans (h j hj)
theorem Keep.more {X Y:List Nat} {σ σ':Nat→Value} (h:Keep X σ σ') (hs:∀ x∈X,x∈Y):Keep Y σ σ':=fun j hj=>h j fun hx=>hj (hs j hx)
end
end
end Go.Gal
