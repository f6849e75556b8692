/- The goroutine's function of 'all': the operations of its drawn region. The goroutine's function of 'all': the store of its plan. The cheapest plan of one good, as a function; the .. -/
import Derived.Test.YtlgiofglcgbjgaaM17
namespace Go.Gal
open Go Go.Par Go.Proofs Go.Conc Go.ConcN Go.RowKit Go.Conc.Lib Go.ConcR.Gen Go.ConcN.Gen
section
open Go.ConcR (KK WgAt stA smA rd wr mk DC0)
noncomputable abbrev op105 (j:Nat):Oper:=(ops105[j]?).getD default
theorem ZW (j:Nat) (hj:j<8):ops105[j]?=some (op105 j):=by
 have h:ops105.size=8:=by kernel_rfl
 unfold op105
 rw[Array.getElem?_eq_getElem (by omega)]
 rfl
theorem op0:(op105 0).op=.load 129 (.tmp 4)∧(op105 0).dst=some 5∧(op105 0).guard=none:=by refine⟨?_,?_,?_⟩<;>kernel_rfl
theorem op1:(op105 1).op=.load 3 (.tmp 3)∧(op105 1).dst=some 6∧(op105 1).guard=none:=by refine⟨?_,?_,?_⟩<;>kernel_rfl
theorem op2:(op105 2).op=.load 29 (.tmp 1)∧(op105 2).dst=some 7∧(op105 2).guard=none:=by refine⟨?_,?_,?_⟩<;>kernel_rfl
theorem op3:(op105 3).op=.load 22 (.tmp 2)∧(op105 3).dst=some 8∧(op105 3).guard=none:=by refine⟨?_,?_,?_⟩<;>kernel_rfl
theorem op4:(op105 4).op=.load 3 (.tmp 3)∧(op105 4).dst=some 9∧(op105 4).guard=none:=by refine⟨?_,?_,?_⟩<;>kernel_rfl
theorem op5:(op105 5).op=.call { callee:=.value (.func 107),args:=#[.tmp 7,.tmp 8,.tmp 9],argTypes:=#[29,22,3] }∧(op105 5).dst=some 10∧(op105 5).guard=none:=by refine⟨?_,?_,?_⟩<;>kernel_rfl
theorem op6:(op105 6).op=.indexAddr 129 (.tmp 5) (.tmp 6)∧(op105 6).dst=some 11∧(op105 6).guard=none:=by refine⟨?_,?_,?_⟩<;>kernel_rfl
theorem op7:(op105 7).op=.store 141 (.tmp 11) (.tmp 10)∧(op105 7).dst=none∧(op105 7).guard=none:=by refine⟨?_,?_,?_⟩<;>kernel_rfl
theorem loud105:(Try.prog.funcs[b105.fn]?).any (·.norace)=false:=by kernel_rfl
section
variable {T:Array Value} {ds:List Deferred} {k:List Item} {cs:List Frame} {w:World} {l:List Nat}
theorem step_val {j:Nat} (hj:j<8) {d:Tmp} (hd:(op105 j).dst=some d) (hg:(op105 j).guard=none) {v:Value} {w':World} {es:Array Event} (hr:(execOp (Act.eval ⟨T,ds⟩) (op105 j)).run Try.prog w=.ok (.value v) w')
  (he:(execOp (Act.eval ⟨T,ds⟩) (op105 j)).events Try.prog w #[]=es) (hn:∀ e∈es,∀ f,e.loc≠.mark (.extern f)) :
  stepG Try.prog false (G (b105.at ⟨T,ds⟩ (.inRegion ops105 (j::l)::k)) cs) w=.go (G (b105.at ⟨T.setIfInBounds d v,ds⟩ (.inRegion ops105 l::k)) cs) w' es:=by
 have hw:Region.wanted (op105 j) (yielded ops105 (⟨T,ds⟩:Act).tmps)=true:=by unfold Region.wanted;rw[hg]
 rw[stepG_value (ZW j hj) hw (by simp[b105,baseD]) hr]
 unfold listed
 rw[he,seen_eq loud105 hn,hd]
 rfl
theorem zM {x:Tmp} {v:Value} (hx:T[x]?=some v):Act.eval ⟨T,ds⟩ (.tmp x)=v:=by
 simp[Act.eval,Array.getD_eq_getD_getElem?,hx]
theorem run0 {b:Nat} {v:Value} (hx:T[4]?=some (ptr b)) (hc:w.cell? ⟨b,0,none⟩=some v):(execOp (Act.eval ⟨T,ds⟩) (op105 0)).run Try.prog w=.ok (.value v) w∧(execOp (Act.eval ⟨T,ds⟩) (op105 0)).events Try.prog w #[]=#[⟨.cell ⟨b,0,none⟩,false,false⟩]:=by
 have e:=zM (ds:=ds) hx
 unfold execOp
 simp only[op0.1,e,ptr]
 constructor
 ·simp[go_sem,hc]
 ·simp[go_sem,hc]
theorem run1 {b:Nat} {v:Value} (hx:T[3]?=some (ptr b)) (hc:w.cell? ⟨b,0,none⟩=some v):(execOp (Act.eval ⟨T,ds⟩) (op105 1)).run Try.prog w=.ok (.value v) w∧(execOp (Act.eval ⟨T,ds⟩) (op105 1)).events Try.prog w #[]=#[⟨.cell ⟨b,0,none⟩,false,false⟩]:=by
 have e:=zM (ds:=ds) hx
 unfold execOp
 simp only[op1.1,e,ptr]
 constructor<;>simp[go_sem,hc]
theorem run4 {b:Nat} {v:Value} (hx:T[3]?=some (ptr b)) (hc:w.cell? ⟨b,0,none⟩=some v):(execOp (Act.eval ⟨T,ds⟩) (op105 4)).run Try.prog w=.ok (.value v) w∧(execOp (Act.eval ⟨T,ds⟩) (op105 4)).events Try.prog w #[]=#[⟨.cell ⟨b,0,none⟩,false,false⟩]:=by
 have e:=zM (ds:=ds) hx
 unfold execOp
 simp only[op4.1,e,ptr]
 constructor<;>simp[go_sem,hc]
theorem run3 {b:Nat} {v:Value} (hx:T[2]?=some (ptr b)) (hc:w.cell? ⟨b,0,none⟩=some v):(execOp (Act.eval ⟨T,ds⟩) (op105 3)).run Try.prog w=.ok (.value v) w∧(execOp (Act.eval ⟨T,ds⟩) (op105 3)).events Try.prog w #[]=#[⟨.cell ⟨b,0,none⟩,false,false⟩]:=by
 have e:=zM (ds:=ds) hx
 unfold execOp
 simp only[op3.1,e,ptr]
 constructor<;>simp[go_sem,hc]
theorem run2 {b:Nat} {v0 v1 v2:Value} (hx:T[1]?=some (ptr b)) (h0:w.cell? ⟨b,0,none⟩=some v0) (h1:w.cell? ⟨b,1,none⟩=some v1) (h2:w.cell? ⟨b,2,none⟩=some v2) :
  (execOp (Act.eval ⟨T,ds⟩) (op105 2)).run Try.prog w=.ok (.value (.agg #[v0,v1,v2])) w∧(execOp (Act.eval ⟨T,ds⟩) (op105 2)).events Try.prog w #[]=#[⟨.cell ⟨b,0,none⟩,false,false⟩,⟨.cell ⟨b,1,none⟩,false,false⟩,⟨.cell ⟨b,2,none⟩,false,false⟩]:=by
 have e:=zM (ds:=ds) hx
 unfold execOp
 simp only[op2.1,e,ptr]
 constructor<;>simp[go_sem,h0,h1,h2]
theorem args5 {a b c:Value} (ha:T[7]?=some a) (hb:T[8]?=some b) (hc:T[9]?=some c):(#[.tmp 7,.tmp 8,.tmp 9]:Array Operand).map (Act.eval ⟨T,ds⟩)=#[a,b,c]:=by
 simp only[List.map_toArray,List.map_cons,List.map_nil,zM (ds:=ds) ha,zM (ds:=ds) hb,zM (ds:=ds) hc]
theorem step5 {a b c:Value} (ha:T[7]?=some a) (hb:T[8]?=some b) (hc:T[9]?=some c) :
  stepG Try.prog false (G (b105.at ⟨T,ds⟩ (.inRegion ops105 (5::l)::k)) cs) w=.go (G (Frame.enter Try.prog 107 #[a,b,c] .normal) (b105.at ⟨T,ds⟩ (.inRegion ops105 (5::l)::k)::cs)) w #[]:=by
 have hw:Region.wanted (op105 5) (yielded ops105 (⟨T,ds⟩:Act).tmps)=true:=by unfold Region.wanted;rw[op5.2.2]
 have hb':Try.f107.body.isNone=false:=by kernel_rfl
 have hn:(Try.f107.name == "runtime.NumGoroutine")=false:=by kernel_rfl
 have he:listed Try.prog b105.fn ⟨T,ds⟩ (op105 5) w=#[]:=by
  unfold listed
  rw[events_call_body op5.1 Try.func107 hn hb']
  exact seen_none _ _
 have hr:=run_call_body (P:=Try.prog) (a:=⟨T,ds⟩) (w:=w) op5.1 Try.func107 hn hb'
 rw[args5 ha hb hc] at hr
 rw[stepG_enter (ZW 5 (by omega)) hw (by simp[b105,baseD]) hr,he]
theorem run6 {C n:Nat} {i:Nat} (ha:T[5]?=some (.slice (some ⟨C,0,none⟩) n n)) (hb:T[6]?=some (.int .i64 i)) (hi:i<n):(execOp (Act.eval ⟨T,ds⟩) (op105 6)).run Try.prog w=.ok (.value (.pointer (some ⟨C,i*3,none⟩))) w∧(execOp (Act.eval ⟨T,ds⟩) (op105 6)).events Try.prog w #[]=#[]:=by
 have e1:=zM (ds:=ds) ha
 have e2:=zM (ds:=ds) hb
 unfold execOp
 simp only[op6.1,e1,e2]
 have h1:(i:Int)<n:=by omega
 have h0:(0:Int)≤i:=by omega
 constructor<;>simp[go_sem,h0,h1]
end
end
section
open Go.ConcR (KK WgAt stA smA rd wr mk DC0)
section
variable {T:Array Value} {ds:List Deferred} {k:List Item} {cs:List Frame} {w:World} {l:List Nat}
def put3 (cs:Array Value) (o:Nat) (a b c:Value):Array Value:=((cs.setIfInBounds o a).setIfInBounds (o+1) b).setIfInBounds (o+2) c
theorem zbh {a:Addr} {v u:Value} {es:Array Event} (hv1:∀ c,v≠.agg c) (hv2:∀ c,v≠.tuple c) (h:w.cell? a=some u) (f:w.frozen? a=false):Sem.events Try.prog (store a v) w es=es.push ⟨.cell a,true,false⟩:=by
 unfold store Sem.events
 cases v<;>first|exact (hv1 _ rfl).elim|exact (hv2 _ rfl).elim|(simp[Sem.runT,h,f];rfl)
theorem run7 {C o:Nat} {s:Option Addr} {n m:Nat} {cost:Int} {no:Bool} {u0 u1 u2:Value} (ha:T[11]?=some (.pointer (some ⟨C,o,none⟩))) (hb:T[10]?=some (.agg #[.slice s n m,.int .i64 cost,.bool no]))
  (h0:w.cell? ⟨C,o,none⟩=some u0) (h1:w.cell? ⟨C,o+1,none⟩=some u1) (h2:w.cell? ⟨C,o+2,none⟩=some u2) (f0:w.frozen? ⟨C,o,none⟩=false) (f1:w.frozen? ⟨C,o+1,none⟩=false) (f2:w.frozen? ⟨C,o+2,none⟩=false) :
  (execOp (Act.eval ⟨T,ds⟩) (op105 7)).run Try.prog w=.ok .skip (((w.setCell ⟨C,o,none⟩ (.slice s n m)).setCell ⟨C,o+1,none⟩ (.int .i64 cost)).setCell ⟨C,o+2,none⟩ (.bool no)) ∧
  (execOp (Act.eval ⟨T,ds⟩) (op105 7)).events Try.prog w #[]=#[⟨.cell ⟨C,o,none⟩,true,false⟩,⟨.cell ⟨C,o+1,none⟩,true,false⟩,⟨.cell ⟨C,o+2,none⟩,true,false⟩]:=by
 have e1:=zM (ds:=ds) ha
 have e2:=zM (ds:=ds) hb
 unfold execOp
 simp only[op7.1,e1,e2]
 constructor
 ·simp[go_sem,stored,h0,h1,h2,f0,f1,f2]
 ·have x0:=zbh (w:=w) (es:=#[]) (v:=.slice s n m) (by simp) (by simp) h0 f0
  have x2:=fun w1 es h f=>zbh (w:=w1) (es:=es) (a:=⟨C,o+2,none⟩) (v:=.bool no) (u:=u2) (by simp) (by simp) h f
  simp[go_sem,storedEv,h0,h1,f0,f1,x0]
  rw[x2]
  ·rfl
  ·simp[go_sem,h2]
  ·simp[go_sem,f2]
theorem QN {C o:Nat} {cs:Array Value} {t:TypeId} {m:Nat×Nat} (h:w.heap[C]?=some (.cells cs t m)) (v:Value):(w.setCell ⟨C,o,none⟩ v).heap[C]?=some (.cells (cs.setIfInBounds o v) t m):=by
 unfold World.setCell
 have hlt:=(Array.getElem?_eq_some_iff.1 h).1
 simp[Array.getElem?_modify,h]
theorem zay {C o:Nat} {cs:Array Value} {t:TypeId} {m:Nat×Nat} (h:w.heap[C]?=some (.cells cs t m)) (a b c:Value) :
  let w3:=((w.setCell ⟨C,o,none⟩ a).setCell ⟨C,o+1,none⟩ b).setCell ⟨C,o+2,none⟩ c
  w3.heap[C]?=some (.cells (put3 cs o a b c) t m)∧(∀ k,k≠C→w3.heap[k]?=w.heap[k]?)∧w3.heap.size=w.heap.size∧Go.Par.Calm w w3:=by
 have h1:=aside_setCell w ⟨C,o,none⟩ a
 have h2:=aside_setCell (w.setCell ⟨C,o,none⟩ a) ⟨C,o+1,none⟩ b
 have h3:=aside_setCell ((w.setCell ⟨C,o,none⟩ a).setCell ⟨C,o+1,none⟩ b) ⟨C,o+2,none⟩ c
 have hA:=(h1.trans h2).trans h3
 exact⟨QN (QN (QN h a) b) c,hA.block,hA.size,⟨hA.os,hA.output,hA.tape⟩⟩
theorem QS (cs:Array Value) (o:Nat) (a b c:Value):(put3 cs o a b c).size=cs.size:=by simp[put3]
theorem JN {cs:Array Value} {o p:Nat} {a b c:Value} (h:p<o∨o+2<p):(put3 cs o a b c)[p]?=cs[p]?:=by
 unfold put3
 rw[Array.getElem?_setIfInBounds_ne (by omega),Array.getElem?_setIfInBounds_ne (by omega),Array.getElem?_setIfInBounds_ne (by omega)]
end
end
end Go.Gal
namespace Go.Gal
open Go Go.Par Go.Proofs
section
abbrev Plan:=List Nat×Nat×Bool
def after (D:Good1) (h:Haul1) (x:Nat):Int:=(x:Int)-(if 0<D.melts then min x (h.hours / D.melts) else 0:Nat)-(h.covers*h.need:Nat)
def tryN (D:Good1) (h:Haul1) (rest:Nat→Plan) (there:Nat) (best:Plan) (n:Nat):Plan:=
 if after D h (there+n)<D.reserve then best else
  let r:=rest (after D h (there+n)).toNat
  if !r.2.2&&(best.2.2||decide (r.2.1+n*h.price<best.2.1)) then (n::r.1,r.2.1+n*h.price,false) else best
def tries (D:Good1) (h:Haul1) (there:Nat):Nat:=if h.price=0 then min 1 (D.room+1-there) else D.room+1-there
def zU (D:Good1):List Haul1→Nat→Plan
 | [],_=>([],0,false)
 | h::hs,there=>(List.range (tries D h there)).foldl (tryN D h (zU D hs) there) ([],0,true)
def zg (D:Good1):Plan:=zU D D.hauls D.start
theorem yN (D:Good1):∀ (hs:List Haul1) (t:Nat),(zU D hs t).1.length≤hs.length
 | [],t=>by simp[zU]
 | h::hs,t=>by
  unfold zU
  have key:∀ (l:List Nat) (best:Plan),best.1.length≤hs.length+1→(l.foldl (tryN D h (zU D hs) t) best).1.length≤hs.length+1:=by
   intro l
   induction l with
   | nil=>exact fun b hb=>hb
   | cons x l ih =>
    intro b hb
    refine ih _ ?_
    unfold tryN
    split
    ·exact hb
    ·dsimp only
     split
     ·have:=yN D hs (after D h (t+x)).toNat
      simp only[List.length_cons]
      omega
     ·exact hb
  exact key _ _ (by simp)
def rowOf (l:List Nat) (m:Nat):Array Value:=(l.map int).toArray++Builtin.zeroCells (Value.int .i64 0).cells (m-l.length)
def LoadsAt (w:World) (l:List Nat) (s:Option Addr) (m:Nat):Prop:=(l=[]∧s=none∧m=0)∨(l≠[]∧∃ b,s=some ⟨b,0,none⟩∧l.length≤m∧m≤maxLen∧w.heap[b]?=some (.cells (rowOf l m) 3 (0,0)))
def PlanAt (w:World) (p:Plan) (v:Value):Prop:=∃ s m,v=.agg #[.slice s p.1.length m,.int .i64 p.2.1,.bool p.2.2]∧LoadsAt w p.1 s m
structure Grown (w w1:World):Prop where
 size:w.heap.size≤w1.heap.size
 same:∀ b,b<w.heap.size→w1.heap[b]?=w.heap[b]?
 os:w1.os=w.os
def ye (P:Program):Prop:=∀ w A i D,KitAt w (fun _=>True) A i D→Calls P 107 #[A.k,A.m,int i] w fun e w1=>∃ v,e=.returned v∧Grown w w1∧PlanAt w1 (zg D) v
theorem Grown.cell {w w1:World} (h:Grown w w1) {b o:Nat} {v:Value} (hc:w.cell? ⟨b,o,none⟩=some v):w1.cell? ⟨b,o,none⟩=some v:=by
 unfold World.cell? at hc ⊢
 split at hc
 ·rename_i c t m hx
  have hlt:b<w.heap.size:=(Array.getElem?_eq_some_iff.1 hx).1
  rw[h.same b hlt]
  rw[hx]
  exact hc
 ·cases hc
theorem HaulAt.mono {w w1:World} {X Y:Nat→Prop} {hb ho mb mo db do_ nd i h:Nat} {H:Haul1} (hx:∀ b,X b→Y b) (hc:∀ b o v,X b→(∀ n,v=int n→w.cell? ⟨b,o,none⟩=some v→w1.cell? ⟨b,o,none⟩=some v)∧∀ sb so l m,X sb→v=.slice (some ⟨sb,so,none⟩) l m→w.cell? ⟨b,o,none⟩=some v→w1.cell? ⟨b,o,none⟩=some v) (x1:X hb) (x2:X mb) (x3:X db) (k:HaulAt w X hb ho mb mo db do_ nd i h H):HaulAt w1 Y hb ho mb mo db do_ nd i h H:=by
 obtain⟨⟨pb,po,np,cp,d,nb,no,nn,cn,q1,q2,a,b,c,e,f,g,x,y,z,u⟩,k1,k2,k3,k4⟩:=k
 exact⟨⟨pb,po,np,cp,d,nb,no,nn,cn,hx _ q1,hx _ q2,(hc _ _ _ x1).1 _ rfl a,(hc _ _ _ x1).1 _ rfl b,(hc _ _ _ x1).2 _ _ _ _ q1 rfl c,e,(hc _ _ _ q1).1 _ rfl f,(hc _ _ _ x2).1 _ rfl g,x,(hc _ _ _ x3).2 _ _ _ _ q2 rfl y,z,(hc _ _ _ q2).1 _ rfl u⟩,k1,k2,k3,k4⟩
theorem KitAt.to {w w1:World} {X Y:Nat→Prop} {A:Kit1} {i:Nat} {D:Good1} (hx:∀ b,X b→Y b) (hc:∀ b o v,X b→(∀ n,v=int n→w.cell? ⟨b,o,none⟩=some v→w1.cell? ⟨b,o,none⟩=some v)∧∀ sb so l m,X sb→v=.slice (some ⟨sb,so,none⟩) l m→w.cell? ⟨b,o,none⟩=some v→w1.cell? ⟨b,o,none⟩=some v) (k:KitAt w X A i D):KitAt w1 Y A i D:=by
 obtain⟨x1,x2,x3,x4⟩:=k.blocks
 exact⟨⟨hx _ x1,hx _ x2,hx _ x3,hx _ x4⟩,k.hi,k.ng,k.nh,k.nh1,k.nm,(hc _ _ _ x1).1 _ rfl k.room,(hc _ _ _ x1).1 _ rfl k.reserve,(hc _ _ _ x1).1 _ rfl k.melts,(hc _ _ _ x1).1 _ rfl k.start,k.room1,k.reserve1,k.melts1,k.start1,k.len,fun h H hh=>(k.hauls h H hh).mono hx hc x2 x3 x4⟩
theorem KitAt.mono {w w1:World} {X:Nat→Prop} {A:Kit1} {i:Nat} {D:Good1} (hc:∀ b o v,w.cell? ⟨b,o,none⟩=some v→w1.cell? ⟨b,o,none⟩=some v) (k:KitAt w X A i D):KitAt w1 X A i D:=k.to (fun _ h=>h) fun _b _o _v _=>⟨fun _ _ h=>hc _ _ _ h,fun _ _ _ _ _ _ h=>hc _ _ _ h⟩
theorem S_107:∃ fn,S.funcs[107]?=some fn∧fn.body.isNone=false∧(fn.name == "runtime.NumGoroutine")=false:=by
 have h:Try.prog.funcs[107]?=some Try.f107:=Try.func107
 refine⟨modF spS stubS 107 Try.f107,by rw[qi,h];rfl,by kernel_rfl,by kernel_rfl⟩
theorem i141:∃ i,S.info? 141=some i∧i.zero=some (.agg #[.slice none 0 0,.int .i64 0,.bool false])∧i.size=3∧i.bytes=40:=by
 have h:(S.info? 141).isSome=true:=by kernel_rfl
 have h1:(S.info? 141).bind (·.zero)=some (.agg #[.slice none 0 0,.int .i64 0,.bool false]):=by kernel_rfl
 have h2:(S.info? 141).map (·.size)=some 3:=by kernel_rfl
 have h3:(S.info? 141).map (·.bytes)=some 40:=by kernel_rfl
 obtain⟨i,hi⟩:=Option.isSome_iff_exists.1 h
 rw[hi] at h1 h2 h3
 exact⟨i,hi,h1,Option.some.inj h2,Option.some.inj h3⟩
theorem i3:∃ i,S.info? 3=some i∧i.zero=some (.int .i64 0)∧i.size=1∧i.bytes=8:=by
 have h:(S.info? 3).isSome=true:=by kernel_rfl
 have h1:(S.info? 3).bind (·.zero)=some (.int .i64 0):=by kernel_rfl
 have h2:(S.info? 3).map (·.size)=some 1:=by kernel_rfl
 have h3:(S.info? 3).map (·.bytes)=some 8:=by kernel_rfl
 obtain⟨i,hi⟩:=Option.isSome_iff_exists.1 h
 rw[hi] at h1 h2 h3
 exact⟨i,hi,h1,Option.some.inj h2,Option.some.inj h3⟩
structure Filled (Ds:List Good1) (cap R:Nat→Nat) (C N1 ng i:Nat) (w:World):Prop where
 row:∃ arr:Array Value,w.heap[C]?=some (.cells arr 141 (0,0))∧arr.size=3*ng∧∀ j D,j<i→Ds[j]?=some D →
  arr[3*j]?=some (if (zg D).1=[] then .slice none 0 0 else .slice (some ⟨R j,0,none⟩) (zg D).1.length (cap j))∧arr[3*j+1]?=some (.int .i64 (zg D).2.1)∧arr[3*j+2]?=some (.bool (zg D).2.2)
 rows:∀ j D,j<i→Ds[j]?=some D→(zg D).1≠[]→w.heap[R j]?=some (.cells (rowOf (zg D).1 (cap j)) 3 (0,0))
 new:∀ j D,j<i→Ds[j]?=some D→(zg D).1≠[]→N1≤R j∧R j<w.heap.size
 inj:∀ j j' D D',j<i→j'<i→Ds[j]?=some D→Ds[j']?=some D'→(zg D).1≠[]→(zg D').1≠[]→R j=R j'→j=j'
structure LInv (A:Kit1) (Ds:List Good1) (cap R:Nat→Nat) (C:Nat) (W1:World) (i:Nat) (σ : Nat→Value) (w:World):Prop where
 s0 : σ 0=A.k
 s1 : σ 1=A.m
 s17 : σ 17=.slice (some ⟨C,0,none⟩) A.ng A.ng
 s19 : σ 19=int A.ng
 s23 : σ 23=int i
 size:W1.heap.size≤w.heap.size
 os:w.os=W1.os
 old:∀ b,b<W1.heap.size→b≠C→w.heap[b]?=W1.heap[b]?
 fill:Filled Ds cap R C W1.heap.size A.ng i w
end
section
theorem not_FS107:¬ (FSt 107∧(107:Nat)≠74):=by
 rintro⟨h,_⟩
 have:(spS 107||bareB Try.prog 107)=false:=by kernel_rfl
 exact Bool.noConfusion (this.symm.trans h)
theorem WRel.left {B:Ren} {w w1 w':World} (h:WRel B w w') (hb:∀ r b,B r b→w1.heap[r]?=w.heap[r]?) (hs:w.heap.size≤w1.heap.size) (ho:w1.os=w.os):WRel B w1 w':=
 ⟨fun r r' hr=>by rw[hb r r' hr];exact h.objs r r' hr,h.os.trans ho.symm,Nat.le_trans h.big hs,h.big'⟩
theorem okF_self {B:Ren} (hF:Fit S LfS B):∀ f,B.okF f→(if f=74 then Lic.loop else LfS f)=Lic.loop:=fun f h=>by
 rw[hF.okF] at h
 by_cases e:f=74
 ·simp[e]
 ·simp only[e,if_false]
  exact h
theorem rowOf_size {l:List Nat} {m:Nat} (h:l.length≤m):(rowOf l m).size=m:=by
 unfold rowOf
 rw[Array.size_append,size_zeroCells]
 simp[Value.cells]
 omega
theorem zbN {l:List Nat} {m j:Nat} {x:Nat} (h:l[j]?=some x):(rowOf l m)[j]?=some (int x):=by
 have hj:=(List.getElem?_eq_some_iff.1 h).1
 unfold rowOf
 rw[Array.getElem?_append_left (by simpa using hj)]
 simp[h]
section
variable {Q:Frame→World→Prop} {s0:St} {b:Frame} {cs:List Frame} {n:Nat} {σ : Nat→Value} {k:List Item} {w w':World} {B:Ren} {c:Code} {A:Kit1} {Ds:List Good1} {cap R:Nat→Nat} {C i:Nat} {W1 wR:World}
theorem fill_step {D:Good1} {σ5:Nat→Value} {w2:World} (hD:Ds[i]?=some D) (hcap:(zg D).1≠[]→(zg D).1.length≤cap i∧cap i≤maxLen) (hi:i<A.ng) (hi255:i≤255) (hh:D.hauls.length≤16) (_hG:Good S Q s0) (_hcs:cs≠[]) (hk:b.kind≠.early) (hn : 68≤n)
  (hCW:C<W1.heap.size) (L:LInv A Ds cap R C W1 i σ w) (g:Grown w w2) {s:Option Addr} {m:Nat} (hload:LoadsAt w2 (zg D).1 s m)
  (h25 : σ5 25=.agg #[.slice s (zg D).1.length m,.int .i64 (zg D).2.1,.bool (zg D).2.2]) (h24 : σ5 24=.pointer (some ⟨C,3*i,none⟩)) (k5:Keep [24,25,26,27] σ σ5)
  (H:On S s0 b cs n σ5 (.code (one (ou (.store 141 (.tmp 24) (.tmp 25))) <| one (ldOp 27 22 24) <|
   one (ov 27 (.call { callee:=.builtin .append,args:=#[.const (.slice none 0 0),.tmp 27],argTypes:=#[22,22] }) 22) <| one (ou (.store 22 (.tmp 24) (.tmp 27))) (one (addOp 23 23) .skip))::k) w2) :
  ∃ R' σ' w',LInv A Ds cap R' C W1 (i+1) σ' w'∧Keep [23,24,25,26,27] σ σ'∧On S s0 b cs n σ' k w':=by
 have hCw:C<w.heap.size:=Nat.lt_of_lt_of_le hCW L.size
 obtain⟨arr,hrow,harr,hfill⟩:=L.fill.row
 have hrow2:w2.heap[C]?=some (.cells arr 141 (0,0)):=(g.same C hCw).trans hrow
 have p1:QH (.slice s (zg D).1.length m):=fun c=>⟨by simp,by simp⟩
 have p2:QH (.int .i64 ((zg D).2.1:Int)):=fun c=>⟨by simp,by simp⟩
 have p3:QH (.bool (zg D).2.2):=fun c=>⟨by simp,by simp⟩
 have H1:=H.unit (w':=((w2.setCell ⟨C,3*i,none⟩ (.slice s (zg D).1.length m)).setCell ⟨C,3*i+1,none⟩ (.int .i64 (zg D).2.1)).setCell ⟨C,3*i+2,none⟩ (.bool (zg D).2.2)) (o:=ou (.store 141 (.tmp 24) (.tmp 25))) hk rfl rfl ⟨Nat.le_refl _,fun _ _=>rfl⟩ (run_store3 (P:=S) (x:=.tmp 24) (y:=.tmp 25) (C:=C) (off:=3*i) rfl sz141 h24 h25 p1 p2 p3 hrow2 (by omega))
 obtain⟨k1,k2,k3,k4⟩:=zay (o:=3*i) hrow2 (.slice s (zg D).1.length m) (.int .i64 (zg D).2.1) (.bool (zg D).2.2)
 generalize ((w2.setCell ⟨C,3*i,none⟩ (.slice s (zg D).1.length m)).setCell ⟨C,3*i+1,none⟩ (.int .i64 (zg D).2.1)).setCell ⟨C,3*i+2,none⟩ (.bool (zg D).2.2)=w3 at H1 k1 k2 k3 k4
 have g0:(put3 arr (3*i) (.slice s (zg D).1.length m) (.int .i64 (zg D).2.1) (.bool (zg D).2.2))[3*i]?=some (.slice s (zg D).1.length m):=by
  unfold put3
  rw[Array.getElem?_setIfInBounds_ne (by omega),Array.getElem?_setIfInBounds_ne (by omega),Array.getElem?_setIfInBounds_self_of_lt (by omega)]
 have g1:(put3 arr (3*i) (.slice s (zg D).1.length m) (.int .i64 (zg D).2.1) (.bool (zg D).2.2))[3*i+1]?=some (.int .i64 (zg D).2.1):=by
  unfold put3
  rw[Array.getElem?_setIfInBounds_ne (by omega),Array.getElem?_setIfInBounds_self_of_lt (by simp;omega)]
 have g2:(put3 arr (3*i) (.slice s (zg D).1.length m) (.int .i64 (zg D).2.1) (.bool (zg D).2.2))[3*i+2]?=some (.bool (zg D).2.2):=by
  unfold put3
  rw[Array.getElem?_setIfInBounds_self_of_lt (by simp;omega)]
 have gne:∀ p,p<3*i→(put3 arr (3*i) (.slice s (zg D).1.length m) (.int .i64 (zg D).2.1) (.bool (zg D).2.2))[p]?=arr[p]?:=fun p hp=>JN (.inl hp)
 have gsz:=QS arr (3*i) (.slice s (zg D).1.length m) (.int .i64 (zg D).2.1) (.bool (zg D).2.2)
 generalize put3 arr (3*i) (.slice s (zg D).1.length m) (.int .i64 (zg D).2.1) (.bool (zg D).2.2)=arr3 at k1 g0 g1 g2 gne gsz
 have c3:w3.cell? ⟨C,3*i,none⟩=some (.slice s (zg D).1.length m):=by
  simp only[World.cell?,k1,Option.isSome_none,Bool.false_eq_true,if_false]
  exact g0
 have H2:=On.v hk H1 (run_load_v (o:=ldOp 27 22 24) (x:=.tmp 24) rfl ag22 h24 c3) rfl rfl (by omega)
 have copy:∃ w4 v,On S s0 b cs n (putF (putF σ5 27 (.slice s (zg D).1.length m)) 27 v) (.code (one (ou (.store 22 (.tmp 24) (.tmp 27))) (one (addOp 23 23) .skip))::k) w4∧w3.heap.size≤w4.heap.size∧(∀ b,b<w3.heap.size→w4.heap[b]?=w3.heap[b]?)∧w4.os=w3.os ∧
   v=(if (zg D).1=[] then .slice none 0 0 else .slice (some ⟨w3.heap.size,0,none⟩) (zg D).1.length (cap i))∧((zg D).1≠[]→w3.heap.size<w4.heap.size∧w4.heap[w3.heap.size]?=some (.cells (rowOf (zg D).1 (cap i)) 3 (0,0))):=by
  obtain⟨i3,hi3,hz3,hs3,hb3⟩:=i3
  rcases hload with ⟨e1,e2,e3⟩|⟨hne,rb,e2,hle,hmax,hrb⟩
  ·subst e2 e3
   have e4:(zg D).1.length=0:=by rw[e1];rfl
   have H3:=On.v hk H2 (run_append0 (o:=ov 27 (.call { callee:=.builtin .append,args:=#[.const (.slice none 0 0),.tmp 27],argTypes:=#[22,22] }) 22) (x:=.tmp 27) rfl rfl rfl rfl u22 hi3 (by rw[e4];rfl)) rfl rfl (by omega)
   exact⟨w3,_,H3,Nat.le_refl _,fun _ _=>rfl,rfl,by rw[if_pos e1],fun h=>absurd e1 h⟩
  ·subst e2
   have hrbC:rb≠C:=by
    rintro rfl
    rw[hrow2] at hrb
    cases hrb
   have hrb3:w3.heap[rb]?=some (.cells (rowOf (zg D).1 m) 3 (0,0)):=(k2 rb hrbC).trans hrb
   obtain⟨hc1,hc2⟩:=hcap hne
   have hlen : 0<(zg D).1.length:=List.length_pos_iff.2 hne
   have H3:=H2.val (o:=ov 27 (.call { callee:=.builtin .append,args:=#[.const (.slice none 0 0),.tmp 27],argTypes:=#[22,22] }) 22) (d:=27) hk rfl rfl (by omega)
    ⟨by show w3.drawn≤w3.drawn+1;omega,fun d hd=>by funext q;show (if d=w3.drawn then _ else w3.tape d q)=_;rw[if_neg (by omega)]⟩
    (run_append (P:=S) (w:=w3) (x:=.tmp 27) (t:=22) (a:=⟨rb,0,none⟩) (n:=(zg D).1.length) (m:=m) (cap:=cap i) (news:=(zg D).1.map int) rfl rfl rfl rfl u22 hi3 hz3 hs3 rfl rfl (by simp) (fun j v hj=>by
     rw[qz,Nat.zero_add]
     simp only[World.cell?,hrb3,Option.isSome_none,Bool.false_eq_true,if_false]
     rw[List.getElem?_map] at hj
     obtain⟨x,hx,rfl⟩:=Option.map_eq_some_iff.1 hj
     exact zbN hx) hlen (by rw[hb3];have:=yN D D.hauls D.start;unfold zg;omega) hc1 hc2)
   refine⟨_,_,H3,?_,fun b hb=>?_,rfl,by rw[if_neg hne],fun _=>⟨?_,?_⟩⟩
   ·show w3.heap.size≤(w3.heap.push _).size
    simp
   ·show (w3.heap.push _)[b]?=_
    rw[Array.getElem?_push_lt hb,Array.getElem?_eq_getElem hb]
   ·show w3.heap.size<(w3.heap.push _).size
    simp
   ·show (w3.heap.push _)[w3.heap.size]?=_
    rw[Array.getElem?_push_size]
    rfl
 obtain⟨w4,v,H3,s4,o4,os4,hv,hnew⟩:=copy
 have hC3:C<w3.heap.size:=by have:=g.size;omega
 have row4:w4.heap[C]?=some (.cells arr3 141 (0,0)):=(o4 C hC3).trans k1
 have c4:w4.cell? ⟨C,3*i,none⟩=some (.slice s (zg D).1.length m):=by
  simp only[World.cell?,row4,Option.isSome_none,Bool.false_eq_true,if_false]
  exact g0
 have f4:w4.frozen? ⟨C,3*i,none⟩=false:=by simp[World.frozen?,row4]
 have pv:v.cells=#[v]∧QH v:=by
  rw[hv]
  split
  ·exact⟨rfl,fun c=>⟨by simp,by simp⟩⟩
  ·exact⟨rfl,fun c=>⟨by simp,by simp⟩⟩
 have H4:=H3.unit (w':=w4.setCell ⟨C,3*i,none⟩ v) (o:=ou (.store 22 (.tmp 24) (.tmp 27))) hk rfl rfl ⟨Nat.le_refl _,fun _ _=>rfl⟩ (run_store1 (P:=S) (x:=.tmp 24) (y:=.tmp 27) rfl sz22 h24 rfl pv.1 pv.2 c4 f4)
 have row5:=QN (o:=3*i) row4 v
 have a5:=Go.Conc.aside_setCell w4 ⟨C,3*i,none⟩ v
 generalize w4.setCell ⟨C,3*i,none⟩ v=w5 at H4 row5 a5
 have h23 : σ5 23=int i:=(k5 23 (by decide)).trans L.s23
 have H5:=On.v hk H4 (zcv (o:=addOp 23 23) (x:=.tmp 23) (y:=I 1) (a:=i) (b:=1) rfl h23 rfl) rfl rfl (by omega)
 have hng:A.ng≤255∨255<A.ng:=by omega
 rw[Ym hi255] at H5
 have kk:Keep [23,24,25,26,27] σ (putF (putF (putF σ5 27 (.slice s (zg D).1.length m)) 27 v) 23 (.int .i64 ((i+1:Nat):Int))):=(((k5.more (by decide)).put (by decide) _).put (by decide) _).put (by decide) _
 have w23:w3.heap.size=w2.heap.size:=k3
 have hw2:=g.size
 refine⟨fun j=>if j=i then w3.heap.size else R j,_,w5,⟨(kk 0 (by decide)).trans L.s0,(kk 1 (by decide)).trans L.s1,(kk 17 (by decide)).trans L.s17,(kk 19 (by decide)).trans L.s19,rfl,?_,?_,fun b hb hbC=>?_,⟨⟨_,row5,by simp;omega,fun j E hj hE=>?_⟩,fun j E hj hE hne=>?_,fun j E hj hE hne=>?_,fun j j' E E' hj hj' hE hE' hne hne' e=>?_⟩⟩,kk,H5.skip⟩
 ·rw[a5.size];have:=L.size;omega
 ·rw[a5.os,os4,k4.os,g.os];exact L.os
 ·have hb2:b<w2.heap.size:=by have:=L.size;omega
  rw[a5.block b hbC,o4 b (by omega),k2 b hbC,g.same b (by have:=L.size;omega)]
  exact L.old b hb hbC
 ·rcases Nat.lt_or_ge j i with hlt|hge
  ·obtain⟨x0,x1,x2⟩:=hfill j E hlt hE
   have hji:¬ j=i:=by omega
   refine⟨?_,?_,?_⟩
   ·rw[Array.getElem?_setIfInBounds_ne (by omega),gne _ (by omega),if_neg hji]
    exact x0
   ·rw[Array.getElem?_setIfInBounds_ne (by omega),gne _ (by omega)]
    exact x1
   ·rw[Array.getElem?_setIfInBounds_ne (by omega),gne _ (by omega)]
    exact x2
  ·obtain rfl:j=i:=by omega
   rw[hD] at hE
   cases hE
   refine⟨?_,?_,?_⟩
   ·rw[Array.getElem?_setIfInBounds_self_of_lt (by omega),hv,if_pos rfl]
   ·rw[Array.getElem?_setIfInBounds_ne (by omega)]
    exact g1
   ·rw[Array.getElem?_setIfInBounds_ne (by omega)]
    exact g2
 ·rcases Nat.lt_or_ge j i with hlt|hge
  ·have hji:¬ j=i:=by omega
   have hn1:=L.fill.new j E hlt hE hne
   have hRC:R j≠C:=by omega
   simp only[hji,if_false]
   rw[a5.block _ hRC,o4 _ (by omega),k2 _ hRC,g.same _ hn1.2]
   exact L.fill.rows j E hlt hE hne
  ·obtain rfl:j=i:=by omega
   rw[hD] at hE
   cases hE
   simp only[if_true]
   have hCne:w3.heap.size≠C:=by omega
   rw[a5.block _ hCne]
   exact (hnew hne).2
 ·by_cases hji:j=i
  ·subst hji
   rw[hD] at hE
   cases hE
   simp only[if_true]
   have:=(hnew hne).1
   have:=L.size
   rw[a5.size]
   omega
  ·simp only[hji,if_false]
   have:=L.fill.new j E (by omega) hE hne
   rw[a5.size]
   omega
 ·by_cases hji:j=i
  ·by_cases hji':j'=i
   ·omega
   ·exfalso
    simp only[hji,hji',if_true,if_false] at e
    have:=L.fill.new j' E' (by omega) hE' hne'
    omega
  ·by_cases hji':j'=i
   ·exfalso
    simp only[hji,hji',if_true,if_false] at e
    have:=L.fill.new j E (by omega) hE hne
    omega
   ·simp only[hji,hji',if_false] at e
    exact L.fill.inj j j' E E' (by omega) (by omega) hE hE' hne hne' e
theorem On.fills {wR:World} {v0 v1:Value} {W0:World} (hG:Good S Q s0) (hcs:cs≠[]) (hk:b.kind≠.early) (hn : 68≤n) (hF:Fit S LfS B) (hch:ye S) (hw:WRel B W1 wR) (hBC:∀ r b,B r b→r≠C) (r0:VRel B A.k v0) (r1:VRel B A.m v1)
  (hkit:∀ i D,Ds[i]?=some D→KitAt W0 (fun _=>True) A i D) (h01:∀ b,b<W0.heap.size→W1.heap[b]?=W0.heap[b]?) (hC0:W0.heap.size≤C) (hCW:C<W1.heap.size) (hW:W0.heap.size≤W1.heap.size) (hDs:Ds.length=A.ng) (hng:A.ng≤3) (hcap:∀ j D,Ds[j]?=some D→(zg D).1≠[]→(zg D).1.length≤cap j∧cap j≤maxLen) :
  ∀ (r i:Nat) (R:Nat→Nat) (σ : Nat→Value) (w:World),i+r=A.ng→LInv A Ds cap R C W1 i σ w→On S s0 b cs n σ (.code rFill::.inLoop rFill::.inBlock 0::k) w →
   ∃ R' σ' w',LInv A Ds cap R' C W1 A.ng σ' w'∧Keep [23,24,25,26,27] σ σ'∧On S s0 b cs n σ' k w'
 | r,i,R,σ,w,hr,L,H=>by
  obtain⟨v,⟨e,he,hv⟩,H1⟩:=On.or hG hcs hk H (JM (o:=lssOp 24 (.tmp 23) (.tmp 19)) (x:=.tmp 23) (y:=.tmp 19) (.inr rfl) rfl L.s23) rfl rfl (by omega)
  have he':int A.ng=.int .i64 e:=L.s19.symm.trans he
  cases he'
  have e1:¬ (BinOp.lss=BinOp.leq):=by simp
  simp only[e1,if_false] at hv
  subst hv
  have H2:=H1.seq.cond (t:=decide ((i:Int)<A.ng)) rfl
  cases r with
  | zero =>
   have hd:decide ((i:Int)<A.ng)=false:=by simp;omega
   rw[hd] at H2
   have H3:=On.exit (k':=k) H2 rfl
   have hi:i=A.ng:=by omega
   subst hi
   exact⟨R,putF σ 24 (.bool false),w,⟨L.s0,L.s1,L.s17,L.s19,L.s23,L.size,L.os,L.old,L.fill⟩,(Keep.refl _ σ).put (by decide) _,H3⟩
  | succ r =>
   have hlt:i<A.ng:=by omega
   have hd:decide ((i:Int)<A.ng)=true:=by simp;omega
   rw[hd] at H2
   have H3:=On.skip H2
   obtain⟨D,hD⟩:∃ D,Ds[i]?=some D:=⟨_,List.getElem?_eq_getElem (by omega)⟩
   have hkit1:KitAt w (fun _=>True) A i D:=(hkit i D hD).mono fun b o v hc=>by
    have hb:b<W0.heap.size:=by
     unfold World.cell? at hc
     split at hc
     ·rename_i hx
      exact (Array.getElem?_eq_some_iff.1 hx).1
     ·cases hc
    have e2:w.heap[b]?=W0.heap[b]?:=(L.old b (by omega) (by omega)).trans (h01 b hb)
    unfold World.cell? at hc ⊢
    rw[e2]
    exact hc
   have hw1:WRel B w wR:=WRel.left hw (fun r b hr=>L.old r (hw.lt hr).1 (hBC r b hr)) L.size L.os
   obtain⟨fn,f1,f2,f3⟩:=S_107
   have hrun:=run_enter (P:=S) (σ:=putF σ 24 (.bool true)) (o:=ov 25 (.call { callee:=.value (.func 107),args:=#[.tmp 0,.tmp 1,.tmp 23],argTypes:=#[29,22,3] }) 141) (w:=w) rfl rfl f1 f2 f3
   have hargs:(#[.tmp 0,.tmp 1,.tmp 23]:Array Operand).map (evF (putF σ 24 (.bool true)))=#[A.k,A.m,int i]:=by
    have x0:evF (putF σ 24 (.bool true)) (.tmp 0)=A.k:=L.s0
    have x1:evF (putF σ 24 (.bool true)) (.tmp 1)=A.m:=L.s1
    have x2:evF (putF σ 24 (.bool true)) (.tmp 23)=int i:=L.s23
    simp[x0,x1,x2]
   rw[hargs] at hrun
   have hva:VsRel B #[A.k,A.m,int i] #[v0,v1,int i]:=by
    refine⟨rfl,fun j x y hx hy=>?_⟩
    rcases j with _|_|_|j
    ·cases hx;cases hy;exact r0
    ·cases hx;cases hy;exact r1
    ·cases hx;cases hy;exact .int _ _
    ·simp at hx
   obtain⟨v,w2,H4,hR⟩:=On.call self_S zeG (hF.self 74) not_FS107 (R:=fun e w1=>∃ v,e=.returned v∧Grown w w1∧PlanAt w1 (zg D) v) (fun e w' ⟨v,e1,_⟩=>⟨v,e1⟩) (hw1.withF (okF_self hF)) hva.withF H3 hk rfl rfl (by omega) hrun (fun t _=>(hch { w with tape:=t } A i D (KitAt.mono (w:=w) (w1:={ w with tape:=t }) (fun _ _ _ h=>h) hkit1)).mono fun e w1 ⟨v,e1,g,p⟩=>⟨v,e1,⟨g.size,g.same,g.os⟩,p⟩)
   obtain⟨v',e2,g,s,m,rfl,hload⟩:=hR
   cases e2
   have H5:=On.v hk H4 (jS (o:=ixOp 24 129 17 23) (x:=.tmp 17) (y:=.tmp 23) (i:=i) rfl u129 sz141 L.s17 L.s23 hlt) rfl rfl (by omega)
   rw[qz,Nat.zero_add,Nat.mul_comm i 3] at H5
   obtain⟨R',σ',w',L',k',H6⟩:=fill_step hD (hcap i D hD) hlt (by omega) (by rw[hkit1.len];exact hkit1.nh) hG hcs hk hn hCW L g hload rfl rfl ((((Keep.refl _ σ).put (by decide) _).put (by decide) _).put (by decide) _) H5
   obtain⟨R2,σ2,w2',L2,k2,H7⟩:=On.fills hG hcs hk hn hF hch hw hBC r0 r1 hkit h01 hC0 hCW hW hDs hng hcap r (i+1) R' σ' w' (by omega) L' H6.inLoop
   exact⟨R2,σ2,w2',L2,k'.trans k2,H7⟩
end
end
end Go.Gal
namespace Go.Gal
open Go Go.Par Go.Proofs Go.Conc Go.ConcN Go.RowKit Go.Conc.Lib Go.ConcR.Gen Go.ConcN.Gen
section
open Go.ConcR (KK WgAt stA smA rd wr mk DC0 Payload)
section
variable {T:Array Value} {w:World} {h:Held}
theorem quits_tail (T:Array Value):QuitsD Try.prog 2 0 (G { b105.at ⟨T,[]⟩ [] with mode:=.returning } [bot]):=by
 refine QuitsD.ctl (g':=G bot []) rfl (fun w=>?_) ?_
 ·simp[G,stepG,unwind,doReturn,results,Frame.at,b105,baseD,bot,Try.func105,Try.f105,seen,GStep.after,goexitEntry]
 refine QuitsD.ctl (g':={ G bot [] with status:=.finished }) rfl (fun w=>?_) ⟨rfl,rfl⟩
 simp[G,stepG,unwind,bot,goexitEntry,Frame.catches]
 rfl
theorem zbm (w:World):stepG Try.prog false (G { b105.at ⟨T,[h.done]⟩ [] with mode:=.returning } [bot]) w =
  .go (G ((baseD 106).at ⟨#[.pointer (some ⟨h.wg,0,none⟩),undef,undef,undef],[]⟩ [.code (body_done link)]) [{ b105.at ⟨T,[]⟩ [] with mode:=.returning },bot]) w #[]:=by
 have e:jP Try.f106=body_done link:=by kernel_rfl
 rw[← e]
 simp[stepG,unwind,callDeferred,invoke,callFunc,Try.func106,Try.f106,seen,GStep.after,G,Frame.enter,Frame.at,b105,baseD,Held.done,ptr,jP]
set_option maxRecDepth 100000 in
theorem behind {R:World→World→Prop} (rl:∀ {w w1},WgLive link.tWg h.wg w→R w w1→WgLive link.tWg h.wg w1) (hF:WgLive link.tWg h.wg w) :
  Goes Try.prog false R DC0 (AtRls Try.prog h.wg R) 26 (G (b105.at ⟨T,[h.done]⟩ [.inRegion ops105 []]) [bot]) w:=by
 u_c stepG_region_end rl hF
 u_c stepG_end rl hF
 u_in rl hF
 rw[zbm]
 simp only[goes_go]
 exact⟨dc0_none (by intro e he;simp at he),done_start wgLib (fun x y=>rl x y) _ hF⟩
theorem behind_kit {Own Rd:Nat→Loc→Prop} {C nC kk:Nat} {val:Value} (hK:WgLive link.tWg h.wg w∧Has C (kk-1) val w) :
  Goes Try.prog false (RW link.tWg h.wg C nC 0 (kk-1)) (DWs h.wg Own Rd C nC kk) (AtR0 Try.prog link.tWg h.wg C nC 0 kk val) 26 (G (b105.at ⟨T,[h.done]⟩ [.inRegion ops105 []]) [bot]) w:=by
 u_c stepG_region_end kn_rely hK
 u_c stepG_end kn_rely hK
 u_in kn_rely hK
 rw[zbm]
 simp only[goes_go]
 refine⟨dws_none (by intro e he;simp at he),?_⟩
 exact doneN wgLib rfl (quits_tail T) _ hK
theorem to_release {R:World→World→Prop} {C nC kk:Nat} {val:Value} (hR:∀ w,R w w) (hS:∀ w w1,R w w1→RW link.tWg h.wg C nC 0 (kk-1) w w1) (hK:WgLive link.tWg h.wg w∧Has C (kk-1) val w) :
  Goes Try.prog false R DC0 (AtR0 Try.prog link.tWg h.wg C nC 0 kk val) 26 (G (b105.at ⟨T,[h.done]⟩ [.inRegion ops105 []]) [bot]) w:=
 zcd hR hS 26 26 _ _ (behind_kit (Own:=fun _ _=>False) (Rd:=fun _ _=>False) hK) (behind (fun x y=>(hS _ _ y).live x) hK.1)
end
end
end Go.Gal
