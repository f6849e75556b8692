/- 'all': what its operations yield, as far as Wait. 'all', from its entry to the WaitGroup: alone beside leavers. 'all', the starter: what it knows of memory while it starts its workers. .. -/
import Derived.Test.YtlgiofglcgbjgaaM19
namespace Go.Gal
open Go Go.Par Go.Proofs Go.Conc Go.ConcN Go.RowKit Go.Conc.Lib Go.ConcR.Gen Go.ConcN.Gen
section
open Go.ConcR (KK WgAt stA smA rd wr mk DC0 Payload)
def Yl (T:Array Value) (ds:List Deferred) (o:Oper) (w:World) (x:Go.Next) (w':World) (es:Array Event):Prop:=(execOp (Act.eval ⟨T,ds⟩) o).run Try.prog w=.ok x w'∧(execOp (Act.eval ⟨T,ds⟩) o).events Try.prog w #[]=es
section
variable {T:Array Value} {ds:List Deferred} {w:World}
theorem q00 {a b c:Value} (hx:T[0]?=some (.agg #[a,b,c])):Yl T ds (o74 0 0) w (.value (ptr w.heap.size)) (w.alloc (.cells #[a,b,c] 29)) #[]:=by
 have e:=zM (ds:=ds) hx
 unfold Yl execOp
 simp only[p00.1,e]
 constructor<;>simp[go_sem,ptr]
theorem q01 {s:Option Addr} {l m:Nat} (hx:T[1]?=some (.slice s l m)):Yl T ds (o74 0 1) w (.value (ptr w.heap.size)) (w.alloc (.cells #[.slice s l m] 22)) #[]:=by
 have e:=zM (ds:=ds) hx
 unfold Yl execOp
 simp only[p01.1,e]
 constructor<;>simp[go_sem,ptr]
theorem q02:Yl T ds (o74 0 2) w (.value (.slice none 0 0)) w #[]:=by
 unfold Yl execOp
 simp only[p02.1]
 constructor<;>simp[go_sem]
theorem q03:Yl T ds (o74 0 3) w (.value (.int .i64 0)) w #[]:=by
 unfold Yl execOp
 simp only[p03.1]
 constructor<;>simp[go_sem]
theorem q04:Yl T ds (o74 0 4) w (.value (.bool false)) w #[]:=by
 unfold Yl execOp
 simp only[p04.1]
 constructor<;>simp[go_sem]
theorem q10 {b:Nat} (hx:T[2]?=some (ptr b)):Yl T ds (o74 1 0) w (.value (ptr b)) w #[]:=by
 have e:=zM (ds:=ds) hx
 unfold Yl execOp
 simp only[p10.1,e,ptr]
 constructor<;>simp[go_sem]
theorem q11 {b:Nat} {v:Value} (hx:T[16]?=some (ptr b)) (hc:w.cell? ⟨b,0,none⟩=some v):Yl T ds (o74 1 1) w (.value v) w #[⟨.cell ⟨b,0,none⟩,false,false⟩]:=by
 have e:=zM (ds:=ds) hx
 unfold Yl execOp
 simp only[p11.1,e,ptr]
 constructor<;>simp[go_sem,hc]
theorem q12 {s:Option Addr} {l m:Nat} (hx:T[17]?=some (.slice s l m)):Yl T ds (o74 1 2) w (.value (.int .i64 l)) w #[]:=by
 have e:=zM (ds:=ds) hx
 unfold Yl execOp
 simp only[p12.1]
 constructor<;>simp[go_sem,hx,Builtin.len_]
theorem info141:∃ i:TypeInfo,Try.prog.info? 141=some i∧i.zero=some (.agg #[.slice none 0 0,.int .i64 0,.bool false])∧i.size=3∧i.bytes=40:=by
 have h:(Try.prog.info? 141).isSome=true:=by kernel_rfl
 have h1:(Try.prog.info? 141).bind (·.zero)=some (.agg #[.slice none 0 0,.int .i64 0,.bool false]):=by kernel_rfl
 have h2:(Try.prog.info? 141).map (·.size)=some 3:=by kernel_rfl
 have h3:(Try.prog.info? 141).map (·.bytes)=some 40:=by kernel_rfl
 obtain⟨i,hi⟩:=Option.isSome_iff_exists.1 h
 rw[hi] at h1 h2 h3
 exact⟨i,hi,h1,Option.some.inj h2,Option.some.inj h3⟩
def rowC (n:Nat):Array Value:=madeCells (Value.agg #[.slice none 0 0,.int .i64 0,.bool false]).cells (3*n)
theorem rowC_size (n:Nat):(rowC n).size=3*n:=by simp[rowC,madeCells]
theorem q13 {n N:Nat} (hN:w.heap.size=N) (hn:n≤16) (hx:T[18]?=some (.int .i64 n)):Yl T ds (o74 1 3) w (.value (.slice (some ⟨N,0,none⟩) n n)) (w.alloc (.cells (rowC n) 141)) #[]:=by
 subst hN
 have e:=zM (ds:=ds) hx
 obtain⟨i,hi,hz,hs,hb⟩:=info141
 have hr:=run_makeSlice w 129 141 i _ (show Try.prog.underlying 129=some (.slice 141) by kernel_rfl) hi hz .i64 .i64 n n (by omega) (by omega) (by rw[hs];omega) (by
  rw[hb];omega) (by omega)
 have hE:(Instr.makeSlice 129 (.int .i64 n) (.int .i64 n)).events Try.prog w #[]=#[]:=by
  have wl:IntKind.i64.wrap (n:Int)=n:=by rw[IntKind.wrap_i64];omega
  have n1:¬ (n:Int)<0:=by omega
  have n2:¬ (281474976710656<40*(n:Int)):=by omega
  have n3:¬ (n*40 > roomBytes):=by unfold roomBytes;omega
  have ht:Try.prog.underlying 129=some (.slice 141):=by kernel_rfl
  unfold Sem.events
  simp[-Sem.runT_eq,Instr.makeSlice,Bind.bind,Pure.pure,underlying,typeInfo,sizeOf,program,asInt,asIntOf,Sem.bind,Sem.runT,ht,hi,wl,n1,n2,n3,hb,hs,askRoom,zeroValue,newRow,newObj]
  split<;>simp[-Sem.runT_eq,hi,hz,Sem.bind,Sem.runT]
 unfold rowC
 rw[show (3*n)=(n:Int).toNat*i.size by rw[hs];omega]
 unfold Yl execOp
 simp only[p13.1,e]
 constructor
 ·simp[go_sem,hr,Result.andThen]
 ·simp[go_sem,hE]
theorem q14:Yl T ds (o74 1 4) w (.value (ptr w.heap.size)) (w.alloc (.cells #[.slice none 0 0] 129)) #[]:=by
 unfold Yl execOp
 simp only[p14.1]
 constructor<;>simp[go_sem,ptr]
theorem q15 {b:Nat} {s:Option Addr} {l m:Nat} {u:Value} (hx:T[7]?=some (ptr b)) (hy:T[19]?=some (.slice s l m)) (hc:w.cell? ⟨b,0,none⟩=some u) (hf:w.frozen? ⟨b,0,none⟩=false) :
  Yl T ds (o74 1 5) w .skip (w.setCell ⟨b,0,none⟩ (.slice s l m)) #[⟨.cell ⟨b,0,none⟩,true,false⟩]:=by
 have e1:=zM (ds:=ds) hx
 have e2:=zM (ds:=ds) hy
 unfold Yl execOp
 simp only[p15.1,e1,e2,ptr]
 constructor
 ·simp[go_sem,stored,hc,hf]
 ·simp[go_sem]
  rw[zbh (by simp) (by simp) hc hf]
  rfl
theorem q20:Yl T ds (o74 2 0) w (.value (ptr w.heap.size)) (w.alloc (Go.ConcR.wgBlock 138 0 0)) #[]:=by
 unfold Yl execOp
 simp only[p20.1]
 constructor<;>simp[go_sem,ptr,Go.ConcR.wgBlock]
theorem q30 {b:Nat} (hx:T[2]?=some (ptr b)):Yl T ds (o74 3 0) w (.value (ptr b)) w #[]:=by
 have e:=zM (ds:=ds) hx
 unfold Yl execOp
 simp only[p30.1,e,ptr]
 constructor<;>simp[go_sem]
theorem q31 {b:Nat} {v:Value} (hx:T[20]?=some (ptr b)) (hc:w.cell? ⟨b,0,none⟩=some v):Yl T ds (o74 3 1) w (.value v) w #[⟨.cell ⟨b,0,none⟩,false,false⟩]:=by
 have e:=zM (ds:=ds) hx
 unfold Yl execOp
 simp only[p31.1,e,ptr]
 constructor<;>simp[go_sem,hc]
theorem q32 {s:Option Addr} {l m:Nat} (hx:T[21]?=some (.slice s l m)):Yl T ds (o74 3 2) w (.value (.int .i64 l)) w #[]:=by
 unfold Yl execOp
 simp only[p32.1]
 constructor<;>simp[go_sem,hx,Builtin.len_]
theorem q33:Yl T ds (o74 3 3) w (.value (.int .i64 0)) w #[]:=by
 unfold Yl execOp
 simp only[p33.1]
 constructor<;>simp[go_sem]
theorem q40 {i n:Nat} (_hi:i≤16) (_hn:n≤16) (hx:T[23]?=some (.int .i64 i)) (hy:T[22]?=some (.int .i64 n)):Yl T ds (o74 4 0) w (.value (.bool (decide (i<n)))) w #[]:=by
 have e1:=zM (ds:=ds) hx
 have e2:=zM (ds:=ds) hy
 unfold Yl execOp
 simp only[p40.1,e1,e2]
 constructor<;>simp[go_sem]
theorem q50 {v:Value} (hx:T[23]?=some v):Yl T ds (o74 5 0) w (.value v) w #[]:=by
 have e:=zM (ds:=ds) hx
 unfold Yl execOp
 simp only[p50.1,e]
 constructor<;>simp[go_sem]
theorem q51:Yl T ds (o74 5 1) w (.value (ptr w.heap.size)) (w.alloc (.cells #[.int .i64 0] 3)) #[]:=by
 unfold Yl execOp
 simp only[p51.1]
 constructor<;>simp[go_sem,ptr]
theorem q52 {b:Nat} {k:Int} {u:Value} (hx:T[9]?=some (ptr b)) (hy:T[25]?=some (.int .i64 k)) (hc:w.cell? ⟨b,0,none⟩=some u) (hf:w.frozen? ⟨b,0,none⟩=false) :
  Yl T ds (o74 5 2) w .skip (w.setCell ⟨b,0,none⟩ (.int .i64 k)) #[⟨.cell ⟨b,0,none⟩,true,false⟩]:=by
 have e1:=zM (ds:=ds) hx
 have e2:=zM (ds:=ds) hy
 unfold Yl execOp
 simp only[p52.1,e1,e2,ptr]
 constructor
 ·simp[go_sem,stored,hc,hf]
 ·simp[go_sem,storedEv,hc,hf]
theorem q70 {h:Held} (h0:T[8]?=some (ptr h.wg)) (h1:T[2]?=some (ptr h.k)) (h2:T[3]?=some (ptr h.menu)) (h3:T[9]?=some (ptr h.good)) (h4:T[7]?=some (ptr h.plans)) :
  Yl T ds (o74 7 0) w (.value (.func (.func 105) #[] h.vals)) w #[]:=by
 unfold Yl execOp
 simp only[p70.1]
 constructor
 ·simp[go_sem,h0,h1,h2,h3,h4,Held.vals]
  rfl
 ·simp[go_sem,h0,h1,h2,h3,h4]
  rfl
theorem q71 {h:Held} (hx:T[27]?=some (.func (.func 105) #[] h.vals)):Yl T ds (o74 7 1) w (.spawn h.call) w #[]:=by
 have e:=zM (ds:=ds) hx
 unfold Yl execOp
 simp only[p71.1]
 constructor<;>simp[go_sem,hx,Held.call]
theorem q80 {i:Nat} (hi:i≤16) (hx:T[23]?=some (.int .i64 i)):Yl T ds (o74 8 0) w (.value (.int .i64 ((i+1:Nat):Int))) w #[]:=by
 have e1:=zM (ds:=ds) hx
 have wl:IntKind.i64.wrap ((i:Int)+1)=(i:Int)+1:=by rw[IntKind.wrap_i64];omega
 unfold Yl execOp
 simp only[p80.1,e1]
 constructor<;>simp[go_sem,wl]
theorem q81 {v:Value} (hx:T[28]?=some v):Yl T ds (o74 8 1) w (.value v) w #[]:=by
 have e:=zM (ds:=ds) hx
 unfold Yl execOp
 simp only[p81.1,e]
 constructor<;>simp[go_sem]
theorem q00' {N:Nat} (hN:w.heap.size=N) {a b c:Value} (hx:T[0]?=some (.agg #[a,b,c])):Yl T ds (o74 0 0) w (.value (ptr N)) (w.alloc (.cells #[a,b,c] 29)) #[]:=by subst hN;exact q00 hx
theorem q01' {N:Nat} (hN:w.heap.size=N) {s:Option Addr} {l m:Nat} (hx:T[1]?=some (.slice s l m)):Yl T ds (o74 0 1) w (.value (ptr N)) (w.alloc (.cells #[.slice s l m] 22)) #[]:=by subst hN;exact q01 hx
theorem q14' {N:Nat} (hN:w.heap.size=N):Yl T ds (o74 1 4) w (.value (ptr N)) (w.alloc (.cells #[.slice none 0 0] 129)) #[]:=by subst hN;exact q14
theorem q20' {N:Nat} (hN:w.heap.size=N):Yl T ds (o74 2 0) w (.value (ptr N)) (w.alloc (Go.ConcR.wgBlock 138 0 0)) #[]:=by subst hN;exact q20
end
end
section
open Go.ConcR (KK WgAt stA smA rd wr mk DC0 Payload)
def b74 (kd:CallKind):Frame:={ (default:Frame) with fn:=74,kind:=kd }
section
variable {T:Array Value} {ds:List Deferred} {k:List Item} {cs:List Frame} {w w':World} {r i:Nat} {l:List Nat} {main:Bool} {kd:CallKind} {es:Array Event}
theorem yw {o:Oper} {ys:Nat→Option Bool} (h:o.guard=none):Region.wanted o ys=true:=by unfold Region.wanted;rw[h]
theorem qT (hk:kd≠.early) (hi:i<(R74 r).size) {d:Tmp} {v:Value} (hd:(o74 r i).dst=some d) (hg:(o74 r i).guard=none) (hy:Yl T ds (o74 r i) w (.value v) w' es) (hn:∀ e∈es,∀ f,e.loc≠.mark (.extern f)) :
  stepG Try.prog main (G ((b74 kd).at ⟨T,ds⟩ (.inRegion (R74 r) (i::l)::k)) cs) w=.go (G ((b74 kd).at ⟨T.setIfInBounds d v,ds⟩ (.inRegion (R74 r) l::k)) cs) w' es:=by
 rw[stepG_value (get74 hi) (yw hg) hk hy.1]
 unfold listed
 rw[hy.2,show seen Try.prog (b74 kd).fn es=es from seen_eq loud74 hn,hd]
 rfl
theorem zeh (hk:kd≠.early) (hi:i<(R74 r).size) (hd:(o74 r i).dst=none) (hg:(o74 r i).guard=none) (hy:Yl T ds (o74 r i) w .skip w' es) (hn:∀ e∈es,∀ f,e.loc≠.mark (.extern f)) :
  stepG Try.prog main (G ((b74 kd).at ⟨T,ds⟩ (.inRegion (R74 r) (i::l)::k)) cs) w=.go (G ((b74 kd).at ⟨T,ds⟩ (.inRegion (R74 r) l::k)) cs) w' es:=by
 rw[stepG_none (get74 hi) (yw hg) hk hy.1]
 unfold listed
 rw[hy.2,show seen Try.prog (b74 kd).fn es=es from seen_eq loud74 hn,hd]
 rfl
end
section
variable {Sb:Nat→Prop} {N0:Nat} {Stop:Goroutine→World→Prop} {n:Nat} {g g':Goroutine} {w w':World} {es:Array Event}
theorem DA.at (h:DA Sb N0 w w' es) (d d':Nat):DA Sb N0 (w.at d) (w'.at d') es:=⟨h.size,⟨h.calm.os,h.calm.output,h.calm.tape⟩,h.blk,h.evs⟩
theorem jh:DA Sb N0 w w #[]:=⟨Nat.le_refl _,.refl w,fun _ _=>rfl,fun e he=>by simp at he⟩
theorem QF (hN:N0≤w.heap.size) (o:Obj):DA Sb N0 w (w.alloc o) #[]:=by
 refine⟨by show w.heap.size≤(w.heap.push o).size;simp,⟨rfl,rfl,rfl⟩,fun b hb=>?_,fun e he=>by simp at he⟩
 show (w.heap.push o)[b]?=_
 rw[Array.getElem?_push_lt (by omega),Array.getElem?_eq_getElem (by omega)]
theorem da_read {b o:Nat} (hb:¬ Sb b) (hlt:b<w.heap.size):DA Sb N0 w w #[⟨.cell ⟨b,o,none⟩,false,false⟩]:=by
 refine⟨Nat.le_refl _,.refl w,fun _ _=>rfl,fun e he=>?_⟩
 simp only[List.mem_toArray,List.mem_cons,List.not_mem_nil,or_false] at he
 subst he
 refine⟨fun x hx=>⟨b,?_,hb⟩,⟨by simp,by simp⟩,by simp,hlt⟩
 simp[MemAct.ofEvent,MemAct.touch?] at hx;subst hx;rfl
theorem da_set {b o:Nat} {v:Value} (hb:¬ Sb b) (hlt:b<w.heap.size) (hN:N0≤b):DA Sb N0 w (w.setCell ⟨b,o,none⟩ v) #[⟨.cell ⟨b,o,none⟩,true,false⟩]:=by
 have ha:=aside_setCell w ⟨b,o,none⟩ v
 refine⟨by rw[ha.size];exact Nat.le_refl _,⟨ha.os,ha.output,ha.tape⟩,fun c hc=>ha.block c (by show c≠b;omega),fun e he=>?_⟩
 simp only[List.mem_toArray,List.mem_cons,List.not_mem_nil,or_false] at he
 subst he
 refine⟨fun x hx=>⟨b,?_,hb⟩,⟨by simp,by simp⟩,by simp,by rw[ha.size];exact hlt⟩
 simp[MemAct.ofEvent,MemAct.touch?] at hx;subst hx;rfl
theorem at_trans (a b c:World) (h:AtRel a b) (k:AtRel b c):AtRel a c:=by
 obtain⟨d,rfl⟩:=h
 obtain⟨e,rfl⟩:=k
 exact⟨e,rfl⟩
theorem astep (hs:g.status=.running) (hst:∀ d,∃ d',stepG Try.prog true g (w.at d)=.go g' (w'.at d') es) (hd:DA Sb N0 w w' es) (hn:Goes Try.prog true AtRel (DA Sb N0) Stop n g' w'):Goes Try.prog true AtRel (DA Sb N0) Stop (n+1) g w:=by
 refine Goes.step hs fun w1 h1=>?_
 obtain⟨d,rfl⟩:=h1
 obtain⟨d',e⟩:=hst d
 rw[e,goes_go]
 exact⟨DA.at hd d d',Goes.rely at_trans hn ⟨d',rfl⟩⟩
theorem size_alloc (w:World) (o:Obj):(w.alloc o).heap.size=w.heap.size+1:=by show (w.heap.push o).size=_;simp
theorem heap_alloc (w:World) (o:Obj):(w.alloc o).heap=w.heap.push o:=rfl
theorem zeg (w:World) (d:Nat):(w.at d).heap=w.heap:=rfl
theorem QM (w:World) (a:Addr) (v:Value):(w.setCell a v).heap.size=w.heap.size:=(aside_setCell w a v).size
end
section
variable {Sb:Nat→Prop} {N0:Nat} {w:World} {kd:CallKind} {cs:List Frame} {s s':Option Addr} {n m l' m':Nat} {a b c:Value} {T:Array Value}
theorem jT {w:World} {o:Obj} {N:Nat} (h:w.heap.size=N):(w.alloc o).heap[N]?=some o:=by subst h;show (w.heap.push o)[_]?=_;simp
theorem qf {w:World} {o:Obj} {b:Nat} {x:Option Obj} (hb:b<w.heap.size) (h:w.heap[b]?=x):(w.alloc o).heap[b]?=x:=by
 rw[← h]
 show (w.heap.push o)[b]?=_
 rw[Array.getElem?_push_lt (by omega),Array.getElem?_eq_getElem (by omega)]
theorem zdt {w:World} {b o:Nat} {cs:Array Value} {t:TypeId} {m:Nat×Nat} (h:w.heap[b]?=some (.cells cs t m)) (d:Nat):(w.at d).cell? ⟨b,o,none⟩=cs[o]?:=by
 simp[World.cell?,zeg,h]
theorem froz_row {w:World} {b o:Nat} {cs:Array Value} {t:TypeId} (h:w.heap[b]?=some (.cells cs t)) (d:Nat):(w.at d).frozen? ⟨b,o,none⟩=false:=by
 simp[World.frozen?,zeg,h]
structure Tm (T:Array Value) (N:Nat) (U:Nat×(Nat→Value)):Prop where
 big : 68≤U.1
 size:T.size=U.1
 s2:T[2]?=some (ptr N)
 s3:T[3]?=some (ptr (N+1))
 s4:T[4]?=some (.slice none 0 0)
 s5:T[5]?=some (.int .i64 0)
 s6:T[6]?=some (.bool false)
 s7:T[7]?=some (ptr (N+3))
 s8:T[8]?=some (ptr (N+4))
 u:∀ j,(10≤j∧j≤15)∨30≤j→j<U.1→T[j]?=some (U.2 j)
theorem Tm.set {N d:Nat} {U:Nat×(Nat→Value)} (h:Tm T N U) (v:Value) (hd:d=9∨(16≤d∧d≤29)):Tm (T.setIfInBounds d v) N U:=by
 refine⟨h.big,by simp[h.size],?_,?_,?_,?_,?_,?_,?_,fun j h1 h2=>?_⟩
 all_goals rw[Array.getElem?_setIfInBounds_ne (by omega)]
 ·exact h.s2
 ·exact h.s3
 ·exact h.s4
 ·exact h.s5
 ·exact h.s6
 ·exact h.s7
 ·exact h.s8
 ·exact h.u j h1 h2
def made74 (w:World) (kv:Array Value) (mv:Value) (n:Nat):World:=
 (((((w.alloc (.cells kv 29)).alloc (.cells #[mv] 22)).alloc (.cells (rowC n) 141)).alloc (.cells #[.slice none 0 0] 129)).setCell ⟨w.heap.size+3,0,none⟩ (.slice (some ⟨w.heap.size+2,0,none⟩) n n)).alloc (Go.ConcR.wgBlock 138 0 0)
noncomputable abbrev rest74:Code:=.seq (.seq (.region 3 (R74 3) false) loop74) (.seq (.region 9 (R74 9) false) tail74)
def Behind2 (w:World) (kv:Array Value) (mv:Value) (n:Nat) (U:Nat×(Nat→Value)) (kd:CallKind) (cs:List Frame) (g:Goroutine) (w1:World):Prop:=
 (∃ T,Tm T w.heap.size U∧g=G ((b74 kd).at ⟨T,[]⟩ [.code rest74]) cs)∧∃ d,w1=(made74 w kv mv n).at d
set_option maxRecDepth 4000 in
theorem prefix74 (hk:kd≠.early) (hn:n≤16) (hN:N0≤w.heap.size) (hS:∀ b,Sb b→b<w.heap.size∨b=w.heap.size+4) {U:Nat×(Nat→Value)} (hU : 68≤U.1) (hsz:T.size=U.1) (ha:a=.slice s n m) (t0:T[0]?=some (.agg #[a,b,c])) (t1:T[1]?=some (.slice s' l' m')) (tu:∀ j,(10≤j∧j≤15)∨30≤j→j<U.1→T[j]?=some (U.2 j)) :
  Goes Try.prog true AtRel (DA Sb N0) (Behind2 w #[a,b,c] (.slice s' l' m') n U kd cs) 30 (G ((b74 kd).at ⟨T,[]⟩ [.code body74]) cs) w:=by
 rw[body74_eq]
 have h68 : 68≤T.size:=by omega
 subst ha
 refine astep (w':=w) rfl (fun d=>⟨d,stepG_seq⟩) jh ?_
 refine astep (w':=w) rfl (fun d=>⟨d,stepG_region⟩) jh ?_
 rw[z0,show List.range 5=[0,1,2,3,4] from rfl]
 refine astep (w':=(w.alloc (.cells #[.slice s n m,b,c] 29))) rfl (fun d=>⟨d,qT (v:=ptr w.heap.size) hk (by rw[z0];omega) p00.2.1 p00.2.2 (q00' (w:=w.at d) (N:=w.heap.size) rfl (by first|with_reducible exact t0|with_reducible exact t1|((repeat rw[Array.getElem?_setIfInBounds_ne (by decide)]);first|with_reducible exact t1|with_reducible exact Array.getElem?_setIfInBounds_self_of_lt (by first|omega|(simp only[Array.size_setIfInBounds];omega))))) (by simp)⟩) (QF hN _) ?_
 obtain⟨w1,hw1⟩:∃ x,x=(w.alloc (.cells #[.slice s n m,b,c] 29)):=⟨_,rfl⟩
 rw[← hw1]
 have hs1:w1.heap.size=w.heap.size+1:=by rw[hw1];rw[size_alloc]
 have k1:w1.heap[w.heap.size]?=some (.cells #[.slice s n m,b,c] 29):=by rw[hw1];exact jT rfl
 refine astep (w':=(w1.alloc (.cells #[.slice s' l' m'] 22))) rfl (fun d=>⟨d,qT (v:=ptr (w.heap.size+1)) hk (by rw[z0];omega) p01.2.1 p01.2.2 (q01' (w:=w1.at d) (N:=w.heap.size+1) hs1 (by first|with_reducible exact t0|with_reducible exact t1|((repeat rw[Array.getElem?_setIfInBounds_ne (by decide)]);first|with_reducible exact t1|with_reducible exact Array.getElem?_setIfInBounds_self_of_lt (by first|omega|(simp only[Array.size_setIfInBounds];omega))))) (by simp)⟩) (QF (by omega) _) ?_
 obtain⟨w2,hw2⟩:∃ x,x=(w1.alloc (.cells #[.slice s' l' m'] 22)):=⟨_,rfl⟩
 rw[← hw2]
 have hs2:w2.heap.size=w.heap.size+2:=by rw[hw2];rw[size_alloc,hs1]
 have k2:w2.heap[w.heap.size]?=some (.cells #[.slice s n m,b,c] 29):=by rw[hw2];exact qf (by omega) k1
 refine astep (w':=w2) rfl (fun d=>⟨d,qT hk (by rw[z0];omega) p02.2.1 p02.2.2 (q02) (by simp)⟩) jh ?_
 refine astep (w':=w2) rfl (fun d=>⟨d,qT hk (by rw[z0];omega) p03.2.1 p03.2.2 (q03) (by simp)⟩) jh ?_
 refine astep (w':=w2) rfl (fun d=>⟨d,qT hk (by rw[z0];omega) p04.2.1 p04.2.2 (q04) (by simp)⟩) jh ?_
 refine astep (w':=w2) rfl (fun d=>⟨d,stepG_region_end⟩) jh ?_
 refine astep (w':=w2) rfl (fun d=>⟨d,stepG_seq⟩) jh ?_
 refine astep (w':=w2) rfl (fun d=>⟨d,stepG_region⟩) jh ?_
 rw[z1,show List.range 6=[0,1,2,3,4,5] from rfl]
 refine astep (w':=w2) rfl (fun d=>⟨d,qT hk (by rw[z1];omega) p10.2.1 p10.2.2 (q10 (b:=w.heap.size) (by first|with_reducible exact t0|with_reducible exact t1|((repeat rw[Array.getElem?_setIfInBounds_ne (by decide)]);first|with_reducible exact t1|with_reducible exact Array.getElem?_setIfInBounds_self_of_lt (by first|omega|(simp only[Array.size_setIfInBounds];omega))))) (by simp)⟩) jh ?_
 refine astep (w':=w2) rfl (fun d=>⟨d,qT hk (by rw[z1];omega) p11.2.1 p11.2.2 (q11 (b:=w.heap.size) (v:=.slice s n m) (by first|with_reducible exact t0|with_reducible exact t1|((repeat rw[Array.getElem?_setIfInBounds_ne (by decide)]);first|with_reducible exact t1|with_reducible exact Array.getElem?_setIfInBounds_self_of_lt (by first|omega|(simp only[Array.size_setIfInBounds];omega)))) (zdt k2 d)) (by simp)⟩) (da_read (fun h=>by have:=hS _ h;omega) (by omega)) ?_
 refine astep (w':=w2) rfl (fun d=>⟨d,qT hk (by rw[z1];omega) p12.2.1 p12.2.2 (q12 (by first|with_reducible exact t0|with_reducible exact t1|((repeat rw[Array.getElem?_setIfInBounds_ne (by decide)]);first|with_reducible exact t1|with_reducible exact Array.getElem?_setIfInBounds_self_of_lt (by first|omega|(simp only[Array.size_setIfInBounds];omega))))) (by simp)⟩) jh ?_
 refine astep (w':=(w2.alloc (.cells (rowC n) 141))) rfl (fun d=>⟨d,qT hk (by rw[z1];omega) p13.2.1 p13.2.2 (q13 (w:=w2.at d) (N:=w.heap.size+2) hs2 hn (by first|with_reducible exact t0|with_reducible exact t1|((repeat rw[Array.getElem?_setIfInBounds_ne (by decide)]);first|with_reducible exact t1|with_reducible exact Array.getElem?_setIfInBounds_self_of_lt (by first|omega|(simp only[Array.size_setIfInBounds];omega))))) (by simp)⟩) (QF (by omega) _) ?_
 obtain⟨w3,hw3⟩:∃ x,x=(w2.alloc (.cells (rowC n) 141)):=⟨_,rfl⟩
 rw[← hw3]
 have hs3:w3.heap.size=w.heap.size+3:=by rw[hw3];rw[size_alloc,hs2]
 refine astep (w':=(w3.alloc (.cells #[.slice none 0 0] 129))) rfl (fun d=>⟨d,qT (v:=ptr (w.heap.size+3)) hk (by rw[z1];omega) p14.2.1 p14.2.2 (q14' (w:=w3.at d) (N:=w.heap.size+3) hs3) (by simp)⟩) (QF (by omega) _) ?_
 obtain⟨w4,hw4⟩:∃ x,x=(w3.alloc (.cells #[.slice none 0 0] 129)):=⟨_,rfl⟩
 rw[← hw4]
 have hs4:w4.heap.size=w.heap.size+4:=by rw[hw4];rw[size_alloc,hs3]
 have k4:w4.heap[w.heap.size+3]?=some (.cells #[.slice none 0 0] 129):=by rw[hw4];exact jT hs3
 refine astep (w':=(w4.setCell ⟨w.heap.size+3,0,none⟩ (.slice (some ⟨w.heap.size+2,0,none⟩) n n))) rfl (fun d=>⟨d,zeh hk (by rw[z1];omega) p15.2.1 p15.2.2 (q15 (w:=w4.at d) (b:=w.heap.size+3) (u:=.slice none 0 0) (by first|with_reducible exact t0|with_reducible exact t1|((repeat rw[Array.getElem?_setIfInBounds_ne (by decide)]);first|with_reducible exact t1|with_reducible exact Array.getElem?_setIfInBounds_self_of_lt (by first|omega|(simp only[Array.size_setIfInBounds];omega)))) (by first|with_reducible exact t0|with_reducible exact t1|((repeat rw[Array.getElem?_setIfInBounds_ne (by decide)]);first|with_reducible exact t1|with_reducible exact Array.getElem?_setIfInBounds_self_of_lt (by first|omega|(simp only[Array.size_setIfInBounds];omega)))) (zdt k4 d) (froz_row k4 d)) (by simp)⟩) (da_set (fun h=>by have:=hS _ h;omega) (by omega) (by omega)) ?_
 obtain⟨w5,hw5⟩:∃ x,x=(w4.setCell ⟨w.heap.size+3,0,none⟩ (.slice (some ⟨w.heap.size+2,0,none⟩) n n)):=⟨_,rfl⟩
 rw[← hw5]
 have hs5:w5.heap.size=w.heap.size+4:=by rw[hw5,QM,hs4]
 refine astep (w':=w5) rfl (fun d=>⟨d,stepG_region_end⟩) jh ?_
 refine astep (w':=w5) rfl (fun d=>⟨d,stepG_seq⟩) jh ?_
 refine astep (w':=w5) rfl (fun d=>⟨d,stepG_region⟩) jh ?_
 rw[z2,show List.range 1=[0] from rfl]
 refine astep (w':=(w5.alloc (Go.ConcR.wgBlock 138 0 0))) rfl (fun d=>⟨d,qT (v:=ptr (w.heap.size+4)) hk (by rw[z2];omega) p20.2.1 p20.2.2 (q20' (w:=w5.at d) (N:=w.heap.size+4) hs5) (by simp)⟩) (QF (by omega) _) ?_
 refine astep (w':=(w5.alloc (Go.ConcR.wgBlock 138 0 0))) rfl (fun d=>⟨d,stepG_region_end⟩) jh ?_
 have hm:w5.alloc (Go.ConcR.wgBlock 138 0 0)=made74 w #[.slice s n m,b,c] (.slice s' l' m') n:=by rw[hw5,hw4,hw3,hw2,hw1];rfl
 rw[hm]
 refine Goes.stop fun w1 h1=>⟨⟨_,?_,rfl⟩,h1⟩
 have hlt:∀ j,j<68→j<T.size:=fun j hj=>by omega
 refine⟨hU,by simp[hsz],?_,?_,?_,?_,?_,?_,?_,?_⟩
 all_goals first|(simp[Array.getElem?_setIfInBounds,hlt];done)|skip
 intro j h1 h2
 have hu:=tu j h1 h2
 repeat rw[Array.getElem?_setIfInBounds_ne (by omega)]
 exact hu
end
end
section
open Go.ConcR (KK WgAt stA smA rd wr mk DC0 Payload wgBlock)
structure MF (J:Job) (N:Nat) (V:Nat→Prop) (w:World):Prop where
 c:J.C=N+2
 n:J.n≤16
 vC:¬ V (N+2)
 vW:¬ V (N+4)
 lt:∀ b,V b→b<w.heap.size
 sz:N+5≤w.heap.size
 nV:∀ b,J.N b→V b
 nN:∀ b,J.N b→b<N
 v0:V N
 v1:V (N+1)
 v3:V (N+3)
 k:w.heap[N]?=some (.cells #[J.a,J.b,J.c] 29)
 m:w.heap[N+1]?=some (.cells #[J.mv] 22)
 p:w.heap[N+3]?=some (.cells #[.slice (some ⟨J.C,0,none⟩) J.n J.n] 129)
 row:RowC J w
 live:WgLive link.tWg (N+4) w
 seen:∀ b,J.N b→Seen w b
 glob:Sw.globals.size≤w.heap.size
 good:∀ i,i<J.n→∀ w1:World,(∀ b,J.N b→w1.heap[b]?=w.heap[b]?)→w.heap.size≤w1.heap.size→w1.os=w.os→Good Sw (Done Sw 107 (J.Rl i)) ⟨Frame.enter Sw 107 #[.agg #[J.a,J.b,J.c],J.mv,.int .i64 i] .normal,[door Sw],maskN J.N w1⟩
section
variable {J:Job} {N i:Nat} {V M V':Nat→Prop} {w w1:World} {es:Array Event}
abbrev RmJ (J:Job) (N:Nat) (V:Nat→Prop):World→World→Prop:=RM link.tWg (N+4) J.C V
theorem MF.rely (k:MF J N V w) (r:RmJ J N V w w1):MF J N V w1:=
 ⟨k.c,k.n,k.vC,k.vW,fun b hb=>Nat.lt_of_lt_of_le (k.lt b hb) r.size,Nat.le_trans k.sz r.size,k.nV,k.nN,k.v0,k.v1,k.v3,(r.blk _ k.v0).trans k.k,(r.blk _ k.v1).trans k.m,(r.blk _ k.v3).trans k.p,k.row.rely r,r.live k.live,
  fun b hb=>Zj (k.seen b hb) (r.blk b (k.nV b hb)),Nat.le_trans k.glob r.size,fun i hi v h1 h2 h3=>k.good i hi v (fun b hb=>(h1 b hb).trans (r.blk b (k.nV b hb))) (Nat.le_trans r.size h2) (h3.trans r.calm.os)⟩
theorem MF.turn (k:MF J N V w) (x:Nat) (hx:N+5≤x) (hb:∀ b,b<w.heap.size→b≠x→w1.heap[b]?=w.heap[b]?) (hs:w.heap.size≤w1.heap.size) (ho:w1.os=w.os) (hV:∀ b,V b→V' b) (hl:∀ b,V' b→b<w1.heap.size) (hC:¬ V' (N+2)) (hW:¬ V' (N+4)):MF J N V' w1:=by
 have old:∀ b,b<N+5→w1.heap[b]?=w.heap[b]?:=fun b h=>hb b (by have:=k.sz;omega) (by omega)
 refine⟨k.c,k.n,hC,hW,hl,Nat.le_trans k.sz hs,fun b h=>hV b (k.nV b h),k.nN,hV _ k.v0,hV _ k.v1,hV _ k.v3,(old _ (by omega)).trans k.k,(old _ (by omega)).trans k.m,(old _ (by omega)).trans k.p,?_,?_,fun b h=>Zj (k.seen b h) (old b (by have:=k.nN b h;omega)),Nat.le_trans k.glob hs,
  fun i hi v h1 h2 h3=>k.good i hi v (fun b h=>(h1 b h).trans (old b (by have:=k.nN b h;omega))) (Nat.le_trans hs h2) (h3.trans ho)⟩
 ·obtain⟨cs,h1,h2⟩:=k.row
  exact⟨cs,(old _ (by rw[k.c];omega)).trans h1,h2⟩
 ·obtain⟨st,sm,h⟩:=k.live
  exact⟨st,sm,h.of_block (old _ (by omega))⟩
theorem MF.alloc (k:MF J N V w) (o:Obj):MF J N (fun b=>V b∨fresh w (w.alloc o) b) (w.alloc o):=by
 have hsz:=size_alloc w o
 refine k.turn w.heap.size k.sz (fun b hb _=>qf hb rfl) (by omega) rfl (fun _ h=>.inl h) (fun b h=>?_) (fun h=>?_) (fun h=>?_)
 ·rcases h with h|h
  ·have:=k.lt b h;omega
  ·exact h.2
 ·rcases h with h|h
  ·exact k.vC h
  ·have:=h.1;have:=k.sz;omega
 ·rcases h with h|h
  ·exact k.vW h
  ·have:=h.1;have:=k.sz;omega
theorem MF.set (k:MF J N V w) {b o:Nat} (hb:N+5≤b) (v:Value):MF J N V (w.setCell ⟨b,o,none⟩ v):=by
 have ha:=aside_setCell w ⟨b,o,none⟩ v
 exact k.turn b hb (fun c _ hc=>ha.block c hc) (by rw[ha.size];exact Nat.le_refl _) ha.os (fun _ h=>h) (fun c hc=>by rw[ha.size];exact k.lt c hc) k.vC k.vW
theorem MF.known (k:MF J N V w) (hi:i<J.n) {g:Nat} (hg:V g) (hc:w.heap[g]?=some (.cells #[.int .i64 i] 3)):Known J ⟨N+4,N,N+1,g,N+3⟩ i V w:=by
 have cell:∀ {b o:Nat} {cs:Array Value} {t:TypeId} {m:Nat×Nat},w.heap[b]?=some (.cells cs t m)→w.cell? ⟨b,o,none⟩=cs[o]?:=fun h=>by simp[World.cell?,h]
 exact⟨hi,k.c▸k.vC,k.nV,k.v0,k.v1,hg,k.v3,cell k.k,cell k.k,cell k.k,cell k.m,cell hc,cell k.p,k.seen,k.glob,k.good i hi⟩
theorem MF.born (k:MF J N V w) (ok:JobOk J) (hcw:J.C≠N+4) (hi:i<J.n) {g:Nat} (hg:V g) (hc:w.heap[g]?=some (.cells #[.int .i64 i] 3)) :
  BornW (worker J (N+4) ok hcw) i V (born Try.prog (Held.call ⟨N+4,N,N+1,g,N+3⟩)) w:=by
 intro hl _
 exact⟨(60+5,none),Sit.pre (h:=⟨N+4,N,N+1,g,N+3⟩) rfl (k.known hi hg hc) k.row ⟨fun h=>h,k.lt,fun _ _ h=>h⟩ (to_region (h:=⟨N+4,N,N+1,g,N+3⟩) (fun x y=>y.live x) w hl)⟩
end
section
variable {R:World→World→Prop} {F:World→Prop} {Stop:Goroutine→World→Prop} {n:Nat} {g g':Goroutine}
theorem pstep {D:World→World→Array Event→Prop} (hD:∀ w,D w w #[]) (rl:∀ w w1,R w w1→F w→F w1) (hs:g.status=.running) (hst:∀ w,F w→stepG Try.prog true g w=.go g' w #[]) (hn:∀ w,F w→Goes Try.prog true R D Stop n g' w):∀ w,F w→Goes Try.prog true R D Stop (n+1) g w:=by
 intro w hF
 refine Goes.step hs fun w1 h1=>?_
 have hF1:=rl w w1 h1 hF
 rw[hst w1 hF1,goes_go]
 exact⟨hD w1,hn w1 hF1⟩
variable {ty:TypeId} {Wg C:Nat}
theorem zcU {St:(V M:Nat→Prop)→Goroutine→World→Prop} {V M:Nat→Prop} {g:Goroutine} {w:World} {m:Nat} (h:Goes Try.prog true (RM ty Wg C V) DC0 (St V M) m g w):Run Try.prog ty Wg C St m V M g w:=by
 induction m generalizing g w with
 | zero=>exact h
 | succ m ih =>
  rcases h with h|⟨hr,h⟩
  ·exact .inl h
  ·refine .inr ⟨hr,fun w1 r=>?_⟩
   have:=h w1 r
   cases e:stepG Try.prog true g w1 with
   | go g' w' es =>
    rw[e] at this
    obtain⟨⟨rfl,rfl⟩,h2⟩:=this
    refine⟨g',w',#[],rfl,.none,?_⟩
    rw[jF,jF]
    exact ih h2
   | _=>rw[e] at this;exact this.elim
end
end
section
open Go.ConcR (KK WgAt stA smA rd wr mk DC0 Payload wgBlock)
structure Lp (T:Array Value) (N n i:Nat) (U:Nat×(Nat→Value)):Prop where
 tm:Tm T N U
 s22:T[22]?=some (.int .i64 n)
 s23:T[23]?=some (.int .i64 i)
theorem Lp.set {T:Array Value} {N n i d:Nat} {U:Nat×(Nat→Value)} (h:Lp T N n i U) (v:Value) (hd:d=9∨(16≤d∧d≤21)∨(24≤d∧d≤29)):Lp (T.setIfInBounds d v) N n i U:=
 ⟨h.tm.set v (by omega),by rw[Array.getElem?_setIfInBounds_ne (by omega)];exact h.s22,by rw[Array.getElem?_setIfInBounds_ne (by omega)];exact h.s23⟩
theorem Tm.get {T:Array Value} {N d:Nat} {U:Nat×(Nat→Value)} (h:Tm T N U) (hd:d<68) (v:Value):(T.setIfInBounds d v)[d]?=some v:=Array.getElem?_setIfInBounds_self_of_lt (by rw[h.size];exact Nat.lt_of_lt_of_le hd h.big)
noncomputable def end74:List Item:=[.code (.seq (.region 9 (R74 9) false) tail74)]
noncomputable def on74:List Item:=.inLoop round74::.inBlock 0::end74
noncomputable def go74:List Item:=.inBlock 1::.code (.region 8 (R74 8) false)::on74
section
variable (J:Job) (N:Nat) (kd:CallKind) (cs:List Frame) (ok:JobOk J) (hcw:J.C≠N+4)
abbrev gAt (T:Array Value) (k:List Item):Goroutine:=G ((b74 kd).at ⟨T,[]⟩ k) cs
def Anch (V:Nat→Prop) (g:Goroutine) (w:World):Prop:=
 ∃ T Tw,Tm T N J.U∧Tw.size=84∧Tw[0]?=some (.pointer (some ⟨N+4,0,none⟩))∧MF J N V w ∧
  g=G ((base link.wait).at ⟨Tw,[]⟩ [.code (L7 link),.inLoop (L7 link),.inBlock 0]) ((b74 kd).at ⟨T,[]⟩ (.inRegion (R74 9) [0]::[.code tail74])::cs)
def Out (V:Nat→Prop) (g:Goroutine) (w:World):Prop:=∃ T,Tm T N J.U∧g=gAt kd cs T [.code tail74]∧MF J N V w
abbrev BornJ:Nat→(V:Nat→Prop)→Goroutine→World→Prop:=BornW (worker J (N+4) ok hcw)
abbrev Zs:Nat→(V M:Nat→Prop)→Goroutine→World→Prop:=YE Try.prog link.tWg (N+4) J.C J.n (BornJ J N ok hcw) (Fin Try.prog link.tWg (N+4) J.C (Anch J N kd cs))
def RunR (m:Nat):Nat→(V M:Nat→Prop)→Goroutine→World→Prop
 | 0=>Run Try.prog link.tWg (N+4) J.C (AtWd Try.prog link.tWg (N+4) J.C (Anch J N kd cs)) m
 | r+1=>Run Try.prog link.tWg (N+4) J.C (AtKd Try.prog link.tWg (N+4) J.C (BornJ J N ok hcw) (J.n-(r+1)) (Zs J N kd cs ok hcw r)) m
end
section
variable {J:Job} {N:Nat} {kd:CallKind} {cs:List Frame} {ok:JobOk J} {hcw:J.C≠N+4} {V M:Nat→Prop} {w:World} {g:Goroutine} {m r:Nat}
theorem RunR.spawns (h:RunR J N kd cs ok hcw m r V M g w):Zs J N kd cs ok hcw r V M g w:=by
 cases r with
 | zero=>exact⟨m,h⟩
 | succ r=>exact⟨m,h⟩
theorem zcw {k:Nat} (h:Goes Try.prog true (RmJ J N V) DC0 (fun g w=>RunR J N kd cs ok hcw k r V M g w) m g w):RunR J N kd cs ok hcw (k+m) r V M g w:=by
 cases r with
 | zero=>exact zcu h
 | succ r=>exact zcu h
theorem dc0 (w:World):DC0 w w #[]:=⟨rfl,rfl⟩
theorem dm0 {Wg:Nat} (w:World):DM Wg w w #[]:=⟨rfl,fun e he=>by simp at he⟩
theorem mf_rl (w w1:World) (r:RmJ J N V w w1) (h:MF J N V w):MF J N V w1:=h.rely r
theorem eval_at {T:Array Value} {x:Tmp} {v:Value} (h:T[x]?=some v):Act.eval ⟨T,[]⟩ (.tmp x)=v:=zM h
theorem enter_add (hk:kd≠.early) {T:Array Value} {k:List Item} (h8:T[8]?=some (ptr (N+4))) (w:World) :
  stepG Try.prog true (gAt kd cs T (.inRegion (R74 6) [0]::k)) w=.go (G ((base link.add).at ⟨#[.pointer (some ⟨N+4,0,none⟩),.int .i64 1]++Array.replicate ((addFn link).ntmps-2) undef,[]⟩ [.code (body_add link)]) ((b74 kd).at ⟨T,[]⟩ (.inRegion (R74 6) [0]::k)::cs)) w #[]:=by
 have hn:((addFn link).name == "runtime.NumGoroutine")=false:=nm_add link
 have hr:=run_call_body (P:=Try.prog) (a:=⟨T,[]⟩) (w:=w) p60.1 wgLib.f_add hn rfl
 have ha:(#[.tmp 8,.const (.int .i64 1)]:Array Operand).map (Act.eval ⟨T,[]⟩)=#[ptr (N+4),.int .i64 1]:=by
  simp only[List.map_toArray,List.map_cons,List.map_nil,eval_at h8]
  rfl
 have he:listed Try.prog (b74 kd).fn ⟨T,[]⟩ (o74 6 0) w=#[]:=by
  unfold listed
  rw[events_call_body p60.1 wgLib.f_add hn rfl]
  exact seen_none _ _
 rw[ha] at hr
 unfold gAt
 rw[stepG_enter (get74 (by rw[z6];omega)) (yw p60.2.2) hk hr,he,enter_at _ wgLib.f_add rfl]
 rfl
theorem enter_wait (hk:kd≠.early) {T:Array Value} {k:List Item} (h8:T[8]?=some (ptr (N+4))) (w:World) :
  stepG Try.prog true (gAt kd cs T (.inRegion (R74 9) [0]::k)) w=.go (G ((base link.wait).at ⟨#[.pointer (some ⟨N+4,0,none⟩)]++Array.replicate ((waitFn link).ntmps-1) undef,[]⟩ [.code (body_wait link)]) ((b74 kd).at ⟨T,[]⟩ (.inRegion (R74 9) [0]::k)::cs)) w #[]:=by
 have hn:((waitFn link).name == "runtime.NumGoroutine")=false:=nm_wait link
 have hr:=run_call_body (P:=Try.prog) (a:=⟨T,[]⟩) (w:=w) p90.1 wgLib.f_wait hn rfl
 have ha:(#[.tmp 8]:Array Operand).map (Act.eval ⟨T,[]⟩)=#[ptr (N+4)]:=by
  simp only[List.map_toArray,List.map_cons,List.map_nil,eval_at h8]
 have he:listed Try.prog (b74 kd).fn ⟨T,[]⟩ (o74 9 0) w=#[]:=by
  unfold listed
  rw[events_call_body p90.1 wgLib.f_wait hn rfl]
  exact seen_none _ _
 rw[ha] at hr
 unfold gAt
 rw[stepG_enter (get74 (by rw[z9];omega)) (yw p90.2.2) hk hr,he,enter_at _ wgLib.f_wait rfl]
 rfl
set_option maxRecDepth 100000 in
theorem into_wait (hk:kd≠.early) {T:Array Value} (hT:Tm T N J.U):∀ w,MF J N V w→Goes Try.prog true (RmJ J N V) DC0 (AtWd Try.prog link.tWg (N+4) J.C (Anch J N kd cs) V M) 6 (gAt kd cs T end74) w:=by
 refine pstep dc0 mf_rl rfl (fun w _=>stepG_seq) ?_
 refine pstep dc0 mf_rl rfl (fun w _=>stepG_region) ?_
 rw[z9,show List.range 1=[0] from rfl]
 refine pstep dc0 mf_rl rfl (fun w _=>enter_wait hk hT.s8 w) ?_
 intro w hF
 have hA:=@waitStart link (N+4) J.C V (MF J N V) (Anch J N kd cs) (b74 kd) ⟨T,[]⟩ (R74 9) 0 [] [.code tail74] cs Try.prog wgLib (fun _ _ r h=>h.rely r) (fun Tw w h1 h2 h3 _=>⟨T,Tw,hT,h1,h2,h3,rfl⟩) w ⟨hF,hF.live⟩
 walk_nrmf waitFn
 exact hA
end
end
end Go.Gal
