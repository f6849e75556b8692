/- Walks: what melts. The map of plans that are known: its keys are pairs of integers, its elements plans. What 'from' (the closure of 'cheapest') keeps: its boxes, the map of plans that .. -/
import Derived.Test.YtlgiofglcgbjgaaM23
import Derived.ChangeKeysEq
namespace Go.Gal
open Go Go.Par Go.Proofs Go.RowKit
section
section
variable {fs:Array Func} [Like fs]
def melted (hours melts n:Nat):Nat:=if 0<melts then min n (hours / melts) else 0
def c1:Code→Code|.seq a _=>a|_=>.skip
def c2:Code→Code|.seq _ b=>b|_=>.skip
def ct:Code→Code|.cond _ a _=>a|_=>.skip
set_option maxRecDepth 20000 in
set_option maxHeartbeats 4000000 in
theorem zdc {A:Kit1} {i L h hours melts:Nat} {cs:Array Value} (w:World) (n m:Nat) (hL:w.heap[L]?=some (.cells cs 125 (0,0))) (h0:cs[0]?=some A.gs) (h2:cs[2]?=some A.hs) (hn:cs[3+i]?=some (int n)) (hm:cs[6+i]?=some (int m)) (hi:i<A.ng) (hng:A.ng≤3) (hh:h<A.nh)
  (hr:w.cell? ⟨A.gb,A.go+i*4+2,none⟩=some (int melts)) (hH:w.cell? ⟨A.hb,A.ho+h*3,none⟩=some (int hours)) (hn1:n≤65025) (hm1:m≤1000000) (hh1:hours≤1000000) (z:Int) :
  Calls (Pf fs) 98 #[.pointer (some ⟨L,0,none⟩),int h,int i,.int .i64 z] w fun e w'=>e=.returned (.bool true)∧∃ q,w'=(if 0<melts then (w.setCell ⟨L,3+i,none⟩ (int (n-melted hours melts n))).setCell ⟨L,6+i,none⟩ (int (m+melted hours melts n)) else w).drewN q:=by
 have g1:w.cell? ⟨L,3+i,none⟩=some (int n):=(cell_of_row _ _ (3+i) _ 125 (0,0) hL).trans hn
 have g2:w.cell? ⟨L,6+i,none⟩=some (int m):=(cell_of_row _ _ (6+i) _ 125 (0,0) hL).trans hm
 have g3:w.cell? ⟨L,0,none⟩=some A.gs:=(cell_of_row _ _ 0 _ 125 (0,0) hL).trans h0
 have g4:w.cell? ⟨L,2,none⟩=some A.hs:=(cell_of_row _ _ 2 _ 125 (0,0) hL).trans h2
 have f1:w.frozen? ⟨L,3+i,none⟩=false:=by unfold World.frozen?;rw[hL];rfl
 have f2:w.frozen? ⟨L,6+i,none⟩=false:=by unfold World.frozen?;rw[hL];rfl
 have hi3:(i:Int)<3:=by omega
 by_cases hp : 0<melts
 ·rw[if_pos hp]
  have hX:melted hours melts n=min n (hours / melts):=if_pos hp
  have hp1:((0:Int)<(melts:Int)):=by omega
  have hp2:¬ (melts:Int)=0:=by omega
  generalize melted hours melts n=X at hX ⊢
  obtain⟨y,hy,hwq⟩:∃ y:Nat,y=hours / melts∧wrap64 ((hours:Int) / (melts:Int))=(y:Int):=by
   refine⟨_,rfl,?_⟩
   have:hours / melts≤hours:=Nat.div_le_self _ _
   rw[← Int.natCast_ediv,IntWalk.wrap64_in _ (by omega)]
  rw[← hy] at hX
  clear hy
  clear hL h0 h2 hn hm
  obtain⟨gb,go,ng,cg,hb,ho,nh,ch,mb,mo,nm,cm,db,dof,nd,cd⟩:=A
  simp only[Kit1.gs,Kit1.hs,int] at *
  by_cases hx:n≤y
  ·have hXn:X=n:=by omega
   subst hXn
   have t1:(X:Int)≤y:=Int.ofNat_le.2 hx
   have t2:¬ (y:Int)<X:=Int.not_lt.2 (Int.ofNat_le.2 hx)
   clear hX hx
   go_enter LK.func98,Try.ntmps98
   go_wp2_with fail
   go_quiet (fail)
   go_wp2_with fail
   have hS:(w.drewN nq).drew.cell? ⟨L,3+i,none⟩=some (.int .i64 X)∧(w.drewN nq).drew.cell? ⟨L,6+i,none⟩=some (.int .i64 m):=⟨g1,g2⟩
   refine qh (by kernel_rfl) (fun W=>W.cell? ⟨L,3+i,none⟩=some (.int .i64 X)∧W.cell? ⟨L,6+i,none⟩=some (.int .i64 m)) [23,27] ?_
   refine zh 0 ?_ rfl ?_ ?_;case refine_2=>(intro w _;go_simp;try rfl)
   refine zh 1 ?_ rfl ?_ ?_;case refine_2=>(intro w _;go_simp;try rfl)
   refine zh 2 ?_ rfl ?_ ?_;case refine_2=>(intro w _;go_simp;try rfl)
   refine zh 3 ?_ rfl ?_ ?_;case refine_2=>(intro w _;go_simp;try rfl)
   refine zh 4 ?_ rfl ?_ ?_;case refine_2=>(intro w _;go_simp;try rfl)
   refine zh 5 ?_ rfl ?_ ?_;case refine_2=>(intro w _;go_simp;try rfl)
   refine zh 6 ?_ rfl ?_ ?_;case refine_2=>(intro w _;go_simp;try rfl)
   refine zh 7 ?_ rfl ?_ ?_;case refine_2=>(intro w _;go_simp;try rfl)
   refine zh 8 ?_ rfl ?_ ?_;case refine_2=>(intro w _;go_simp;try rfl)
   refine zx 9 ?_ rfl hS ?_ ?_;case refine_2=>(intro w hSw;(try dsimp only at hSw);go_simp;try rfl)
   refine zh 10 ?_ rfl ?_ ?_;case refine_2=>(intro w _;go_simp;try rfl)
   refine zh 11 ?_ rfl ?_ ?_;case refine_2=>(intro w _;go_simp;try rfl)
   refine zh 12 ?_ rfl ?_ ?_;case refine_2=>(intro w _;go_simp;try rfl)
   refine zh 13 ?_ rfl ?_ ?_;case refine_2=>(intro w _;go_simp;try rfl)
   refine zh 14 ?_ rfl ?_ ?_;case refine_2=>(intro w _;go_simp;try rfl)
   refine zh 15 ?_ rfl ?_ ?_;case refine_2=>(intro w _;go_simp;try rfl)
   refine zh 16 ?_ rfl ?_ ?_;case refine_2=>(intro w _;go_simp;try rfl)
   refine zx 17 ?_ rfl hS ?_ ?_;case refine_2=>(intro w hSw;(try dsimp only at hSw);go_simp;try rfl)
   refine zh 18 ?_ rfl ?_ ?_;case refine_2=>(intro w _;go_simp;try rfl)
   refine zh 19 ?_ rfl ?_ ?_;case refine_2=>(intro w _;go_simp;try rfl)
   refine zh 20 ?_ rfl ?_ ?_;case refine_2=>(intro w _;go_simp;try rfl)
   refine zh 21 ?_ rfl ?_ ?_;case refine_2=>(intro w _;go_simp;try rfl)
   refine zh 22 ?_ rfl ?_ ?_;case refine_2=>(intro w _;go_simp;try rfl)
   refine zh 24 ?_ rfl ?_ ?_;case refine_2=>(intro w _;go_simp;try rfl)
   refine zh 25 ?_ rfl ?_ ?_;case refine_2=>(intro w _;go_simp;try rfl)
   refine qx (i:=23) rfl (by kernel_rfl) (by rfl) ?_
   intro K hK
   go_simp
   refine hK.out _ _ ?_
   clear hK K
   refine zh 26 ?_ rfl ?_ ?_;case refine_2=>(intro w _;go_simp;try rfl)
   refine qx (i:=27) rfl (by kernel_rfl) (by rfl) ?_
   intro K hK
   go_simp
   refine hK.out _ _ ?_
   clear hK K
   refine qd (by kernel_rfl) ?_
   go_wp2_with fail
   go_ret
   refine⟨rfl,?_⟩
   clear hwq
   have e1:IntKind.i64.wrap 0=((X-X:Nat):Int):=by rw[IntKind.wrap_i64];omega
   have e2:IntKind.i64.wrap ((m:Int)+X)=((m+X:Nat):Int):=by rw[IntKind.wrap_i64];omega
   rw[e1,e2]
   exact⟨nq+1,rfl⟩
  ·have hXy:X=y:=by omega
   subst hXy
   have t1:¬ (n:Int)≤X:=fun h=>hx (Int.ofNat_le.1 h)
   have t2:(X:Int)<n:=Int.ofNat_lt.2 (Nat.lt_of_not_le hx)
   clear hX hx
   go_enter LK.func98,Try.ntmps98
   go_wp2_with fail
   go_quiet (fail)
   go_wp2_with fail
   have hS:(w.drewN nq).drew.cell? ⟨L,3+i,none⟩=some (.int .i64 n)∧(w.drewN nq).drew.cell? ⟨L,6+i,none⟩=some (.int .i64 m):=⟨g1,g2⟩
   refine qh (by kernel_rfl) (fun W=>W.cell? ⟨L,3+i,none⟩=some (.int .i64 n)∧W.cell? ⟨L,6+i,none⟩=some (.int .i64 m)) [23,27] ?_
   refine zh 0 ?_ rfl ?_ ?_;case refine_2=>(intro w _;go_simp;try rfl)
   refine zh 1 ?_ rfl ?_ ?_;case refine_2=>(intro w _;go_simp;try rfl)
   refine zh 2 ?_ rfl ?_ ?_;case refine_2=>(intro w _;go_simp;try rfl)
   refine zh 3 ?_ rfl ?_ ?_;case refine_2=>(intro w _;go_simp;try rfl)
   refine zh 4 ?_ rfl ?_ ?_;case refine_2=>(intro w _;go_simp;try rfl)
   refine zh 5 ?_ rfl ?_ ?_;case refine_2=>(intro w _;go_simp;try rfl)
   refine zh 6 ?_ rfl ?_ ?_;case refine_2=>(intro w _;go_simp;try rfl)
   refine zh 7 ?_ rfl ?_ ?_;case refine_2=>(intro w _;go_simp;try rfl)
   refine zh 8 ?_ rfl ?_ ?_;case refine_2=>(intro w _;go_simp;try rfl)
   refine zx 9 ?_ rfl hS ?_ ?_;case refine_2=>(intro w hSw;(try dsimp only at hSw);go_simp;try rfl)
   refine zh 10 ?_ rfl ?_ ?_;case refine_2=>(intro w _;go_simp;try rfl)
   refine zh 11 ?_ rfl ?_ ?_;case refine_2=>(intro w _;go_simp;try rfl)
   refine zh 12 ?_ rfl ?_ ?_;case refine_2=>(intro w _;go_simp;try rfl)
   refine zh 13 ?_ rfl ?_ ?_;case refine_2=>(intro w _;go_simp;try rfl)
   refine zh 14 ?_ rfl ?_ ?_;case refine_2=>(intro w _;go_simp;try rfl)
   refine zh 15 ?_ rfl ?_ ?_;case refine_2=>(intro w _;go_simp;try rfl)
   refine zh 16 ?_ rfl ?_ ?_;case refine_2=>(intro w _;go_simp;try rfl)
   refine zx 17 ?_ rfl hS ?_ ?_;case refine_2=>(intro w hSw;(try dsimp only at hSw);go_simp;try rfl)
   refine zh 18 ?_ rfl ?_ ?_;case refine_2=>(intro w _;go_simp;try rfl)
   refine zh 19 ?_ rfl ?_ ?_;case refine_2=>(intro w _;go_simp;try rfl)
   refine zh 20 ?_ rfl ?_ ?_;case refine_2=>(intro w _;go_simp;try rfl)
   refine zh 21 ?_ rfl ?_ ?_;case refine_2=>(intro w _;go_simp;try rfl)
   refine zh 22 ?_ rfl ?_ ?_;case refine_2=>(intro w _;go_simp;try rfl)
   refine zh 24 ?_ rfl ?_ ?_;case refine_2=>(intro w _;go_simp;try rfl)
   refine zh 25 ?_ rfl ?_ ?_;case refine_2=>(intro w _;go_simp;try rfl)
   refine qx (i:=23) rfl (by kernel_rfl) (by rfl) ?_
   intro K hK
   go_simp
   refine hK.out _ _ ?_
   clear hK K
   refine zh 26 ?_ rfl ?_ ?_;case refine_2=>(intro w _;go_simp;try rfl)
   refine qx (i:=27) rfl (by kernel_rfl) (by rfl) ?_
   intro K hK
   go_simp
   refine hK.out _ _ ?_
   clear hK K
   refine qd (by kernel_rfl) ?_
   go_wp2_with fail
   go_ret
   refine⟨rfl,?_⟩
   clear hwq
   have e1:IntKind.i64.wrap ((n:Int)-X)=((n-X:Nat):Int):=by rw[IntKind.wrap_i64];omega
   have e2:IntKind.i64.wrap ((m:Int)+X)=((m+X:Nat):Int):=by rw[IntKind.wrap_i64];omega
   rw[e1,e2]
   exact⟨nq+1,rfl⟩
 ·rw[if_neg hp]
  have hp1:¬ ((0:Int)<(melts:Int)):=by omega
  clear hL h0 h2 hn hm
  obtain⟨gb,go,ng,cg,hb,ho,nh,ch,mb,mo,nm,cm,db,dof,nd,cd⟩:=A
  simp only[Kit1.gs,Kit1.hs,int] at *
  go_enter LK.func98,Try.ntmps98
  go_wp2_with fail
  go_ret
  exact⟨rfl,0,rfl⟩
end
end
section
def kv (p:Nat×Nat):Value:=.agg #[int p.1,int p.2]
abbrev Ent:=(Nat×Nat)×Value×Nat
def ents (es:List Ent):Array MapEntry:=(es.map fun e=>{ key:=kv e.1,val:=e.2.1,born:=e.2.2 }).toArray
def yh (w:World) (g:Nat) (es:List Ent) (clock:Nat):World:={ w with heap:=w.heap.setIfInBounds g (.map (ents es) clock) }
section
variable {fs:Array Func}
theorem u161:(Pf fs).underlying 161=some (.array 2 3):=(like_under 161).trans Try.underlying161
theorem u158:(Pf fs).underlying 158=some (.map 161 141):=(like_under 158).trans Try.underlying158
theorem u3:(Pf fs).underlying 3=some (.int .i64):=(like_under 3).trans Try.underlying3
theorem plain3:(Pf fs).plainKey 3=true:=by
 unfold Program.plainKey
 rw[u3]
theorem yz {w:World} {xs:Array Value} {off:Nat} {v:Value} (h:xs[off]?=some v):(part 3 xs off).run (Pf fs) w=.ok v w:=run_part_plain (P:=Pf fs) w plain3 h
theorem cells3:(Pf fs).cellsOf 3=1:=by
 have h:Try.prog.cellsOf 3=1:=by kernel_rfl
 exact h
theorem info3:∃ i,(Pf fs).info? 3=some i:=by
 have h:Try.prog.info? 3=some Try.t3:=by kernel_rfl
 exact⟨_,h⟩
theorem eq_in (d:Nat) (p q:Nat×Nat) (w:World):(Op.equalIn (d+2) 161 (kv p) (kv q)).run (Pf fs) w=.ok (p==q) w:=by
 obtain⟨i,hi⟩:=info3 (fs:=fs)
 obtain⟨a,b⟩:=p
 obtain⟨c,e⟩:=q
 have ei:=fun (x y:Int)=>run_equalIn_int (P:=Pf fs) w d 3 .i64 .i64 x y u3
 have hpe:((a,b)==(c,e))=(a==c&&b==e):=rfl
 rw[hpe]
 simp only[kv,int]
 rw[run_equalIn_array w (d+1) _ _ u161 hi,cells3]
 have q1:(part 3 #[Value.int .i64 (a:Int),.int .i64 b] (0*1)).run (Pf fs) w=.ok (.int .i64 a) w:=yz rfl
 have q2:(part 3 #[Value.int .i64 (a:Int),.int .i64 b] (1*1)).run (Pf fs) w=.ok (.int .i64 b) w:=yz rfl
 have q3:(part 3 #[Value.int .i64 (c:Int),.int .i64 e] (0*1)).run (Pf fs) w=.ok (.int .i64 c) w:=yz rfl
 have q4:(part 3 #[Value.int .i64 (c:Int),.int .i64 e] (1*1)).run (Pf fs) w=.ok (.int .i64 e) w:=yz rfl
 have hr:List.range 2=[0,1]:=rfl
 rw[hr]
 simp only[Op.eqItems,Sem.run_bind,q1,q3,ei,Result.andThen_ok]
 have c1:((a:Int)==(c:Int))=(a==c):=by rw[Bool.eq_iff_iff];simp;omega
 have c2:((b:Int)==(e:Int))=(b==e):=by rw[Bool.eq_iff_iff];simp;omega
 rw[c1]
 have q2':(part 3 #[Value.int .i64 (a:Int),.int .i64 b] 1).run (Pf fs) w=.ok (.int .i64 b) w:=yz rfl
 have q4':(part 3 #[Value.int .i64 (c:Int),.int .i64 e] 1).run (Pf fs) w=.ok (.int .i64 e) w:=yz rfl
 cases (a==c)
 ·simp
 ·by_cases hbe:b=e
  ·subst hbe
   simp[q2',q4',ei]
  ·have hbe2:¬ (b:Int)=e:=fun h=>hbe (Int.ofNat.inj h)
   have hbe3:(b==e)=false:=by simpa using hbe
   simp[q2',q4',ei,hbe2,hbe3]
theorem equal_kv (p q:Nat×Nat) (w:World):(Op.equal 161 (kv p) (kv q)).run (Pf fs) w=.ok (p==q) w:=eq_in 9998 p q w
theorem YT (p:Nat×Nat) (w:World):∀ (es:List Ent) (i:Nat),
  (Instr.findAsking 161 (kv p) (es.map fun e=>{ key:=kv e.1,val:=e.2.1,born:=e.2.2 }) i).run (Pf fs) w=.ok ((es.zipIdx i).findSome? fun x=>if p=x.1.1 then some (x.2,x.1.2.1) else none) w
 | [],i=>by simp[Instr.findAsking]
 | e::es,i=>by
  simp only[List.map_cons,Instr.findAsking,Sem.run_bind,equal_kv,Result.andThen_ok,Sem.run_ite,List.zipIdx_cons,List.findSome?_cons]
  by_cases h:p=e.1
  ·simp[h]
  ·have hb:(p==e.1)=false:=by simpa using h
   simp only[hb,h,if_false,Bool.false_eq_true]
   exact YT p w es (i+1)
theorem zdj (p:Nat×Nat) (w:World) (es:List Ent) :
  (Instr.findKey 161 (kv p) (ents es).toList).run (Pf fs) w=.ok ((es.zipIdx 0).findSome? fun x=>if p=x.1.1 then some (x.2,x.1.2.1) else none) w:=by
 simp only[Instr.findKey,Sem.run_bind,run_underlying u161,Result.andThen_ok,ents]
 cases es with
 | nil=>simp[Instr.findNow]
 | cons e es =>
  have:Instr.findNow (.array 2 3) (kv p) (((e::es).map fun e=>({ key:=kv e.1,val:=e.2.1,born:=e.2.2 } : MapEntry))) 0=none:=by
   simp[Instr.findNow,Instr.sameNow]
  rw[this]
  exact YT p w (e::es) 0
theorem zcm (b:Bool) (p:Nat×Nat) (w:World):(Instr.checkKey b 10000 161 (kv p)).run (Pf fs) w=.ok () w:=by
 obtain⟨a,c⟩:=p
 have hint:∀ (x:Int) (d:Nat),(Instr.checkKey b (d+1) 3 (.int .i64 x)).run (Pf fs) w=.ok () w:=fun x d=>by
  simp[Instr.checkKey,run_underlying u3]
 have e:Instr.checkKey b 10000 161 (kv (a,c))=(do
  match ← underlying 161,kv (a,c) with
  | .interface _,.iface d x =>
   let info ← typeInfo d
   if !info.comparable then
    if b then runtimePanic (.unhashable d)
    runtimePanic (.error ("hash of unhashable type " ++ (← typeStr d)))
   Instr.checkKey b 9999 d x
  | .array len elem,.agg cs =>
   for i in [0:len] do Instr.checkKey b 9999 elem (← part elem cs (i*(← Go.sizeOf elem)))
  | .struct fields,.agg cs =>
   for f in fields do
    if f.name ≠ "_" then Instr.checkKey b 9999 f.type (← part f.type cs f.offset)
  | .interface _,.nilIface=>pure ()
  | .interface _,_|.array _ _,_|.struct _,_=>stuck "map key: not a value of its type"
  | _,_=>pure ()):=rfl
 rw[e]
 have hs:(Go.sizeOf 3).run (Pf fs) w=.ok 1 w:=(like_sizeOf 3 w).trans (Try.sizeOf3 w)
 have q1:(part 3 #[Value.int .i64 (a:Int),.int .i64 c] (0*1)).run (Pf fs) w=.ok (.int .i64 a) w:=yz rfl
 have q2:(part 3 #[Value.int .i64 (a:Int),.int .i64 c] (1*1)).run (Pf fs) w=.ok (.int .i64 c) w:=yz rfl
 have hr:List.range' 0 2=[0,1]:=rfl
 simp only[kv,int,Sem.run_bind,run_underlying u161,Result.andThen_ok,Std.Legacy.Range.forIn_eq_forIn_range',Std.Legacy.Range.size,Nat.sub_zero,Nat.add_one_sub_one,Nat.div_one,hr,List.forIn_cons,List.forIn_nil,hs,q1,q2,hint,Sem.run_pure]
def known (es:List Ent) (p:Nat×Nat):Option Value:=(es.find? fun e=>p==e.1).map (·.2.1)
theorem Jw (p:Nat×Nat):∀ (es:List Ent) (i:Nat),((es.zipIdx i).findSome? fun x=>if p=x.1.1 then some (x.2,x.1.2.1) else none).map Prod.snd=known es p
 | [],i=>rfl
 | e::es,i=>by
  simp only[List.zipIdx_cons,List.findSome?_cons,known,List.find?_cons]
  by_cases h:p=e.1
  ·simp[h]
  ·have hb:(p==e.1)=false:=by simpa using h
   simp only[h,if_false,hb]
   exact Jw p es (i+1)
theorem known_mem {es:List Ent} {p:Nat×Nat} {v:Value} (h:known es p=some v):∃ c,(p,v,c)∈es:=by
 unfold known at h
 cases hf:es.find? fun e=>p==e.1 with
 | none=>rw[hf] at h;cases h
 | some e =>
  rw[hf] at h
  have h1:=List.find?_some hf
  have h2:=List.mem_of_find?_eq_some hf
  simp at h1 h
  subst h1 h
  exact⟨e.2.2,h2⟩
theorem known_none {es:List Ent} {p:Nat×Nat} (h:∀ e∈es,e.1≠p):known es p=none:=by
 unfold known
 rw[List.find?_eq_none.2 (fun e he=>by simpa using fun h2=>h e he h2.symm)]
 rfl
def zcK:Value:=.agg #[.slice none 0 0,.int .i64 0,.bool false]
theorem zcT {w:World} {g:Nat} {es:List Ent} {clock:Nat} (h:w.heap[g]?=some (.map (ents es) clock)) (p:Nat×Nat) :
  (Instr.lookup 158 (.map (some g)) (kv p) true).run (Pf fs) w=.ok (.tuple #[(known es p).getD zcK,.bool (known es p).isSome]) w:=by
 have hz:(zeroValue 141).run (Pf fs) w=.ok zcK w:=(like_zero 141 w).trans (Try.zeroValue141 w)
 have hk:=Jw p es 0
 simp only[Instr.lookup,Sem.run_bind,run_underlying u158,Result.andThen_ok]
 simp only[getObj,Sem.run,h,Result.andThen_ok,Sem.run_bind,Sem.run_pure,zcm,zdj]
 cases hf:(es.zipIdx 0).findSome? fun x=>if p=x.1.1 then some (x.2,x.1.2.1) else none with
 | none=>rw[hf] at hk;simp[← hk,hz]
 | some j=>rw[hf] at hk;simp[← hk]
theorem run_put {w:World} {g:Nat} {es:List Ent} {clock:Nat} {p:Nat×Nat} {v:Value} (h:w.heap[g]?=some (.map (ents es) clock)) (hp:∀ e∈es,e.1≠p) :
  (Instr.mapUpdate 158 (.map (some g)) (kv p) v).run (Pf fs) w=.ok () (yh w g (es++[(p,v,clock)]) (clock+1)):=by
 have hk:=Jw p es 0
 rw[known_none hp] at hk
 have hn:((es.zipIdx 0).findSome? fun x=>if p=x.1.1 then some (x.2,x.1.2.1) else none)=none:=by
  cases hf:(es.zipIdx 0).findSome? fun x=>if p=x.1.1 then some (x.2,x.1.2.1) else none with
  | none=>rfl
  | some j=>rw[hf] at hk;cases hk
 simp only[Instr.mapUpdate,Sem.run_bind,run_underlying u158,Result.andThen_ok]
 simp only[getObj,setObj,Sem.run,h,Result.andThen_ok,Sem.run_bind,zcm,zdj,hn]
 simp[yh,ents]
end
end
section
structure Turn (M:Nat) (w w':World):Prop where
 size:w.heap.size≤w'.heap.size
 same:∀ b,b<w.heap.size→b≠M→w'.heap[b]?=w.heap[b]?
 os:w'.os=w.os
theorem Turn.trans {M:Nat} {a b c:World} (h:Turn M a b) (k:Turn M b c):Turn M a c:=
 ⟨Nat.le_trans h.size k.size,fun x hx hm=>(k.same x (Nat.lt_of_lt_of_le hx h.size) hm).trans (h.same x hx hm),k.os.trans h.os⟩
theorem Turn.grown {M:Nat} {a b:World} (h:Grown a b):Turn M a b:=⟨h.size,fun x hx _=>h.same x hx,h.os⟩
theorem Grown.refl (w:World):Grown w w:=⟨Nat.le_refl _,fun _ _=>rfl,rfl⟩
theorem Grown.trans {a b c:World} (h:Grown a b) (k:Grown b c):Grown a c:=
 ⟨Nat.le_trans h.size k.size,fun x hx=>(k.same x (Nat.lt_of_lt_of_le hx h.size)).trans (h.same x hx),k.os.trans h.os⟩
theorem Grown.below {a b:World} (h:Below a.heap.size a b):Grown a b:=⟨h.size,fun x hx=>h.block x hx,h.os⟩
theorem Grown.alloc (w:World) (o:Obj):Grown w (w.alloc o):=.below ((Below.refl _ _).alloc (Nat.le_refl _) _)
theorem Turn.cell {M:Nat} {w w':World} (h:Turn M w w') (hM:∀ c t m,w.heap[M]?≠some (.cells c t m)) {b o:Nat} {v:Value} (hc:w.cell? ⟨b,o,none⟩=some v):w'.cell? ⟨b,o,none⟩=some v:=by
 have hlt:=qw hc
 unfold World.cell? at hc ⊢
 split at hc
 ·rename_i c t m hx
  have hb:b≠M:=fun e=>hM c t m (by rw[← e];exact hx)
  rw[h.same b hlt hb,hx]
  exact hc
 ·cases hc
theorem PlanAt.turn {M:Nat} {w w':World} (h:Turn M w w') (hM:∀ c t m,w.heap[M]?≠some (.cells c t m)) {p:Plan} {v:Value} (k:PlanAt w p v):PlanAt w' p v:=by
 obtain⟨s,m,hv,hl⟩:=k
 refine⟨s,m,hv,?_⟩
 rcases hl with hl|⟨h1,b,h2,h3,h4,h5⟩
 ·exact .inl hl
 ·refine .inr ⟨h1,b,h2,h3,h4,?_⟩
  have hb:b≠M:=fun e=>hM _ _ _ (by rw[← e];exact h5)
  have hlt:b<w.heap.size:=(Array.getElem?_eq_some_iff.1 h5).1
  rw[h.same b hlt hb]
  exact h5
def fromF (kB nB gB oB mB fB:Nat):Value:=.func (.func 127) #[] #[ptr kB,ptr nB,ptr gB,ptr oB,ptr mB,ptr fB]
structure Kn (w:World) (A:Kit1) (i:Nat) (D:Good1) (kB nB gB oB mB fB M:Nat) (es:List Ent) (ck:Nat):Prop where
 kit:KitAt w (fun _=>True) A i D
 bk:w.heap[kB]?=some (.cells #[A.gs,A.ds,A.hs] 29 (0,0))
 bn:w.heap[nB]?=some (.cells #[.map (some M)] 158 (0,0))
 bg:w.heap[gB]?=some (.cells #[int D.room,int D.reserve,int D.melts,int D.start] 42 (0,0))
 bo:w.heap[oB]?=some (.cells #[int i] 3 (0,0))
 bm:w.heap[mB]?=some (.cells #[A.m] 22 (0,0))
 bf:w.heap[fB]?=some (.cells #[fromF kB nB gB oB mB fB] 159 (0,0))
 map:w.heap[M]?=some (.map (ents es) ck)
 right:∀ e∈es,PlanAt w (zU D (D.hauls.drop e.1.1) e.1.2) e.2.1
theorem Kn.noCells {w:World} {A:Kit1} {i:Nat} {D:Good1} {kB nB gB oB mB fB M:Nat} {es:List Ent} {ck:Nat} (h:Kn w A i D kB nB gB oB mB fB M es ck):∀ c t m,w.heap[M]?≠some (.cells c t m):=by
 intro c t m e
 rw[h.map] at e
 cases e
theorem Kn.turn {w w':World} {A:Kit1} {i:Nat} {D:Good1} {kB nB gB oB mB fB M:Nat} {es es':List Ent} {ck ck':Nat} (h:Kn w A i D kB nB gB oB mB fB M es ck) (t:Turn M w w') (hm:w'.heap[M]?=some (.map (ents es') ck'))
  (hr:∀ e∈es',e∈es∨PlanAt w' (zU D (D.hauls.drop e.1.1) e.1.2) e.2.1):Kn w' A i D kB nB gB oB mB fB M es' ck':=by
 have key:∀ (b:Nat) (c:Array Value) (ty:TypeId),w.heap[b]?=some (.cells c ty (0,0))→w'.heap[b]?=some (.cells c ty (0,0)):=fun b c ty hb=>by
  have hne:b≠M:=fun e=>h.noCells _ _ _ (by rw[← e];exact hb)
  rw[t.same b (Array.getElem?_eq_some_iff.1 hb).1 hne]
  exact hb
 refine⟨h.kit.mono fun b o v hc=>t.cell h.noCells hc,key _ _ _ h.bk,key _ _ _ h.bn,key _ _ _ h.bg,key _ _ _ h.bo,key _ _ _ h.bm,key _ _ _ h.bf,hm,fun e he=>?_⟩
 rcases hr e he with h1|h1
 ·exact (h.right e h1).turn t h.noCells
 ·exact h1
theorem Kn.grown {w w':World} {A:Kit1} {i:Nat} {D:Good1} {kB nB gB oB mB fB M:Nat} {es:List Ent} {ck:Nat} (h:Kn w A i D kB nB gB oB mB fB M es ck) (t:Grown w w'):Kn w' A i D kB nB gB oB mB fB M es ck:=
 h.turn (.grown t) ((t.same M (Array.getElem?_eq_some_iff.1 h.map).1).trans h.map) fun _ he=>.inl he
theorem PlanAt.grown {w w':World} (h:Grown w w') {p:Plan} {v:Value} (k:PlanAt w p v):PlanAt w' p v:=by
 obtain⟨s,m,hv,hl⟩:=k
 refine⟨s,m,hv,?_⟩
 rcases hl with hl|⟨h1,b,h2,h3,h4,h5⟩
 ·exact .inl hl
 ·exact .inr ⟨h1,b,h2,h3,h4,(h.same b (Array.getElem?_eq_some_iff.1 h5).1).trans h5⟩
theorem zj {w:World} {k:Nat} {o:Obj} (h:w.heap[k]?=some o):k<w.heap.size:=(Array.getElem?_eq_some_iff.1 h).1
theorem za {w:World} {g:Nat} {cs:Array Value} {t:TypeId} (h:w.heap[g]?=some (.cells cs t (0,0))) (i:Nat):w.cell? ⟨g,i,none⟩=cs[i]?:=cell_of_row w g i cs t (0,0) h
theorem zk {w:World} {g:Nat} {cs:Array Value} {t:TypeId} (h:w.heap[g]?=some (.cells cs t (0,0))) (i:Nat):w.frozen? ⟨g,i,none⟩=false:=by simp[World.frozen?,h]
theorem zR {w:World} {b i:Nat} {t:TypeId} {cs:Array Value} (h:w.heap[b]?=some (.cells cs t (0,0))) (u:Value):(w.setCell ⟨b,i,none⟩ u).heap[b]?=some (.cells (cs.setIfInBounds i u) t (0,0)):=by
 simp[World.setCell,Array.getElem?_modify,h]
theorem zv (w:World) (a:Addr) (v:Value):(w.setCell a v).heap.size=w.heap.size:=by simp[World.setCell]
theorem zt {w:World} {b:Nat} {o:Obj} (h:w.heap[b]?=some o) (o':Obj):(w.alloc o').heap[b]?=some o:=(Below.heap_alloc w o' b (zj h)).trans h
theorem zf {w w':World} {b:Nat} {o:Obj} (h:w.heap[b]?=some o) (hb:Grown w w'):w'.heap[b]?=some o:=(hb.same b (zj h)).trans h
theorem qP {w:World} {b:Nat} {t:TypeId} {x y z:Value} (h:w.heap[b]?=some (.cells #[x,y,z] t (0,0))) (u v r:Value):(((w.setCell ⟨b,0,none⟩ u).setCell ⟨b,1,none⟩ v).setCell ⟨b,2,none⟩ r).heap[b]?=some (.cells #[u,v,r] t (0,0)):=by
 have:=zR (zR (zR (i:=0) h u) (i:=1) v) (i:=2) r
 simpa using this
theorem Zc {w w':World} (h:Grown w w') {b:Nat} (hb:w.heap.size≤b) (u v r:Value):Grown w (((w'.setCell ⟨b,0,none⟩ u).setCell ⟨b,1,none⟩ v).setCell ⟨b,2,none⟩ r):=by
 refine⟨by rw[zv,zv,zv];exact h.size,fun x hx=>?_,h.os⟩
 rw[Below.heap_setCell _ _ _ _ (by simp;omega),Below.heap_setCell _ _ _ _ (by simp;omega),Below.heap_setCell _ _ _ _ (by simp;omega)]
 exact h.same x hx
theorem Grown.drewN {w w':World} (h:Grown w w') (n:Nat):Grown w (w'.drewN n):=⟨h.size,h.same,h.os⟩
theorem zcP (D:Good1) (h:Haul1) (t:Nat):tries D h t≤D.room+1-t:=by
 unfold tries
 split<;>omega
theorem tries_out {D:Good1} {h:Haul1} {t k:Nat} (hk:k≤tries D h t) (ho:¬ t+k≤D.room):k=tries D h t:=by
 unfold tries at *
 split at hk<;>rename_i hp<;>simp only[hp,if_true,if_false]<;>omega
theorem tries_free {D:Good1} {h:Haul1} {t k:Nat} (hk:k≤tries D h t) (h0 : 0<k) (hp:h.price=0):k=tries D h t:=by
 unfold tries at *
 rw[if_pos hp] at *
 omega
theorem yf {D:Good1} {h:Haul1} {t k:Nat} (ho:t+k≤D.room) (hp:¬ (0<k∧h.price=0)):k<tries D h t:=by
 unfold tries
 split<;>omega
def zz (D:Good1) (h:Haul1) (hs:List Haul1) (t k:Nat):Plan:=(List.range k).foldl (tryN D h (zU D hs) t) ([],0,true)
theorem bestTo_zero (D:Good1) (h:Haul1) (hs:List Haul1) (t:Nat):zz D h hs t 0=([],0,true):=rfl
theorem Zq (D:Good1) (h:Haul1) (hs:List Haul1) (t k:Nat):zz D h hs t (k+1)=tryN D h (zU D hs) t (zz D h hs t k) k:=by
 unfold zz
 rw[List.range_succ,List.foldl_append]
 rfl
theorem zbu (D:Good1) (h:Haul1) (hs:List Haul1) (t:Nat):zz D h hs t (tries D h t)=zU D (h::hs) t:=rfl
theorem ZM {D:Good1} {h:Haul1} {x:Nat} : after D h x=((x-melted h.hours D.melts x:Nat):Int)-((h.covers*h.need:Nat):Int):=by
 unfold after melted
 split<;>omega
theorem Zw {D:Good1} (hr:D.room≤255):∀ (hs:List Haul1) (t:Nat),(∀ h∈hs,h.price≤255)→(zU D hs t).2.1≤hs.length*65025
 | [],t,_=>by simp[zU]
 | h::hs,t,hp=>by
  have ih:=fun t=>Zw hr hs t (fun x hx=>hp x (List.mem_cons_of_mem _ hx))
  have hph:=hp h (List.mem_cons_self ..)
  rw[← zbu]
  have key:∀ k,k≤tries D h t→(zz D h hs t k).2.1≤(hs.length+1)*65025:=by
   intro k
   induction k with
   | zero=>intro _;simp[bestTo_zero]
   | succ k ihk =>
    intro hk
    have h1:=ihk (by omega)
    rw[Zq]
    unfold tryN
    split
    ·exact h1
    ·dsimp only
     split
     ·have h2:=ih (after D h (t+k)).toNat
      have h3:k≤255:=by have:=zcP D h t;omega
      have h4:k*h.price≤255*255:=Nat.mul_le_mul h3 hph
      show (zU D hs (after D h (t+k)).toNat).2.1+k*h.price≤_
      omega
     ·exact h1
  exact key _ (Nat.le_refl _)
end
section
section
variable {fs:Array Func} [Like fs]
omit [Like fs] in
set_option maxRecDepth 20000 in
theorem guard161 (x y:Operand) (a b:Array Value) (w:World):(eqGuard .eql 161 x y (.agg a) (.agg b)).run (Pf fs) w=.ok () w:=by
 have h:(Pf fs).eqGuardType (Pf fs).depth 161=false:=by
  have h2:Try.prog.eqGuardType Try.prog.depth 161=false:=Try.eqGuardType161
  exact h2
 unfold eqGuard
 simp[h]
omit [Like fs] in
theorem JA (a b c e:Nat) (w:World):(Op.equalIn 10000 161 (.agg #[.int .i64 a,.int .i64 b]) (.agg #[.int .i64 c,.int .i64 e])).run (Pf fs) w=.ok (decide (a=c∧b=e)) w:=by
 have h:(Op.equalIn 10000 161 (kv (a,b)) (kv (c,e))).run (Pf fs) w=_:=eq_in 9998 (a,b) (c,e) w
 have h2:((a,b)==(c,e))=decide (a=c∧b=e):=by rw[Bool.eq_iff_iff];simp
 rw[h2] at h
 exact h
def je (A:Kit1) (i:Nat) (D:Good1) (kB nB gB oB mB fB M:Nat) (es:List Ent) (h t:Nat) (w:World) (e:Ending) (w':World):Prop:=
 ∃ v es' ck',e=.returned v∧Turn M w w'∧Kn w' A i D kB nB gB oB mB fB M es' ck'∧(∀ x∈es',x∈es∨h≤x.1.1)∧PlanAt w' (zU D (D.hauls.drop h) t) v
set_option maxRecDepth 20000 in
theorem from_end {A:Kit1} {i:Nat} {D:Good1} {kB nB gB oB mB fB M:Nat} (t:Nat) (w:World) (es:List Ent) (ck:Nat) (K:Kn w A i D kB nB gB oB mB fB M es ck) :
  Calls (Pf fs) 127 #[kv (A.nh,t),ptr kB,ptr nB,ptr gB,ptr oB,ptr mB,ptr fB] w (je A i D kB nB gB oB mB fB M es A.nh t w):=by
 have hw1:Grown w ((w.alloc (.cells #[int A.nh,int t] 161)).alloc (.cells #[.slice none 0 0,.int .i64 0,.bool false] 141)):=(Grown.alloc _ _).trans (.alloc _ _)
 have k1:((w.alloc (.cells #[int A.nh,int t] 161)).alloc (.cells #[.slice none 0 0,.int .i64 0,.bool false] 141)).cell? ⟨kB,2,none⟩=some A.hs:=cell_of_row _ _ 2 _ 29 (0,0) (K.grown hw1).bk
 have e1:=fun (x y:Operand) (a b:Array Value)=>guard161 (fs:=fs) x y a b
 have e2:∀ W,(Op.equalIn 10000 161 (.agg #[.int .i64 A.nh,.int .i64 t]) (.agg #[.int .i64 A.nh,.int .i64 t])).run (Pf fs) W=.ok true W:=fun W=>by rw[JA];simp
 have HK:=Lib.hid K
 have HW:=Lib.hid hw1
 generalize hP:je A i D kB nB gB oB mB fB M es A.nh t w=R
 have HP:=Lib.hid hP
 clear K hw1 hP
 obtain⟨gb,go,ng,cg,hb,ho,nh,ch,mb,mo,nm,cm,db,dof,nd,cd⟩:=A
 simp only[kv,ptr,int,Kit1.hs] at *
 go_enter LK.func127,Try.ntmps127
 go_wp2_with fail
 go_quiet (fail)
 go_wp2_with fail
 have hb:(((w.alloc (.cells #[.int .i64 (nh:Int),.int .i64 (t:Int)] 161)).alloc (.cells #[.slice none 0 0,.int .i64 0,.bool false] 141)).drewN nq).heap[w.heap.size+1]?=some (.cells #[.slice none 0 0,.int .i64 0,.bool false] 141 (0,0)):=by
  have:=heap_alloc_new (w.alloc (.cells #[.int .i64 (nh:Int),.int .i64 (t:Int)] 161)) (.cells #[.slice none 0 0,.int .i64 0,.bool false] 141)
  simpa using this
 have hb3:=qP hb (.slice none 0 0) (.int .i64 0) (.bool false)
 have hg:=Zc (HW.out.drewN nq) (b:=w.heap.size+1) (by omega) (.slice none 0 0) (.int .i64 0) (.bool false)
 generalize (((((w.alloc (.cells #[.int .i64 (nh:Int),.int .i64 (t:Int)] 161)).alloc (.cells #[.slice none 0 0,.int .i64 0,.bool false] 141)).drewN nq).setCell ⟨w.heap.size+1,0,none⟩ (.slice none 0 0)).setCell ⟨w.heap.size+1,1,none⟩ (.int .i64 0)).setCell ⟨w.heap.size+1,2,none⟩ (.bool false)=W at hb3 hg ⊢
 have y0:=za hb3 0
 have y1:=za hb3 1
 have y2:=za hb3 2
 refine bodyPost_ret (v:=.agg #[.slice none 0 0,.int .i64 0,.bool false]) (by simp[results,Try.results127,go_sem,y0,y1,y2]) rfl ?_
 rw[← HP.out]
 have hnil:D.hauls.drop nh=[]:=List.drop_eq_nil_iff.2 (by have:=HK.out.kit.len;simp at this;omega)
 refine⟨_,es,ck,rfl,.grown hg,HK.out.grown hg,fun x hx=>.inl hx,?_⟩
 show PlanAt W (zU D (D.hauls.drop nh) t) _
 rw[hnil]
 exact⟨none,0,rfl,.inl ⟨rfl,rfl,rfl⟩⟩
end
end
section
section
variable {fs:Array Func} [Like fs]
set_option maxRecDepth 20000 in
theorem from_known {A:Kit1} {i:Nat} {D:Good1} {kB nB gB oB mB fB M:Nat} (h t:Nat) (hh:h<A.nh) (w:World) (es:List Ent) (ck:Nat) (K:Kn w A i D kB nB gB oB mB fB M es ck) (v:Value) (hv:known es (h,t)=some v) :
  Calls (Pf fs) 127 #[kv (h,t),ptr kB,ptr nB,ptr gB,ptr oB,ptr mB,ptr fB] w (je A i D kB nB gB oB mB fB M es h t w):=by
 have hw1:Grown w ((w.alloc (.cells #[int h,int t] 161)).alloc (.cells #[.slice none 0 0,.int .i64 0,.bool false] 141)):=(Grown.alloc _ _).trans (.alloc _ _)
 have K1:=K.grown hw1
 obtain⟨c,hmem⟩:=known_mem hv
 have hp:=K.right _ hmem
 obtain⟨s,m,hvv,hl⟩:=hp
 have HL:=Lib.hid hl
 clear hl
 generalize hp1:(zU D (D.hauls.drop h) t)=p at *
 have HE:=Lib.hid hp1
 subst hvv
 have k1:((w.alloc (.cells #[int h,int t] 161)).alloc (.cells #[.slice none 0 0,.int .i64 0,.bool false] 141)).cell? ⟨kB,2,none⟩=some A.hs:=cell_of_row _ _ 2 _ 29 (0,0) K1.bk
 have k2:((w.alloc (.cells #[int h,int t] 161)).alloc (.cells #[.slice none 0 0,.int .i64 0,.bool false] 141)).cell? ⟨nB,0,none⟩=some (.map (some M)):=cell_of_row _ _ 0 _ 158 (0,0) K1.bn
 have e1:=fun (x y:Operand) (a b:Array Value)=>guard161 (fs:=fs) x y a b
 have e2:∀ W,(Op.equalIn 10000 161 (.agg #[.int .i64 h,.int .i64 t]) (.agg #[.int .i64 A.nh,.int .i64 t])).run (Pf fs) W=.ok false W:=fun W=>by
  rw[JA]
  have:¬ h=A.nh:=by omega
  simp[this]
 have e3:∀ q,(Instr.lookup 158 (.map (some M)) (.agg #[.int .i64 h,.int .i64 t]) true).run (Pf fs) (((w.alloc (.cells #[int h,int t] 161)).alloc (.cells #[.slice none 0 0,.int .i64 0,.bool false] 141)).drewN q)=.ok (.tuple #[.agg #[.slice s p.1.length m,.int .i64 p.2.1,.bool p.2.2],.bool true]) (((w.alloc (.cells #[int h,int t] 161)).alloc (.cells #[.slice none 0 0,.int .i64 0,.bool false] 141)).drewN q):=fun q=>by
  have:=zcT (fs:=fs) (w:=(((w.alloc (.cells #[int h,int t] 161)).alloc (.cells #[.slice none 0 0,.int .i64 0,.bool false] 141)).drewN q)) (g:=M) (es:=es) (clock:=ck) K1.map (h,t)
  rw[hv] at this
  exact this
 have HK:=Lib.hid K
 have HW:=Lib.hid hw1
 generalize hP:je A i D kB nB gB oB mB fB M es h t w=R
 have HP:=Lib.hid hP
 clear K K1 hw1 hP hmem hv hp1
 obtain⟨gb,go,ng,cg,hb,ho,nh,ch,mb,mo,nm,cm,db,dof,nd,cd⟩:=A
 simp only[kv,ptr,int,Kit1.hs] at *
 go_enter LK.func127,Try.ntmps127
 go_wp2_with fail
 go_quiet (fail)
 go_wp2_with fail
 have hb:(((w.alloc (.cells #[.int .i64 (h:Int),.int .i64 (t:Int)] 161)).alloc (.cells #[.slice none 0 0,.int .i64 0,.bool false] 141)).drewN nq).heap[w.heap.size+1]?=some (.cells #[.slice none 0 0,.int .i64 0,.bool false] 141 (0,0)):=by
  have:=heap_alloc_new (w.alloc (.cells #[.int .i64 (h:Int),.int .i64 (t:Int)] 161)) (.cells #[.slice none 0 0,.int .i64 0,.bool false] 141)
  simpa using this
 have hb3:=zt (qP hb (.slice s p.1.length m) (.int .i64 p.2.1) (.bool p.2.2)) (.cells #[.slice s p.1.length m,.int .i64 p.2.1,.bool p.2.2] 141)
 have hg:=(Zc (HW.out.drewN nq) (b:=w.heap.size+1) (by omega) (.slice s p.1.length m) (.int .i64 p.2.1) (.bool p.2.2)).trans (.alloc _ (.cells #[.slice s p.1.length m,.int .i64 p.2.1,.bool p.2.2] 141))
 generalize ((((((w.alloc (.cells #[.int .i64 (h:Int),.int .i64 (t:Int)] 161)).alloc (.cells #[.slice none 0 0,.int .i64 0,.bool false] 141)).drewN nq).setCell ⟨w.heap.size+1,0,none⟩ (.slice s p.1.length m)).setCell ⟨w.heap.size+1,1,none⟩ (.int .i64 p.2.1)).setCell ⟨w.heap.size+1,2,none⟩ (.bool p.2.2)).alloc (.cells #[.slice s p.1.length m,.int .i64 p.2.1,.bool p.2.2] 141)=W at hb3 hg ⊢
 have y0:=za hb3 0
 have y1:=za hb3 1
 have y2:=za hb3 2
 refine bodyPost_ret (v:=.agg #[.slice s p.1.length m,.int .i64 p.2.1,.bool p.2.2]) (by simp[results,Try.results127,go_sem,y0,y1,y2]) rfl ?_
 rw[← HP.out]
 refine⟨_,es,ck,rfl,.grown hg,HK.out.grown hg,fun x hx=>.inl hx,?_⟩
 have hp2:PlanAt w p (.agg #[.slice s p.1.length m,.int .i64 p.2.1,.bool p.2.2]):=⟨s,m,rfl,HL.out⟩
 rw[HE.out]
 exact hp2.grown hg
end
end
end Go.Gal
