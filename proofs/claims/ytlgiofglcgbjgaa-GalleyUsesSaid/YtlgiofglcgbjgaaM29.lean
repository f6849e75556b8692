/- Integers in memory, append onto own rows: turned from the texts for the Line. What S alone has: the stub of 'all' (74), run (67) and its closures (94, 95); own rows of own rows of .. -/
import Derived.Test.YtlgiofglcgbjgaaM28
section
namespace Go.Gal.L
open Go.RowKit
def Ints (w:World) (B:Nat) (A:Option Addr) (xs:List Int):Prop:=
 ∀ (k:Nat) (x:Int),xs[k]?=some x→∃ b off,A=some ⟨b,off,none⟩∧b<B∧w.cell? ⟨b,off+k,none⟩=some (.int .i64 x)
theorem Ints.cases {w:World} {B:Nat} {A:Option Addr} {xs:List Int} (h:Ints w B A xs) :
  xs=[]∨∃ b off,A=some ⟨b,off,none⟩∧b<B∧∀ k x,xs[k]?=some x→w.cell? ⟨b,off+k,none⟩=some (.int .i64 x):=by
 cases xs with
 | nil=>exact .inl rfl
 | cons x l =>
  obtain⟨b,off,hA,hb,_⟩:=h 0 x rfl
  refine .inr ⟨b,off,hA,hb,fun k y hk=>?_⟩
  obtain⟨b',off',hA',_,hc⟩:=h k y hk
  rw[hA] at hA'
  injection hA' with hA'
  injection hA' with h1 h2
  subst h1 h2
  exact hc
theorem block_of_add (a:Addr) (n:Nat):(a.add n).block=a.block:=by unfold Addr.add;split<;>rfl
def Reads (w:World) (B size:Nat) (A:Option Addr) (n:Nat) (xs:List Value):Prop:=
 xs.length=n*size∧(0<n→∃ ad,A=some ad∧ad.block<B∧∀ j u,xs[j]?=some u→w.cell? (ad.add j)=some u)
section
variable {w w':World} {B B' size n:Nat} {A:Option Addr} {xs:List Value}
theorem Reads.keep (h:Reads w B size A n xs) (hk:∀ p:Addr,p.block<B→w'.cell? p=w.cell? p):Reads w' B size A n xs:=
 ⟨h.1,fun hn=>by
  obtain⟨ad,e,hb,hc⟩:=h.2 hn
  exact⟨ad,e,hb,fun j u hu=>(hk _ (by rw[block_of_add];exact hb)).trans (hc j u hu)⟩⟩
theorem Reads.of_own {base:Nat} {e:TypeId} {c:Nat} (h:w.ownsRow base e size (.slice A n c) n xs):Reads w w.heap.size size A n xs:=by
 refine⟨h.1,fun hn=>?_⟩
 obtain⟨g,cap,hv,_,hlt⟩:=h.form hn
 have hA:A=some ⟨g,0,none⟩:=by injection hv
 subst hA
 exact⟨_,rfl,hlt,h.cells (g:=g) rfl⟩
end
section
variable {P:Program} (w:World)
theorem run_append_of_nil (base:Nat) (t ty e:TypeId) (i:TypeInfo) (size:Nat) (ht:P.underlying t=some (.slice e)) (hi:P.info? e=some i)
  (v:Value) (n:Nat) (xs:List Value) (hown:w.ownsRow base e size v n xs) (c:Nat):(Builtin.append_ #[t,t] ty #[v,.slice none 0 c]).run P w=.ok v w:=by
 rcases hown.2 with ⟨rfl,rfl⟩|⟨g,cap,cur,rfl,_,_,hnc,_⟩
 ·simp[Builtin.append_,run_underlying ht,sizeOf,typeInfo,hi,Builtin.lenOf,Builtin.firstCells]
 ·simp[Builtin.append_,run_underlying ht,sizeOf,typeInfo,hi,Builtin.lenOf,Builtin.firstCells,hnc,storeCells]
theorem run_append_any (base:Nat) (t ty e:TypeId) (i:TypeInfo) (z:Value) (size bytes:Nat) (ht:P.underlying t=some (.slice e)) (hi:P.info? e=some i) (hz:i.zero=some z)
  (hsize:i.size=size) (hby:i.bytes=bytes) (hzs:z.cells.size=size) (hsz : 0<size)
  (v:Value) (n:Nat) (xs:List Value) (hown:w.ownsRow base e size v n xs)
  (B:Nat) (A:Option Addr) (m c:Nat) (news:List Value) (hr:Reads w B size A m news) (h1:∀ u∈news,u.oneCell'=true)
  (h63:n+m≤maxLen) (hbytes:(n+m)*bytes≤140737488355328) (hbase:base≤w.heap.size) :
  ∃ v' w',(Builtin.append_ #[t,t] ty #[v,.slice A m c]).run P w=.ok v' w'∧w'.ownsRow base e size v' (n+m) (xs++news)∧w.grownBy w' v.ownBlock ∧
   (v'.ownBlock=v.ownBlock∨v'.ownBlock=some w.heap.size):=by
 rcases A with _|ad
 ·have hm:m=0:=by
   rcases Nat.eq_zero_or_pos m with h0|h0
   ·exact h0
   ·obtain⟨ad,h,_⟩:=hr.2 h0
    cases h
  subst hm
  have hn:news=[]:=List.eq_nil_of_length_eq_zero (by simpa using hr.1)
  subst hn
  exact⟨v,w,run_append_of_nil w base t ty e i size ht hi v n xs hown c,by simpa using hown,World.grownBy.refl w _,.inl rfl⟩
 ·have hcells:∀ j u,news[j]?=some u→w.cell? (ad.add j)=some u:=by
   intro j u hu
   rcases Nat.eq_zero_or_pos m with h0|h0
   ·subst h0
    have hn:news=[]:=List.eq_nil_of_length_eq_zero (by simpa using hr.1)
    subst hn
    simp at hu
   ·obtain⟨ad',h,_,hc⟩:=hr.2 h0
    injection h with h
    subst h
    exact hc j u hu
  obtain⟨v',w',hrun,h2,h3,_,h5⟩:=run_append_own_at (P:=P) w base t ty e i z size bytes ht hi hz hsize hby hzs hsz v n xs hown ad m c news hr.1 hcells h1 h63 hbytes hbase
  exact⟨v',w',hrun,h2,h3,h5⟩
theorem wp_append_any {o:Oper} {a:Act} {K:Act→World→Prop} {Q:Exit→Act→World→Prop} (s x:Operand) (t:TypeId)
  (ho:o.op=.call { callee:=.builtin .append,args:=#[s,x],argTypes:=#[t,t] })
  (base:Nat) (e:TypeId) (i:TypeInfo) (z:Value) (size bytes:Nat) (ht:P.underlying t=some (.slice e)) (hi:P.info? e=some i) (hz:i.zero=some z)
  (hsize:i.size=size) (hby:i.bytes=bytes) (hzs:z.cells.size=size) (hsz : 0<size)
  (v:Value) (n:Nat) (xs:List Value) (hs:a.eval s=v) (hown:w.ownsRow base e size v n xs)
  (B:Nat) (A:Option Addr) (m c:Nat) (news:List Value) (hx:a.eval x=.slice A m c) (hr:Reads w B size A m news) (h1:∀ u∈news,u.oneCell'=true)
  (h63:n+m≤maxLen) (hbytes:(n+m)*bytes≤140737488355328) (hbase:base≤w.heap.size)
  (h:∀ v' w',w'.ownsRow base e size v' (n+m) (xs++news)→w.grownBy w' v.ownBlock→(v'.ownBlock=v.ownBlock∨v'.ownBlock=some w.heap.size)→K (a.put o.dst v') w'):o.wp P a w K Q:=by
 obtain⟨v',w',hrun,h2,h3,h4⟩:=run_append_any (P:=P) w base t o.type e i z size bytes ht hi hz hsize hby hzs hsz v n xs hown B A m c news hr h1 h63 hbytes hbase
 unfold Oper.wp execOp
 simp only[ho,resolve,invoke,builtin,Sem.run_bind,Sem.run_pure,Result.andThen_ok,List.map_toArray,List.map_cons,List.map_nil,hs,hx,hrun]
 exact h v' w' h2 h3 h4
theorem wpList_append_any {ops:Array Oper} {rest:List Oper} {o:Oper} {a:Act} {Q:Exit→Act→World→Prop} (hgd:o.guard=none) (s x:Operand) (t:TypeId)
  (ho:o.op=.call { callee:=.builtin .append,args:=#[s,x],argTypes:=#[t,t] })
  (base:Nat) (e:TypeId) (i:TypeInfo) (z:Value) (size bytes:Nat) (ht:P.underlying t=some (.slice e)) (hi:P.info? e=some i) (hz:i.zero=some z)
  (hsize:i.size=size) (hby:i.bytes=bytes) (hzs:z.cells.size=size) (hsz : 0<size)
  (v:Value) (n:Nat) (xs:List Value) (hs:a.eval s=v) (hown:w.ownsRow base e size v n xs)
  (B:Nat) (A:Option Addr) (m c:Nat) (news:List Value) (hx:a.eval x=.slice A m c) (hr:Reads w B size A m news) (h1:∀ u∈news,u.oneCell'=true)
  (h63:n+m≤maxLen) (hbytes:(n+m)*bytes≤140737488355328) (hbase:base≤w.heap.size)
  (h:∀ v' w',w'.ownsRow base e size v' (n+m) (xs++news)→w.grownBy w' v.ownBlock→(v'.ownBlock=v.ownBlock∨v'.ownBlock=some w.heap.size)→wpList P ops Q rest (a.put o.dst v') w'):wpList P ops Q (o::rest) a w:=
 wpList_plain hgd fun _ hK=>wp_append_any w s x t ho base e i z size bytes ht hi hz hsize hby hzs hsz v n xs hs hown B A m c news hx hr h1 h63 hbytes hbase fun v' w' h2 h3 h4=>hK _ _ (h v' w' h2 h3 h4)
end
theorem Ints.reads {w:World} {B:Nat} {A:Option Addr} {xs:List Int} (h:Ints w B A xs):Reads w B 1 A xs.length (xs.map (Value.int .i64)):=by
 refine⟨by simp,fun hn=>?_⟩
 rcases h.cases with rfl|⟨b,off,hA,hb,hc⟩
 ·simp at hn
 ·refine⟨⟨b,off,none⟩,hA,hb,fun j u hu=>?_⟩
  rw[List.getElem?_map] at hu
  cases hx:xs[j]? with
  | none=>rw[hx] at hu;simp at hu
  | some x =>
   rw[hx] at hu
   simp at hu
   subst hu
   have:=hc j x hx
   unfold Addr.add
   split
   ·rename_i h0;subst h0;simpa using this
   ·exact this
theorem Ints.of_reads {w:World} {B:Nat} {A:Option Addr} {n:Nat} {xs:List Int} (h:Reads w B 1 A n (xs.map (Value.int .i64))):Ints w B A xs:=fun k x hx=>by
 have hlen:xs.length=n:=by have:=h.1;simpa using this
 have hk:k<xs.length:=(List.getElem?_eq_some_iff.1 hx).1
 obtain⟨ad,hA,hb,hc⟩:=h.2 (by omega)
 have h0:=hc k (.int .i64 x) (by rw[List.getElem?_map,hx];rfl)
 obtain⟨b,off,sp⟩:=ad
 have hs:sp=none:=by
  have:=hc 0 (.int .i64 xs[0]) (by rw[List.getElem?_map,List.getElem?_eq_getElem (by omega)];rfl)
  simpa[Addr.add] using World.cell?_spot this
 subst hs
 refine⟨b,off,hA,hb,?_⟩
 unfold Addr.add at h0
 split at h0
 ·rename_i hk0;subst hk0;simpa using h0
 ·exact h0
def OwnInts (w:World) (base:Nat) (A:Option Addr) (c:Nat) (xs:List Int):Prop:=w.ownsRow base 3 1 (.slice A xs.length c) xs.length (xs.map (Value.int .i64))
theorem OwnInts.ints {w:World} {base:Nat} {A:Option Addr} {c:Nat} {xs:List Int} (h:OwnInts w base A c xs):Ints w w.heap.size A xs:=Ints.of_reads (Reads.of_own h)
theorem OwnInts.nil (w:World) (base:Nat):OwnInts w base none 0 []:=⟨by simp,.inl ⟨rfl,rfl⟩⟩
theorem own_slice {w:World} {base e size n:Nat} {v:Value} {xs:List Value} (h:w.ownsRow base e size v n xs):∃ A c,v=.slice A n c:=by
 rcases h.2 with ⟨rfl,rfl⟩|⟨g,cap,cur,rfl,_⟩
 ·exact⟨none,0,rfl⟩
 ·exact⟨_,_,rfl⟩
theorem ownBlock_slice (A:Option Addr) (n c:Nat):(Value.slice A n c).ownBlock=A.map (·.block):=by cases A<;>rfl
theorem wpl_app_ints {P:Program} {w:World} {ops:Array Oper} {rest:List Oper} {o:Oper} {a:Act} {Q:Exit→Act→World→Prop} (hgd:o.guard=none) (s x:Operand) (t:TypeId)
  (ho:o.op=.call { callee:=.builtin .append,args:=#[s,x],argTypes:=#[t,t] })
  (base:Nat) (ht:P.underlying t=some (.slice 3)) (hi:(P.info? 3).map (fun i=>(i.zero,i.size,i.bytes))=some (some (.int .i64 0),1,8))
  (A:Option Addr) (c:Nat) (xs:List Int) (hs:a.eval s=.slice A xs.length c) (hown:OwnInts w base A c xs)
  (B:Nat) (A':Option Addr) (c':Nat) (ys:List Int) (hx:a.eval x=.slice A' ys.length c') (hr:Ints w B A' ys)
  (hlen:(xs.length+ys.length)*8≤140737488355328) (hbase:base≤w.heap.size)
  (h:∀ A2 c2 w',OwnInts w' base A2 c2 (xs++ys)→w.grownBy w' (Value.slice A xs.length c).ownBlock→(A2.map (·.block)=A.map (·.block)∨A2.map (·.block)=some w.heap.size) →
   wpList P ops Q rest (a.put o.dst (.slice A2 (xs++ys).length c2)) w'):wpList P ops Q (o::rest) a w:=by
 obtain⟨i,h1,h2,h3,h4⟩:=info_parts hi
 refine wpList_append_any w hgd s x t ho base 3 i (.int .i64 0) 1 8 ht h1 h2 h3 h4 rfl (by omega) (.slice A xs.length c) xs.length (xs.map (Value.int .i64)) hs hown B A' ys.length c' (ys.map (Value.int .i64)) hx hr.reads
  (fun u hu=>by simp at hu;obtain⟨n,_,rfl⟩:=hu;rfl) (by simp only[maxLen];omega) (by omega) hbase ?_
 intro v' w' hown' hg hat
 obtain⟨A2,c2,rfl⟩:=own_slice hown'
 rw[← List.map_append] at hown'
 have hl:xs.length+ys.length=(xs++ys).length:=by simp
 rw[hl] at hown' ⊢
 refine h A2 c2 w' hown' hg ?_
 rwa [ownBlock_slice,ownBlock_slice] at hat
end Go.Gal.L
end
namespace Go.Gal
open Go Go.Par Go.Proofs Go.RowKit
section
noncomputable def f74S:Func:={ Try.f74 with body:=some stub74 }
class LikeS (fs:Array Func):Prop extends Like fs where
 r67:fs[67]?=some Try.f67
 r94:fs[94]?=some Try.f94
 r95:fs[95]?=some Try.f95
 r74:fs[74]?=some f74S
instance likeS_S:LikeS S.funcs where
 r67:=by rw[qi,show Try.prog.funcs[67]?=some Try.f67 from Try.func67];exact congrArg some (JW rfl rfl)
 r94:=by rw[qi,show Try.prog.funcs[94]?=some Try.f94 from Try.func94];exact congrArg some (JW rfl rfl)
 r95:=by rw[qi,show Try.prog.funcs[95]?=some Try.f95 from Try.func95];exact congrArg some (JW rfl rfl)
 r74:=by rw[qi,show Try.prog.funcs[74]?=some Try.f74 from Try.func74];exact congrArg some (Qb rfl rfl)
section
variable {fs:Array Func} [LikeS fs]
theorem LK.func67:(Pf fs).funcs[67]?=some Try.f67:=LikeS.r67 (fs:=fs)
theorem LK.func94:(Pf fs).funcs[94]?=some Try.f94:=LikeS.r94 (fs:=fs)
theorem LK.func95:(Pf fs).funcs[95]?=some Try.f95:=LikeS.r95 (fs:=fs)
theorem LK.func74:(Pf fs).funcs[74]?=some f74S:=LikeS.r74 (fs:=fs)
theorem nm74:(f74S.name == "runtime.NumGoroutine")=false:=by kernel_rfl
@[simp] theorem LK.call67 (args:Array Value) (w:World):(callFunc 67 args).run (Pf fs) w=.ok (.enter 67 args) w:=zr LK.func67 rfl rfl args w
@[simp] theorem LK.call94 (args:Array Value) (w:World):(callFunc 94 args).run (Pf fs) w=.ok (.enter 94 args) w:=zr LK.func94 rfl rfl args w
@[simp] theorem LK.call95 (args:Array Value) (w:World):(callFunc 95 args).run (Pf fs) w=.ok (.enter 95 args) w:=zr LK.func95 rfl rfl args w
@[simp] theorem LK.call74 (args:Array Value) (w:World):(callFunc 74 args).run (Pf fs) w=.ok (.enter 74 args) w:=zr LK.func74 rfl nm74 args w
end
theorem ntmps74S:f74S.ntmps=68:=Try.ntmps74
theorem zaq:f74S.results=#[.tmp 4,.tmp 5,.tmp 6]:=Try.results74
theorem wp_tail {P:Program} {Q:Exit→Act→World→Prop} {a:Act} {w:World} {x1 x2 x3 x4 x5 t:Code} (h:body74=.seq x1 (.seq x2 (.seq x3 (.seq x4 (.seq x5 t))))) (H:t.wp P Q a w):(Qs body74).wp P Q a w:=by
 rw[h]
 exact H
theorem jc {w w':World} {base size n:Nat} {e:TypeId} {v:Value} {xs:List Value} (h:w.ownsRow base e size v n xs) (hk:∀ k,v.ownBlock=some k→k<w.heap.size→w'.heap[k]?=w.heap[k]?):w'.ownsRow base e size v n xs:=by
 refine⟨h.1,?_⟩
 rcases h.2 with h2|⟨b,cap,cur,rfl,hg2,hh,r⟩
 ·exact .inl h2
 ·exact .inr ⟨b,cap,cur,rfl,hg2,(hk b rfl (zj hh)).trans hh,r⟩
theorem zV {w:World} {base size n:Nat} {e:TypeId} {v:Value} {xs:List Value} (h:w.ownsRow base e size v n xs) {k:Nat} (hk:v.ownBlock=some k):base≤k∧k<w.heap.size:=by
 rcases h.2 with ⟨rfl,_⟩|⟨b,cap,cur,rfl,hg2,hh,_⟩
 ·cases hk
 ·cases hk
  exact⟨hg2,zj hh⟩
theorem qu (A:Option Addr) (n c:Nat):(Value.slice A n c).ownBlock=A.map (·.block):=by cases A<;>rfl
theorem qr {w w':World} {base size n:Nat} {e:TypeId} {v:Value} {xs:List Value} (h:w.ownsRow base e size v n xs) (g:Grown w w'):w'.ownsRow base e size v n xs:=jc h fun k _ hl=>g.same k hl
theorem yC {w:World} {base:Nat} {A:Option Addr} {c:Nat} {xs:List Int} (h:L.OwnInts w base A c xs):Ints w A xs:=fun k x hx=>by
 obtain⟨b,off,h1,_,h2⟩:=h.ints k x hx
 exact⟨b,off,h1,h2⟩
def RowsAt (w:World) (base M:Nat) (rows:List (List Int)):Prop:=
 ∃ (arr:Array Value) (As:Nat→Option Addr) (cs:Nat→Nat),w.heap[M]?=some (.cells arr 22 (0,0))∧arr.size=rows.length ∧
  (∀ j l,rows[j]?=some l→arr[j]?=some (.slice (As j) l.length (cs j))∧L.OwnInts w base (As j) (cs j) l∧(As j).map (·.block)≠some M) ∧
  (∀ j j' k,j<rows.length→j'<rows.length→(As j).map (·.block)=some k→(As j').map (·.block)=some k→j=j')
theorem RowsAt.grown {w w':World} {base M:Nat} {rows:List (List Int)} (h:RowsAt w base M rows) (g:Grown w w'):RowsAt w' base M rows:=by
 obtain⟨arr,As,cs,h1,h2,h3,h4⟩:=h
 exact⟨arr,As,cs,zf h1 g,h2,fun j l hl=>⟨(h3 j l hl).1,qr (h3 j l hl).2.1 g,(h3 j l hl).2.2⟩,h4⟩
theorem RowsAt.dishes {w:World} {base M:Nat} {rows:List (List Int)} (h:RowsAt w base M rows) (hl:∀ l∈rows,l.length≤1000):DishesAt w (some ⟨M,0,none⟩) rows:=by
 obtain⟨arr,As,cs,h1,h2,h3,h4⟩:=h
 intro j d hd
 obtain⟨k1,k2,k3⟩:=h3 j d hd
 refine⟨M,0,rfl,As j,cs j,?_,yC k2,hl d (List.mem_of_getElem? hd)⟩
 rw[Nat.zero_add]
 exact (za h1 j).trans k1
theorem RowsAt.put {w:World} {base M:Nat} {rows:List (List Int)} (h:RowsAt w base M rows) {j:Nat} {l:List Int} (hj:rows[j]?=some l) :
  ∃ A c,w.cell? ⟨M,j,none⟩=some (.slice A l.length c)∧w.frozen? ⟨M,j,none⟩=false∧L.OwnInts w base A c l∧M<w.heap.size ∧
   ∀ w0 A2 c2 w1 l2,Grown w w0→L.OwnInts w1 base A2 c2 l2→w0.grownBy w1 (Value.slice A l.length c).ownBlock→(A2.map (·.block)=A.map (·.block)∨A2.map (·.block)=some w0.heap.size) →
    RowsAt (w1.setCell ⟨M,j,none⟩ (.slice A2 l2.length c2)) base M (rows.set j l2)∧w1.cell? ⟨M,j,none⟩=some (.slice A l.length c)∧w1.frozen? ⟨M,j,none⟩=false:=by
 obtain⟨arr,As,cs,h1,h2,h3,h4⟩:=h
 obtain⟨k1,k2,k3⟩:=h3 j l hj
 have hM:=zj h1
 have hjl:j<rows.length:=(List.getElem?_eq_some_iff.1 hj).1
 refine⟨As j,cs j,(za h1 j).trans k1,zk h1 j,k2,hM,fun w0 A2 c2 w1 l2 hg0 ho hg hat=>?_⟩
 have hM0:M<w0.heap.size:=Nat.lt_of_lt_of_le hM hg0.size
 have hM1:w1.heap[M]?=some (.cells arr 22 (0,0)):=by
  rw[hg.block M hM0 (by rw[qu];exact fun e=>k3 e.symm),hg0.same M hM]
  exact h1
 have hA2M:A2.map (·.block)≠some M:=by
  rcases hat with e|e
  ·rw[e];exact k3
  ·rw[e];intro e2;injection e2 with e2;omega
 have hlow:∀ i l',rows[i]?=some l'→∀ k,(As i).map (·.block)=some k→k<w.heap.size:=fun i l' hi k hk =>
  (zV (h3 i l' hi).2.1 (by rw[qu];exact hk)).2
 refine⟨⟨arr.setIfInBounds j (.slice A2 l2.length c2),fun i=>if i=j then A2 else As i,fun i=>if i=j then c2 else cs i,zR hM1 _,by simp[h2],fun i l' hi=>?_,fun i i' k hi hi' e e'=>?_⟩,(za hM1 j).trans k1,zk hM1 j⟩
 ·by_cases hij:i=j
  ·subst hij
   rw[List.getElem?_set_self hjl] at hi
   cases hi
   simp only[if_true]
   refine⟨Array.getElem?_setIfInBounds_self_of_lt (by omega),jc ho fun k hk _=>?_,hA2M⟩
   rw[qu] at hk
   exact Below.heap_setCell _ _ _ _ (by intro e;simp only at e;subst e;exact hA2M hk)
  ·rw[List.getElem?_set_ne (fun e=>hij e.symm)] at hi
   obtain⟨m1,m2,m3⟩:=h3 i l' hi
   simp only[hij,if_false]
   refine⟨by rw[Array.getElem?_setIfInBounds_ne (fun e=>hij e.symm)];exact m1,jc m2 fun k hk hl=>?_,m3⟩
   rw[qu] at hk
   rw[Below.heap_setCell _ _ _ _ (by intro e;simp only at e;subst e;exact m3 hk)]
   have hil:i<rows.length:=(List.getElem?_eq_some_iff.1 hi).1
   rw[hg.block k (Nat.lt_of_lt_of_le hl hg0.size) (by rw[qu];intro e;exact hij (h4 i j k hil hjl hk e.symm)),hg0.same k hl]
 ·rw[List.length_set] at hi hi'
  obtain⟨l1,e1⟩:∃ l1,rows[i]?=some l1:=⟨_,List.getElem?_eq_getElem hi⟩
  obtain⟨l1',e1'⟩:∃ l1,rows[i']?=some l1:=⟨_,List.getElem?_eq_getElem hi'⟩
  have hs0:=hg0.size
  by_cases hij:i=j
  ·by_cases hij':i'=j
   ·omega
   ·simp only[hij,hij',if_true,if_false] at e e'
    have hk:=hlow i' l1' e1' k e'
    rcases hat with x|x
    ·rw[x] at e
     exact absurd (h4 j i' k hjl hi' e e') (fun q=>hij' q.symm)
    ·rw[x] at e;injection e with e;omega
  ·by_cases hij':i'=j
   ·simp only[hij,hij',if_true,if_false] at e e'
    have hk:=hlow i l1 e1 k e
    rcases hat with x|x
    ·rw[x] at e'
     exact absurd (h4 j i k hjl hi e' e) (fun q=>hij q.symm)
    ·rw[x] at e';injection e' with e';omega
   ·simp only[hij,hij',if_false] at e e'
    exact h4 i i' k hi hi' e e'
theorem RowsAt.made {w:World} {M nh base:Nat} (h:w.heap[M]?=some (.cells (Array.replicate nh (.slice none 0 0)) 22 (0,0))):RowsAt w base M (List.replicate nh []):=by
 refine⟨_,fun _=>none,fun _=>0,h,by simp,fun j l hl=>?_,fun j j' k _ _ e=>by simp at e⟩
 rw[List.getElem?_replicate] at hl
 split at hl
 ·rename_i h1
  cases hl
  exact⟨by rw[Array.getElem?_replicate,if_pos h1];rfl,L.OwnInts.nil _ _,by simp⟩
 ·cases hl
end
section
theorem Jf (D:Good1):∀ (hs:List Haul1) (t:Nat),(zU D hs t).2.2=false→(zU D hs t).1.length=hs.length
 | [],t,_=>by simp[zU]
 | h::hs,t,hn=>by
  unfold zU at hn ⊢
  have key:∀ (l:List Nat) (best:Plan),(best.2.2=false→best.1.length=hs.length+1)→((l.foldl (tryN D h (zU D hs) t) best).2.2=false→(l.foldl (tryN D h (zU D hs) t) best).1.length=hs.length+1):=by
   intro l
   induction l with
   | nil=>exact fun b hb=>hb
   | cons x l ih =>
    intro b hb
    refine ih _ ?_
    unfold tryN
    split
    ·exact hb
    ·dsimp only
     split
     ·rename_i hc
      intro _
      simp only[Bool.and_eq_true,Bool.not_eq_true'] at hc
      have:=Jf D hs (after D h (t+x)).toNat hc.1
      simp only[List.length_cons]
      omega
     ·exact hb
  exact key _ _ (by simp) hn
def ldAt (j:Nat) (D:Good1):Int:=(((zg D).1.getD j 0:Nat):Int)
def jk (Ds:List Good1) (nh i h:Nat):List (List Int):=(List.range nh).map fun j=>(Ds.take (if j<h then i+1 else i)).map (ldAt j)
def jC (Ds:List Good1) (i:Nat):Nat:=((Ds.take i).map fun D=>(zg D).2.1).sum
theorem jM (Ds:List Good1) (nh i h:Nat):(jk Ds nh i h).length=nh:=by simp[jk]
theorem rowsTo_zero (Ds:List Good1) (nh:Nat):jk Ds nh 0 0=List.replicate nh []:=by
 unfold jk
 apply List.ext_getElem?
 intro j
 simp only[List.getElem?_map,List.getElem?_replicate]
 by_cases h:j<nh
 ·simp[h]
 ·simp[h]
theorem yU {Ds:List Good1} {nh i h j:Nat} (hj:j<nh):(jk Ds nh i h)[j]?=some ((Ds.take (if j<h then i+1 else i)).map (ldAt j)):=by
 simp[jk,hj]
theorem rowsTo_step {Ds:List Good1} {nh i h:Nat} {D:Good1} (hD:Ds[i]?=some D) (hh:h<nh):jk Ds nh i (h+1)=(jk Ds nh i h).set h (((Ds.take i).map (ldAt h))++[ldAt h D]):=by
 apply List.ext_getElem?
 intro j
 by_cases hj:j<nh
 ·rw[yU hj]
  by_cases e:j=h
  ·subst e
   rw[List.getElem?_set_self (by rw[jM];exact hj),if_pos (by omega),List.take_add_one,hD]
   simp
  ·rw[List.getElem?_set_ne (fun q=>e q.symm),yU hj]
   by_cases q:j<h
   ·rw[if_pos (by omega),if_pos q]
   ·rw[if_neg (by omega),if_neg q]
 ·rw[List.getElem?_eq_none (by rw[jM];omega),List.getElem?_eq_none (by rw[List.length_set,jM];omega)]
theorem rowsTo_full {Ds:List Good1} {nh i:Nat} : jk Ds nh i nh=jk Ds nh (i+1) 0:=by
 apply List.ext_getElem?
 intro j
 by_cases hj:j<nh
 ·rw[yU hj,yU hj,if_pos hj,if_neg (by omega)]
 ·rw[List.getElem?_eq_none (by rw[jM];omega),List.getElem?_eq_none (by rw[jM];omega)]
theorem costTo_zero (Ds:List Good1):jC Ds 0=0:=by simp[jC]
theorem YU {Ds:List Good1} {i:Nat} {D:Good1} (hD:Ds[i]?=some D):jC Ds (i+1)=jC Ds i+(zg D).2.1:=by
 unfold jC
 rw[List.take_add_one,hD]
 simp
theorem zck {Ds:List Good1} {B:Nat} (hc:∀ D∈Ds,(zg D).2.1≤B):∀ i,jC Ds i≤i*B
 | 0=>by simp[jC]
 | i+1=>by
  have ih:=zck hc i
  rw[Nat.succ_mul]
  cases hD:Ds[i]? with
  | none =>
   unfold jC at ih ⊢
   rw[List.take_add_one,hD]
   simp only[Option.toList_none,List.append_nil]
   omega
  | some D =>
   rw[YU hD]
   have:=hc D (List.mem_of_getElem? hD)
   omega
def AllAt (w:World) (nh:Nat) (Ds:List Good1) (v:Value):Prop:=
 (∃ D∈Ds,(zg D).2.2=true)∧v=.tuple #[.slice none 0 0,.int .i64 0,.bool false] ∨
 (∀ D∈Ds,(zg D).2.2=false)∧∃ M,v=.tuple #[.slice (some ⟨M,0,none⟩) (jk Ds nh Ds.length 0).length nh,.int .i64 (jC Ds Ds.length),.bool true]∧DishesAt w (some ⟨M,0,none⟩) (jk Ds nh Ds.length 0)
def PlansAt (w:World) (Ds:List Good1) (C ng i:Nat):Prop:=∃ arr:Array Value,w.heap[C]?=some (.cells arr 141 (0,0))∧arr.size=3*ng ∧
 ∀ j D,j<i→Ds[j]?=some D→∃ s m,arr[3*j]?=some (.slice s (zg D).1.length m)∧arr[3*j+1]?=some (.int .i64 (zg D).2.1)∧arr[3*j+2]?=some (.bool (zg D).2.2) ∧
  ∀ (k x:Nat),(zg D).1[k]?=some x→∃ b off,s=some ⟨b,off,none⟩∧b≠C∧w.cell? ⟨b,off+k,none⟩=some (.int .i64 x)
theorem LoadsAt.ints {w:World} {l:List Nat} {s:Option Addr} {m:Nat} (h:LoadsAt w l s m):∀ (k x:Nat),l[k]?=some x→∃ b off,s=some ⟨b,off,none⟩∧b<w.heap.size∧(∀ o,w.heap[b]?=some o→∃ cs,o=.cells cs 3 (0,0))∧w.cell? ⟨b,off+k,none⟩=some (.int .i64 x):=by
 intro k x hx
 rcases h with ⟨rfl,_,_⟩|⟨_,b,rfl,_,_,hb⟩
 ·simp at hx
 ·refine⟨b,0,rfl,zj hb,fun o ho=>?_,?_⟩
  ·rw[hb] at ho
   cases ho
   exact⟨_,rfl⟩
  ·rw[Nat.zero_add]
   exact (za hb k).trans (zbN hx)
theorem PlansAt.put {w w1:World} {Ds:List Good1} {C ng i:Nat} {D:Good1} {arr:Array Value} {s:Option Addr} {m:Nat} (h:PlansAt w Ds C ng i) (hC:w.heap[C]?=some (.cells arr 141 (0,0))) (hD:Ds[i]?=some D) (hi:i<ng) (ho:∀ b,b≠C→b<w.heap.size→w1.heap[b]?=w.heap[b]?)
  (hC1:w1.heap[C]?=some (.cells (put3 arr (3*i) (.slice s (zg D).1.length m) (.int .i64 (zg D).2.1) (.bool (zg D).2.2)) 141 (0,0)))
  (hs:∀ (k x:Nat),(zg D).1[k]?=some x→∃ b off,s=some ⟨b,off,none⟩∧b≠C∧w1.cell? ⟨b,off+k,none⟩=some (.int .i64 x)):PlansAt w1 Ds C ng (i+1):=by
 obtain⟨arr',h1,h2,h3⟩:=h
 rw[hC] at h1
 cases h1
 refine⟨_,hC1,by rw[QS];exact h2,fun j E hj hE=>?_⟩
 rcases Nat.lt_or_ge j i with hlt|hge
 ·obtain⟨s',m',k1,k2,k3,k4⟩:=h3 j E hlt hE
  refine⟨s',m',by rw[JN (.inl (by omega))];exact k1,by rw[JN (.inl (by omega))];exact k2,by rw[JN (.inl (by omega))];exact k3,fun k x hx=>?_⟩
  obtain⟨b,off,e1,e2,e3⟩:=k4 k x hx
  refine⟨b,off,e1,e2,?_⟩
  have hb:b<w.heap.size:=by
   unfold World.cell? at e3
   split at e3
   ·rename_i hx
    exact zj hx
   ·cases e3
  unfold World.cell? at e3 ⊢
  rw[show w1.heap[(⟨b,off+k,none⟩:Addr).block]?=w.heap[b]? from ho b e2 hb]
  exact e3
 ·obtain rfl:j=i:=by omega
  rw[hD] at hE
  cases hE
  refine⟨s,m,?_,?_,?_,hs⟩
  ·unfold put3
   rw[Array.getElem?_setIfInBounds_ne (by omega),Array.getElem?_setIfInBounds_ne (by omega),Array.getElem?_setIfInBounds_self_of_lt (by omega)]
  ·unfold put3
   rw[Array.getElem?_setIfInBounds_ne (by omega),Array.getElem?_setIfInBounds_self_of_lt (by simp;omega)]
  ·unfold put3
   rw[Array.getElem?_setIfInBounds_self_of_lt (by simp;omega)]
end
end Go.Gal
