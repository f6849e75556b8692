/- Own rows of records (goods, dishes, hauls, rows of loads): each record may hold an own row of numbers. Walks: KitchenOf: what it holds. -/
import Derived.Test.YtlgiofglcgbjgaaM37
namespace Go.Gal
open Go Go.Par Go.Proofs Go.RowKit
section
structure Ke (X:Nat→Prop) (w w':World):Prop where
 size:w.heap.size≤w'.heap.size
 same:∀ b,b<w.heap.size→¬ X b→w'.heap[b]?=w.heap[b]?
 os:w'.os=w.os
section
variable {X Y:Nat→Prop} {w w' w2:World}
theorem Ke.refl (w:World):Ke X w w:=⟨Nat.le_refl _,fun _ _ _=>rfl,rfl⟩
theorem Ke.trans (h:Ke X w w') (k:Ke X w' w2):Ke X w w2:=⟨Nat.le_trans h.size k.size,fun b hb hx=>(k.same b (Nat.lt_of_lt_of_le hb h.size) hx).trans (h.same b hb hx),k.os.trans h.os⟩
theorem Ke.grown (h:Ke X w w') (k:Grown w' w2):Ke X w w2:=h.trans ⟨k.size,fun b hb _=>k.same b hb,k.os⟩
theorem Ke.alloc (h:Ke X w w') (o:Obj):Ke X w (w'.alloc o):=h.grown (Grown.alloc w' o)
theorem Ke.drew (h:Ke X w w'):Ke X w w'.drew:=⟨h.size,h.same,h.os⟩
theorem Ke.step (h:Ke X w w') (hs:w'.heap.size≤w2.heap.size) (hb:∀ b,b<w.heap.size→¬ X b→w2.heap[b]?=w'.heap[b]?) (ho:w2.os=w'.os):Ke X w w2:=⟨Nat.le_trans h.size hs,fun b hb1 hx=>(hb b hb1 hx).trans (h.same b hb1 hx),ho.trans h.os⟩
theorem Ke.setCell (h:Ke X w w') {p:Addr} (hp:X p.block∨w.heap.size≤p.block) (u:Value):Ke X w (w'.setCell p u):=
 h.step (by simp[World.setCell]) (fun b hb hx=>Below.heap_setCell _ _ _ _ (by rintro rfl;rcases hp with q|q;exact hx q;omega)) rfl
theorem Ke.row {row:Option Nat} (h:Ke X w w') (hg:w'.grownBy w2 row) (hr:∀ k,row=some k→X k∨w.heap.size≤k):Ke X w w2:=
 h.step hg.size (fun b hb hx=>hg.block b (Nat.lt_of_lt_of_le hb h.size) (fun e=>by rcases hr b e.symm with q|q;exact hx q;omega)) hg.os
theorem Ke.bagged {g:Nat} (h:Ke X w w') (hB:Bagged g w' w2) (hg:X g∨w.heap.size≤g):Ke X w w2:=h.row hB.grown fun k e=>by injection e with e;subst e;exact hg
theorem Ke.block (h:Ke X w w') {b:Nat} {o:Obj} (hb:w.heap[b]?=some o) (hx:¬ X b):w'.heap[b]?=some o:=(h.same b (zj hb) hx).trans hb
end
structure Kb (g:Nat) (w w':World):Prop where
 bag:BagAt w' g
 ke:Ke (·=g) w w'
section
variable {g:Nat} {w w' w2:World}
theorem Kb.refl (h:BagAt w g):Kb g w w:=⟨h,Ke.refl _⟩
theorem Kb.trans (h:Kb g w w') (k:Kb g w' w2):Kb g w w2:=⟨k.bag,h.ke.trans k.ke⟩
theorem Kb.bagged (h:Kb g w w') (k:Bagged g w' w2):Kb g w w2:=⟨k.bag h.bag,h.ke.bagged k (.inl rfl)⟩
theorem Kb.grown (h:Kb g w w') (k:Grown w' w2):Kb g w w2:=⟨h.bag.of_block (k.same g h.bag.lt),h.ke.grown k⟩
theorem Kb.of_bagged (hb:BagAt w g) (k:Bagged g w w'):Kb g w w':=(Kb.refl hb).bagged k
theorem Kb.cell (h:Kb g w w') (hb:BagAt w g) {b o:Nat} {v:Value} (hc:w.cell? ⟨b,o,none⟩=some v) (hv:∀ s,v≠.int .u64 s):w'.cell? ⟨b,o,none⟩=some v:=by
 have hne:b≠g:=by
  rintro rfl
  obtain⟨s,hs⟩:=hb
  rw[za hs o] at hc
  rcases o with _|o
  ·cases hc;exact hv s rfl
  ·simp at hc
 exact (World.cell?_of_block (a:=⟨b,o,none⟩) (h.ke.same b (qw hc) hne)).trans hc
end
theorem Ints.kb {g:Nat} {w w':World} {A:Option Addr} {xs:List Int} (h:Ints w A xs) (k:Kb g w w') (hb:BagAt w g):Ints w' A xs:=fun i x hx=>by
 obtain⟨b,off,hA,hc⟩:=h i x hx
 exact⟨b,off,hA,k.cell hb hc (by simp)⟩
theorem DishesAt.kb {g:Nat} {w w':World} {A:Option Addr} {ds:List (List Int)} (h:DishesAt w A ds) (k:Kb g w w') (hb:BagAt w g):DishesAt w' A ds:=fun j x hx=>by
 obtain⟨b,off,h1,dA,dc,h2,h3,h4⟩:=h j x hx
 exact⟨b,off,h1,dA,dc,k.cell hb h2 (by simp),h3.kb k hb,h4⟩
theorem KtAt.kb {g:Nat} {w w':World} {K:Kt} {gA dA hA:Option Addr} (h:KtAt w K gA dA hA) (k:Kb g w w') (hb:BagAt w g):KtAt w' K gA dA hA:=by
 refine⟨fun j x hx=>?_,h.dishes.kb k hb,fun j x hx=>?_,h.ng,h.nd,h.nh⟩
 ·obtain⟨b,off,h1,h2,h3,h4,h5⟩:=h.goods j x hx
  exact⟨b,off,h1,k.cell hb h2 (by simp),k.cell hb h3 (by simp),k.cell hb h4 (by simp),k.cell hb h5 (by simp)⟩
 ·obtain⟨b,off,h1,pA,pc,h2,h3,h4,h5,h6⟩:=h.hauls j x hx
  exact⟨b,off,h1,pA,pc,k.cell hb h2 (by simp),k.cell hb h3 (by simp),k.cell hb h4 (by simp),h5.kb k hb,h6⟩
section
variable {α : Type}
def RecList (e size:Nat) (enc : α→Option Addr→Nat→List Value) (inn : α→List Int) (w:World) (base top:Nat) (A:Option Addr) (c:Nat) (xs:List α):Prop:=
 ∃ (cells:List Value) (As:Nat→Option Addr) (cs:Nat→Nat),w.ownsRow base e size (.slice A xs.length c) xs.length cells ∧
  (∀ (j:Nat) (x : α),xs[j]?=some x→(∀ (i:Nat) (v:Value),(enc x (As j) (cs j))[i]?=some v→cells[j*size+i]?=some v)∧L.OwnInts w base (As j) (cs j) (inn x)∧∀ k,(As j).map (·.block)=some k→k<top) ∧
  (∀ j j' k,j<xs.length→j'<xs.length→(As j).map (·.block)=some k→(As j').map (·.block)=some k→j=j')
variable {e size:Nat} {enc : α→Option Addr→Nat→List Value} {inn : α→List Int} {w w':World} {base top c:Nat} {A:Option Addr} {xs:List α}
theorem RecList.nil:RecList e size enc inn w base top none 0 []:=⟨[],fun _=>none,fun _=>0,⟨by simp,.inl ⟨rfl,rfl⟩⟩,fun j x h=>by simp at h,fun j j' k h=>by simp at h⟩
theorem RecList.up {top2:Nat} (h:RecList e size enc inn w base top A c xs) (ht:top≤top2):RecList e size enc inn w base top2 A c xs:=by
 obtain⟨cells,As,cs,h1,h2,h3⟩:=h
 exact⟨cells,As,cs,h1,fun j x hx=>⟨(h2 j x hx).1,(h2 j x hx).2.1,fun k hk=>Nat.lt_of_lt_of_le ((h2 j x hx).2.2 k hk) ht⟩,h3⟩
theorem yr {v:Value} {n:Nat} {ys:List Value} {k:Nat} (h:w.ownsRow base e size v n ys) (hk:v.ownBlock=some k):∃ cs,w.heap[k]?=some (.cells cs e (0,0)):=by
 rcases h.2 with ⟨rfl,_⟩|⟨b,cap,cur,rfl,hg2,hh,_⟩
 ·cases hk
 ·cases hk
  exact⟨_,hh⟩
theorem RecList.tag (h:RecList e size enc inn w base top A c xs) {k:Nat} (hk:(Value.slice A xs.length c).ownBlock=some k):(∃ cs,w.heap[k]?=some (.cells cs e (0,0)))∧base≤k∧k<w.heap.size:=by
 obtain⟨cells,As,cs,h1,h2,h3⟩:=h
 exact⟨yr h1 hk,zV h1 hk⟩
theorem RecList.keep (h:RecList e size enc inn w base top A c xs) (hk:∀ b cs t,base≤b→w.heap[b]?=some (.cells cs t (0,0))→(t=e∨t=3)→w'.heap[b]?=w.heap[b]?):RecList e size enc inn w' base top A c xs:=by
 obtain⟨cells,As,cs,h1,h2,h3⟩:=h
 refine⟨cells,As,cs,jc h1 fun k hb _=>?_,fun j x hx=>⟨(h2 j x hx).1,jc (h2 j x hx).2.1 fun k hb _=>?_,(h2 j x hx).2.2⟩,h3⟩
 ·obtain⟨cc,ht⟩:=yr h1 hb
  exact hk k cc e (zV h1 hb).1 ht (.inl rfl)
 ·obtain⟨cc,ht⟩:=yr (h2 j x hx).2.1 hb
  exact hk k cc 3 (zV (h2 j x hx).2.1 hb).1 ht (.inr rfl)
theorem RecList.grown (h:RecList e size enc inn w base top A c xs) (g:Grown w w'):RecList e size enc inn w' base top A c xs:=h.keep fun b _ _ _ hb _=>g.same b (zj hb)
theorem RecList.setCell (h:RecList e size enc inn w base top A c xs) {p:Addr} {cs:Array Value} {t:TypeId} (hp:w.heap[p.block]?=some (.cells cs t (0,0))) (h1:t≠e) (h2:t≠3) (u:Value):RecList e size enc inn (w.setCell p u) base top A c xs:=h.keep fun b cs' t' _ hc ht=>Below.heap_setCell _ _ _ _ (by
 rintro rfl
 rw[hp] at hc
 injection hc with hc
 injection hc with _ hc
 subst hc
 rcases ht with rfl|rfl
 ·exact h1 rfl
 ·exact h2 rfl)
theorem RecList.row {row:Option Nat} (h:RecList e size enc inn w base top A c xs) (hg:w.grownBy w' row) (hr:∀ k,row=some k→∃ cs t,w.heap[k]?=some (.cells cs t (0,0))∧t≠e∧t≠3):RecList e size enc inn w' base top A c xs:=h.keep fun b cs t _ hc ht=>hg.block b (zj hc) (by
 intro e1
 obtain⟨cs',t',h1,h2,h3⟩:=hr b e1.symm
 rw[h1] at hc
 injection hc with hc
 injection hc with _ hc
 subst hc
 rcases ht with rfl|rfl
 ·exact h2 rfl
 ·exact h3 rfl)
theorem RecList.at_ (h:RecList e size enc inn w base top A c xs) (_hs:∀ x B cc,(enc x B cc).length=size) {j:Nat} {x : α} (hj:xs[j]?=some x) :
  ∃ b B cc,A=some ⟨b,0,none⟩∧base≤b∧(∀ (i:Nat) (v:Value),(enc x B cc)[i]?=some v→w.cell? ⟨b,j*size+i,none⟩=some v)∧L.OwnInts w base B cc (inn x):=by
 obtain⟨cells,As,cs,h1,h2,h3⟩:=h
 have hjl:j<xs.length:=(List.getElem?_eq_some_iff.1 hj).1
 obtain⟨k1,k2,k3⟩:=h2 j x hj
 rcases h1.2 with ⟨_,q⟩|⟨g,cap,cur,q,hg,hh,hn,hm,hsz,htk⟩
 ·omega
 ·injection q with q _ _
  refine⟨g,As j,cs j,q,hg,fun i v hv=>?_,k2⟩
  have:=k1 i v hv
  rw[za hh,← Array.getElem?_toList]
  rw[← htk,List.getElem?_take] at this
  split at this
  ·exact this
  ·cases this
section
variable {P:Program}
theorem zae {o:Oper} {a:Act} {K:Act→World→Prop} {Q:Exit→Act→World→Prop} (s xo:Operand) (t:TypeId)
  (ho:o.op=.call { callee:=.builtin .append,args:=#[s,xo],argTypes:=#[t,t] }) (ht:P.underlying t=some (.slice e))
  (z:Value) (bytes:Nat) (hi:(P.info? e).map (fun i=>(i.zero,i.size,i.bytes))=some (some z,size,bytes)) (hzs:z.cells.size=size) (hsz : 0<size) (hbyt:bytes≤1000)
  (hs:a.eval s=.slice A xs.length c) (hR:RecList e size enc inn w base top A c xs) (nb c1:Nat) (hx:a.eval xo=.slice (some ⟨nb,0,none⟩) 1 c1) (x : α) (B:Option Addr) (c':Nat)
  (cx:Array Value) (tx:TypeId) (hnb:w.heap[nb]?=some (.cells cx tx (0,0))) (hcx:cx=(enc x B c').toArray) (henc:(enc x B c').length=size) (hone:∀ u∈enc x B c',u.oneCell'=true) (hB:L.OwnInts w base B c' (inn x)) (htop:∀ k,B.map (·.block)=some k→top≤k) (he:e≠3) (hlen:xs.length≤1000) (hbase:base≤w.heap.size) (htw:top≤w.heap.size)
  (h:∀ A2 c2 w',RecList e size enc inn w' base w'.heap.size A2 c2 (xs++[x])→w.grownBy w' (Value.slice A xs.length c).ownBlock→K (a.put o.dst (.slice A2 (xs.length+1) c2)) w'):o.wp P a w K Q:=by
 obtain⟨i,h1,h2,h3,h4⟩:=info_parts hi
 obtain⟨cells,As,cs,hrow,hcells,hinj⟩:=hR
 subst hcx
 have hb2:(xs.length+1)*bytes≤140737488355328:=Nat.le_trans (Nat.mul_le_mul (show xs.length+1≤1001 by omega) hbyt) (by decide)
 refine L.wp_append_any w s xo t ho base e i z size bytes ht h1 h2 h3 h4 hzs hsz (.slice A xs.length c) xs.length cells hs hrow (nb+1) _ 1 c1 (enc x B c') hx
  ⟨by omega,fun _=>⟨_,rfl,by show nb<nb+1;omega,fun j u hj=>by
   have:w.cell? ⟨nb,j,none⟩=some u:=by rw[za hnb j];simpa using hj
   unfold Addr.add
   split
   ·rename_i h0;subst h0;exact this
   ·simpa using this⟩⟩ hone (by simp only[maxLen];omega) hb2 hbase ?_
 intro v' w' hown' hg hat
 obtain⟨A2,c3,rfl⟩:=L.own_slice hown'
 rw[qu,qu] at hat
 have hk3:∀ {D:Option Addr} {cd:Nat} {l:List Int},L.OwnInts w base D cd l→L.OwnInts w' base D cd l:=fun {D cd l} hO=>jc hO fun k hk hl=>hg.block k hl (by
  intro e1
  obtain⟨c4,q1⟩:=yr hO hk
  obtain⟨c5,q2⟩:=yr hrow e1.symm
  rw[q1] at q2
  injection q2 with q2
  injection q2 with _ q2
  exact he q2.symm)
 have hclen:cells.length=xs.length*size:=hrow.1
 refine h A2 c3 w' ⟨cells++enc x B c',fun j=>if j=xs.length then B else As j,fun j=>if j=xs.length then c' else cs j,by rw[List.length_append];exact hown',fun j y hj=>?_,fun j j' k hj hj' e1 e2=>?_⟩ hg
 ·rcases Nat.lt_or_ge j xs.length with q|q
  ·rw[List.getElem?_append_left q] at hj
   have hne:j≠xs.length:=by omega
   simp only[hne,if_false]
   obtain⟨k1,k2,k3⟩:=hcells j y hj
   refine⟨fun i v hv=>?_,hk3 k2,fun k hk=>Nat.lt_of_lt_of_le (k3 k hk) (Nat.le_trans htw hg.size)⟩
   have:=k1 i v hv
   rw[List.getElem?_append_left (List.getElem?_eq_some_iff.1 this).1]
   exact this
  ·rw[List.getElem?_append_right q] at hj
   have hj0:j-xs.length=0:=by
    rcases hjj:j-xs.length with _|n
    ·rfl
    ·rw[hjj] at hj;simp at hj
   rw[hj0] at hj
   cases hj
   have hjx:j=xs.length:=by omega
   simp only[hjx,if_true]
   refine⟨fun i v hv=>?_,hk3 hB,fun k hk=>?_⟩
   ·rw[List.getElem?_append_right (by omega),show xs.length*size+i-cells.length=i by omega]
    exact hv
   ·exact Nat.lt_of_lt_of_le (zV hB (by rw[qu];exact hk)).2 hg.size
 ·rw[List.length_append] at hj hj'
  simp only[List.length_cons,List.length_nil] at hj hj'
  have low:∀ i k,i<xs.length→(As i).map (·.block)=some k→k<top:=fun i k hi hk=>(hcells i _ (List.getElem?_eq_getElem hi)).2.2 k hk
  by_cases q:j=xs.length
  ·by_cases q':j'=xs.length
   ·omega
   ·simp only[q,q',if_true,if_false] at e1 e2
    have:=htop k e1
    have:=low j' k (by omega) e2
    omega
  ·by_cases q':j'=xs.length
   ·simp only[q,q',if_true,if_false] at e1 e2
    have:=htop k e2
    have:=low j k (by omega) e1
    omega
   ·simp only[q,q',if_false] at e1 e2
    exact hinj j j' k (by omega) (by omega) e1 e2
theorem jR {ops:Array Oper} {rest:List Oper} {o:Oper} {a:Act} {Q:Exit→Act→World→Prop} (hgd:o.guard=none) (s xo:Operand) (t:TypeId)
  (ho:o.op=.call { callee:=.builtin .append,args:=#[s,xo],argTypes:=#[t,t] }) (ht:P.underlying t=some (.slice e))
  (z:Value) (bytes:Nat) (hi:(P.info? e).map (fun i=>(i.zero,i.size,i.bytes))=some (some z,size,bytes)) (hzs:z.cells.size=size) (hsz : 0<size) (hbyt:bytes≤1000)
  (hs:a.eval s=.slice A xs.length c) (hR:RecList e size enc inn w base top A c xs) (nb c1:Nat) (hx:a.eval xo=.slice (some ⟨nb,0,none⟩) 1 c1) (x : α) (B:Option Addr) (c':Nat)
  (cx:Array Value) (tx:TypeId) (hnb:w.heap[nb]?=some (.cells cx tx (0,0))) (hcx:cx=(enc x B c').toArray) (henc:(enc x B c').length=size) (hone:∀ u∈enc x B c',u.oneCell'=true) (hB:L.OwnInts w base B c' (inn x)) (htop:∀ k,B.map (·.block)=some k→top≤k) (he:e≠3) (hlen:xs.length≤1000) (hbase:base≤w.heap.size) (htw:top≤w.heap.size)
  (h:∀ A2 c2 w',RecList e size enc inn w' base w'.heap.size A2 c2 (xs++[x])→w.grownBy w' (Value.slice A xs.length c).ownBlock→wpList P ops Q rest (a.put o.dst (.slice A2 (xs.length+1) c2)) w'):wpList P ops Q (o::rest) a w:=
 wpList_plain hgd fun _ hK=>zae s xo t ho ht z bytes hi hzs hsz hbyt hs hR nb c1 hx x B c' cx tx hnb hcx henc hone hB htop he hlen hbase htw fun A2 c2 w' h1 h2=>hK _ _ (h A2 c2 w' h1 h2)
end
end
theorem Qq {P:Program} {w:World} {o:Oper} {a:Act} {K:Act→World→Prop} {Q:Exit→Act→World→Prop} (s x:Operand) (t:TypeId)
  (ho:o.op=.call { callee:=.builtin .append,args:=#[s,x],argTypes:=#[t,t] })
  (base:Nat) (ht:P.underlying t=some (.slice 3)) (hi:(P.info? 3).map (fun i=>(i.zero,i.size,i.bytes))=some (some (.int .i64 0),1,8))
  (A:Option Addr) (c:Nat) (xs:List Int) (hs:a.eval s=.slice A xs.length c) (hown:L.OwnInts w base A c xs)
  (B:Nat) (A':Option Addr) (c':Nat) (ys:List Int) (hx:a.eval x=.slice A' ys.length c') (hr:L.Ints w B A' ys)
  (hlen:(xs.length+ys.length)*8≤140737488355328) (hbase:base≤w.heap.size)
  (h:∀ A2 c2 w',L.OwnInts w' base A2 c2 (xs++ys)→w.grownBy w' (Value.slice A xs.length c).ownBlock→(A2.map (·.block)=A.map (·.block)∨A2.map (·.block)=some w.heap.size) →
   K (a.put o.dst (.slice A2 (xs++ys).length c2)) w'):o.wp P a w K Q:=by
 obtain⟨i,h1,h2,h3,h4⟩:=info_parts hi
 refine L.wp_append_any w s x t ho base 3 i (.int .i64 0) 1 8 ht h1 h2 h3 h4 rfl (by omega) (.slice A xs.length c) xs.length (xs.map (Value.int .i64)) hs hown B A' ys.length c' (ys.map (Value.int .i64)) hx hr.reads
  (fun u hu=>by simp at hu;obtain⟨n,_,rfl⟩:=hu;rfl) (by simp only[maxLen];omega) (by omega) hbase ?_
 intro v' w' hown' hg hat
 obtain⟨A2,c2,rfl⟩:=L.own_slice hown'
 rw[← List.map_append] at hown'
 have hl:xs.length+ys.length=(xs++ys).length:=by simp
 rw[hl] at hown' ⊢
 refine h A2 c2 w' hown' hg ?_
 rwa [L.ownBlock_slice,L.ownBlock_slice] at hat
def encG (g:Gd) (_:Option Addr) (_:Nat):List Value:=[.int .i64 g.room,.int .i64 g.reserve,.int .i64 g.melts,.int .i64 g.start]
def innG (_:Gd):List Int:=[]
def encD (d:List Int) (B:Option Addr) (c:Nat):List Value:=[.slice B d.length c]
def innD (d:List Int):List Int:=d
def encH (h:Hl) (B:Option Addr) (c:Nat):List Value:=[.int .i64 h.hours,.int .i64 h.covers,.slice B h.prices.length c]
def innH (h:Hl):List Int:=h.prices
abbrev GdList:=RecList 42 4 encG innG
abbrev DsList:=RecList 48 1 encD innD
abbrev HlList:=RecList 46 3 encH innH
abbrev zeM:=RecList 22 1 encD innD
theorem GdList.at_ {w:World} {base top c:Nat} {A:Option Addr} {gs:List Gd} (h:GdList w base top A c gs):GdsAt w A gs:=fun j g hj=>by
 obtain⟨b,B,cc,h1,_,h2,_⟩:=RecList.at_ h (fun _ _ _=>rfl) hj
 refine⟨b,0,h1,?_⟩
 rw[Nat.zero_add]
 exact⟨h2 0 _ rfl,h2 1 _ rfl,h2 2 _ rfl,h2 3 _ rfl⟩
theorem DsList.at_ {w:World} {base top c e:Nat} {A:Option Addr} {ds:List (List Int)} (h:RecList e 1 encD innD w base top A c ds) (hl:∀ d∈ds,d.length≤1000):DishesAt w A ds:=fun j d hj=>by
 obtain⟨b,B,cc,h1,_,h2,h3⟩:=RecList.at_ h (fun _ _ _=>rfl) hj
 have:=h2 0 _ rfl
 refine⟨b,0,h1,B,cc,?_,yC h3,hl d (List.mem_of_getElem? hj)⟩
 rw[Nat.zero_add]
 simpa using this
theorem HlList.at_ {w:World} {base top c:Nat} {A:Option Addr} {hs:List Hl} (h:HlList w base top A c hs) (hl:∀ d∈hs,d.prices.length≤1000):HlsAt w A hs:=fun j d hj=>by
 obtain⟨b,B,cc,h1,_,h2,h3⟩:=RecList.at_ h (fun _ _ _=>rfl) hj
 refine⟨b,0,h1,B,cc,?_⟩
 rw[Nat.zero_add]
 exact⟨h2 0 _ rfl,h2 1 _ rfl,h2 2 _ rfl,yC h3,hl d (List.mem_of_getElem? hj)⟩
end
section
theorem inf48:(Try.prog.info? 48).map (fun i=>(i.zero,i.size,i.bytes))=some (some (.agg #[.slice none 0 0]),1,24):=by kernel_rfl
structure KSt (g:Nat) (w wr:World) (tp:Nat) (gs:List Gd) (gA:Option Addr) (gc:Nat) (ds:List (List Int)) (dA:Option Addr) (dc:Nat) (hs:List Hl) (hA:Option Addr) (hc:Nat):Prop where
 box:wr.heap[w.heap.size+1]?=some (.cells #[.slice gA gs.length gc,.slice dA ds.length dc,.slice hA hs.length hc] 29 (0,0))
 res:wr.heap[w.heap.size]?=some (.cells #[.slice none 0 0,.slice none 0 0,.slice none 0 0] 29 (0,0))
 r1:GdList wr (w.heap.size+2) tp gA gc gs
 r2:DsList wr (w.heap.size+2) tp dA dc ds
 r3:HlList wr (w.heap.size+2) tp hA hc hs
 kb:Kb g w wr
 big:w.heap.size+2≤wr.heap.size
 top:tp≤wr.heap.size
section
variable {g tp:Nat} {w wr w2:World} {gs:List Gd} {gA:Option Addr} {gc:Nat} {ds:List (List Int)} {dA:Option Addr} {dc:Nat} {hs:List Hl} {hA:Option Addr} {hc:Nat}
theorem zev {W:World} {b b':Nat} {cs cs':Array Value} {t t':TypeId} (h:W.heap[b]?=some (.cells cs t (0,0))) (h':W.heap[b']?=some (.cells cs' t' (0,0))) (ht:t≠t'):b≠b':=by
 rintro rfl
 rw[h] at h'
 injection h' with h'
 injection h' with _ h'
 exact ht h'
theorem BagAt.tag {W:World} {b:Nat} {cs:Array Value} {t:TypeId} (h:BagAt W g) (hb:W.heap[b]?=some (.cells cs t (0,0))) (ht:t≠91):b≠g:=by
 obtain⟨s,h⟩:=h
 exact zev hb h ht
theorem RecList.kb {α : Type} {e size:Nat} {enc : α→Option Addr→Nat→List Value} {inn : α→List Int} {base top c:Nat} {A:Option Addr} {xs:List α} (h:RecList e size enc inn w base top A c xs) (hb:BagAt w g) (he:e≠91) (k:Kb g w w2):RecList e size enc inn w2 base top A c xs:=
 h.keep fun b cs t _ hc ht=>k.ke.same b (zj hc) (hb.tag hc (by rcases ht with rfl|rfl;exact he;decide))
theorem KSt.to (h:KSt g w wr tp gs gA gc ds dA dc hs hA hc) (k:Kb g wr w2):KSt g w w2 tp gs gA gc ds dA dc hs hA hc:=by
 have hb:=h.kb.bag
 have hs:=k.ke.size
 have hbig:=h.big
 have htop:=h.top
 exact⟨(k.ke.same _ (zj h.box) (hb.tag h.box (by decide))).trans h.box,(k.ke.same _ (zj h.res) (hb.tag h.res (by decide))).trans h.res,h.r1.kb hb (by decide) k,h.r2.kb hb (by decide) k,h.r3.kb hb (by decide) k,h.kb.trans k,by omega,by omega⟩
theorem KSt.putBox {i:Nat} {v:Value} {row:Option Nat} {W:World} (h:KSt g w wr tp gs gA gc ds dA dc hs hA hc) (hg:g<w.heap.size) (hgr:wr.grownBy W row) (hr:∀ k,row=some k→∃ cs t,wr.heap[k]?=some (.cells cs t (0,0))∧t≠29∧t≠91∧w.heap.size+2≤k) :
  W.heap[w.heap.size+1]?=some (.cells #[.slice gA gs.length gc,.slice dA ds.length dc,.slice hA hs.length hc] 29 (0,0)) ∧
  (W.setCell ⟨w.heap.size+1,i,none⟩ v).heap[w.heap.size+1]?=some (.cells (#[.slice gA gs.length gc,.slice dA ds.length dc,.slice hA hs.length hc].setIfInBounds i v) 29 (0,0)) ∧
  (W.setCell ⟨w.heap.size+1,i,none⟩ v).heap[w.heap.size]?=some (.cells #[.slice none 0 0,.slice none 0 0,.slice none 0 0] 29 (0,0))∧Kb g w (W.setCell ⟨w.heap.size+1,i,none⟩ v)∧w.heap.size+2≤(W.setCell ⟨w.heap.size+1,i,none⟩ v).heap.size∧wr.heap.size≤W.heap.size:=by
 have hs:=hgr.size
 have hbig:=h.big
 have hne:∀ b,b<w.heap.size+2→some b≠row:=fun b hb e=>by
  obtain⟨_,_,_,_,_,h5⟩:=hr b e.symm
  omega
 have b1:W.heap[w.heap.size+1]?=_:=(hgr.block _ (by omega) (hne _ (by omega))).trans h.box
 have b0:W.heap[w.heap.size]?=_:=(hgr.block _ (by omega) (hne _ (by omega))).trans h.res
 have bb:BagAt W g:=h.kb.bag.of_block (hgr.block _ h.kb.bag.lt (hne _ (by omega)))
 refine⟨b1,zR b1 _,?_,⟨bb.setCell (by simp;omega) _,(h.kb.ke.row hgr fun k hk=>?_).setCell (.inr (by simp)) _⟩,by simp[World.setCell];omega,hs⟩
 ·rw[Below.heap_setCell _ _ _ _ (by simp)];exact b0
 ·obtain⟨_,_,_,_,_,h5⟩:=hr k hk
  exact .inr (by omega)
theorem KSt.rowTag {e size:Nat} {α : Type} {enc : α→Option Addr→Nat→List Value} {inn : α→List Int} {base top c:Nat} {A:Option Addr} {xs:List α} (h:RecList e size enc inn wr base top A c xs) (h1:e≠29) (h2:e≠91):∀ k,(Value.slice A xs.length c).ownBlock=some k→∃ cs t,wr.heap[k]?=some (.cells cs t (0,0))∧t≠29∧t≠91∧base≤k:=fun k hk=>by
 obtain⟨⟨cs,q⟩,q2,_⟩:=h.tag hk
 exact⟨cs,e,q,h1,h2,q2⟩
theorem RecList.other {e size:Nat} {α : Type} {enc : α→Option Addr→Nat→List Value} {inn : α→List Int} {base top c:Nat} {A:Option Addr} {xs:List α} {row:Option Nat} {W:World} {e':Nat} (h:RecList e size enc inn wr base top A c xs) (hg:wr.grownBy W row) (hr:∀ k,row=some k→∃ cs,wr.heap[k]?=some (.cells cs e' (0,0))) (h1:e'≠e) (h2:e'≠3):RecList e size enc inn W base top A c xs:=
 h.row hg fun k hk=>by
  obtain⟨cs,q⟩:=hr k hk
  exact⟨cs,e',q,h1,h2⟩
theorem RecList.box {e size:Nat} {α : Type} {enc : α→Option Addr→Nat→List Value} {inn : α→List Int} {base top c:Nat} {A:Option Addr} {xs:List α} {W:World} {p:Addr} {cs:Array Value} (h:RecList e size enc inn W base top A c xs) (hp:W.heap[p.block]?=some (.cells cs 29 (0,0))) (h1:e≠29) (u:Value):RecList e size enc inn (W.setCell p u) base top A c xs:=
 h.setCell hp (fun q=>h1 q.symm) (by decide) u
theorem KSt.put1 {x:Gd} {A2:Option Addr} {c2:Nat} {W:World} (h:KSt g w wr tp gs gA gc ds dA dc hs hA hc) (hg:g<w.heap.size) (hR:GdList W (w.heap.size+2) W.heap.size A2 c2 (gs++[x])) (hgr:wr.grownBy W (Value.slice gA gs.length gc).ownBlock) :
  (W.cell? ⟨w.heap.size+1,0,none⟩=some (.slice gA gs.length gc)∧W.frozen? ⟨w.heap.size+1,0,none⟩=false) ∧
  KSt g w (W.setCell ⟨w.heap.size+1,0,none⟩ (.slice A2 (gs.length+1) c2)) W.heap.size (gs++[x]) A2 c2 ds dA dc hs hA hc:=by
 obtain⟨k1,k2,k3,k4,k5,k6⟩:=h.putBox (i:=0) (v:=.slice A2 (gs.length+1) c2) hg hgr (KSt.rowTag h.r1 (by decide) (by decide))
 have ht:=h.top
 have hz:(W.setCell ⟨w.heap.size+1,0,none⟩ (.slice A2 (gs.length+1) c2)).heap.size=W.heap.size:=by simp[World.setCell]
 refine⟨⟨za k1 0,zk k1 0⟩,by rw[List.length_append];exact k2,k3,hR.box k1 (by decide) _,?_,?_,k4,k5,by omega⟩
 ·exact ((h.r2.other hgr (fun k hk=>(h.r1.tag hk).1) (by decide) (by decide)).box k1 (by decide) _).up (by omega)
 ·exact ((h.r3.other hgr (fun k hk=>(h.r1.tag hk).1) (by decide) (by decide)).box k1 (by decide) _).up (by omega)
theorem KSt.put2 {x:List Int} {A2:Option Addr} {c2:Nat} {W:World} (h:KSt g w wr tp gs gA gc ds dA dc hs hA hc) (hg:g<w.heap.size) (hR:DsList W (w.heap.size+2) W.heap.size A2 c2 (ds++[x])) (hgr:wr.grownBy W (Value.slice dA ds.length dc).ownBlock) :
  (W.cell? ⟨w.heap.size+1,1,none⟩=some (.slice dA ds.length dc)∧W.frozen? ⟨w.heap.size+1,1,none⟩=false) ∧
  KSt g w (W.setCell ⟨w.heap.size+1,1,none⟩ (.slice A2 (ds.length+1) c2)) W.heap.size gs gA gc (ds++[x]) A2 c2 hs hA hc:=by
 obtain⟨k1,k2,k3,k4,k5,k6⟩:=h.putBox (i:=1) (v:=.slice A2 (ds.length+1) c2) hg hgr (KSt.rowTag h.r2 (by decide) (by decide))
 have ht:=h.top
 have hz:(W.setCell ⟨w.heap.size+1,1,none⟩ (.slice A2 (ds.length+1) c2)).heap.size=W.heap.size:=by simp[World.setCell]
 refine⟨⟨za k1 1,zk k1 1⟩,by rw[List.length_append];exact k2,k3,?_,hR.box k1 (by decide) _,?_,k4,k5,by omega⟩
 ·exact ((h.r1.other hgr (fun k hk=>(h.r2.tag hk).1) (by decide) (by decide)).box k1 (by decide) _).up (by omega)
 ·exact ((h.r3.other hgr (fun k hk=>(h.r2.tag hk).1) (by decide) (by decide)).box k1 (by decide) _).up (by omega)
theorem KSt.put3 {x:Hl} {A2:Option Addr} {c2:Nat} {W:World} (h:KSt g w wr tp gs gA gc ds dA dc hs hA hc) (hg:g<w.heap.size) (hR:HlList W (w.heap.size+2) W.heap.size A2 c2 (hs++[x])) (hgr:wr.grownBy W (Value.slice hA hs.length hc).ownBlock) :
  (W.cell? ⟨w.heap.size+1,2,none⟩=some (.slice hA hs.length hc)∧W.frozen? ⟨w.heap.size+1,2,none⟩=false) ∧
  KSt g w (W.setCell ⟨w.heap.size+1,2,none⟩ (.slice A2 (hs.length+1) c2)) W.heap.size gs gA gc ds dA dc (hs++[x]) A2 c2:=by
 obtain⟨k1,k2,k3,k4,k5,k6⟩:=h.putBox (i:=2) (v:=.slice A2 (hs.length+1) c2) hg hgr (KSt.rowTag h.r3 (by decide) (by decide))
 have ht:=h.top
 have hz:(W.setCell ⟨w.heap.size+1,2,none⟩ (.slice A2 (hs.length+1) c2)).heap.size=W.heap.size:=by simp[World.setCell]
 refine⟨⟨za k1 2,zk k1 2⟩,by rw[List.length_append];exact k2,k3,?_,?_,hR.box k1 (by decide) _,k4,k5,by omega⟩
 ·exact ((h.r1.other hgr (fun k hk=>(h.r3.tag hk).1) (by decide) (by decide)).box k1 (by decide) _).up (by omega)
 ·exact ((h.r2.other hgr (fun k hk=>(h.r3.tag hk).1) (by decide) (by decide)).box k1 (by decide) _).up (by omega)
theorem KSt.facts (h:KSt g w wr tp gs gA gc ds dA dc hs hA hc) :
  (wr.cell? ⟨w.heap.size+1,0,none⟩=some (.slice gA gs.length gc)∧wr.cell? ⟨w.heap.size+1,1,none⟩=some (.slice dA ds.length dc)∧wr.cell? ⟨w.heap.size+1,2,none⟩=some (.slice hA hs.length hc)) ∧
  (wr.cell? ⟨w.heap.size,0,none⟩=some (.slice none 0 0)∧wr.cell? ⟨w.heap.size,1,none⟩=some (.slice none 0 0)∧wr.cell? ⟨w.heap.size,2,none⟩=some (.slice none 0 0)) ∧
  wr.frozen? ⟨w.heap.size,0,none⟩=false∧wr.frozen? ⟨w.heap.size,1,none⟩=false∧wr.frozen? ⟨w.heap.size,2,none⟩=false:=
 ⟨⟨za h.box 0,za h.box 1,za h.box 2⟩,⟨za h.res 0,za h.res 1,za h.res 2⟩,zk h.res 0,zk h.res 1,zk h.res 2⟩
end
structure GdOk (room:Int) (x:Gd):Prop where
 room : 1≤x.room∧x.room≤room
 reserve : 0≤x.reserve∧x.reserve≤x.room
 melts : 0≤x.melts∧x.melts≤6
 start : 0≤x.start∧x.start≤x.room
def DsOk (ng:Nat) (d:List Int):Prop:=d.length=ng∧∀ x∈d,0≤x∧x≤3
structure HlOk (ng:Nat) (x:Hl):Prop where
 hours : 0≤x.hours∧x.hours≤10
 covers : 0≤x.covers∧x.covers≤9
 len:x.prices.length=ng
 prices:∀ y∈x.prices,0≤y∧y≤9
end
end Go.Gal
