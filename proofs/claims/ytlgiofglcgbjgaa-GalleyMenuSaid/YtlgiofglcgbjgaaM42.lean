/- Plain: all menus, as the recursion of the reference's Menus has them. Rows of rows of numbers, told by the tags of their blocks: what an append in place does not touch. -/
import Derived.Test.YtlgiofglcgbjgaaM39
namespace Go.Gal
section
theorem flat_congr {α β : Type} {f g : α→List β} : ∀ {l:List α},(∀ x∈l,f x=g x)→l.flatMap f=l.flatMap g
 | [],_=>rfl
 | x::l,h=>by
  rw[List.flatMap_cons,List.flatMap_cons,h x (by simp),flat_congr fun y hy=>h y (by simp[hy])]
def lexAll (nd:Nat):Nat→List (List Int)
 | 0=>[[]]
 | r+1=>(List.range nd).flatMap fun (d:Nat)=>(lexAll nd r).map ((d:Int)::·)
def lexOver (nd x r:Nat):List (List Int):=(List.range' (x+1) (nd-(x+1))).flatMap fun (d:Nat)=>(lexAll nd r).map ((d:Int)::·)
def lexFrom (nd:Nat):List Int→List (List Int)
 | []=>[[]]
 | x::l=>(lexFrom nd l).map (x::·)++lexOver nd x.toNat l.length
theorem lexAll_len (nd:Nat):∀ r,(lexAll nd r).length=nd ^ r
 | 0=>rfl
 | r+1=>by
  unfold lexAll
  simp only[List.length_flatMap,List.length_map,lexAll_len nd r]
  rw[List.map_const',List.sum_replicate_nat,List.length_range,Nat.pow_succ,Nat.mul_comm]
theorem lexOver_step {nd x r:Nat} (h:x+1<nd):lexOver nd x r=(lexAll nd r).map (((x+1:Nat):Int)::·)++lexOver nd (x+1) r:=by
 unfold lexOver
 rw[show nd-(x+1)=(nd-(x+1+1))+1 by omega,List.range'_succ,List.flatMap_cons]
theorem lexOver_none {nd x r:Nat} (h:nd≤x+1):lexOver nd x r=[]:=by
 unfold lexOver
 rw[show nd-(x+1)=0 by omega]
 rfl
theorem lexFrom_zero {nd:Nat} (h1 : 1≤nd):∀ n,lexFrom nd (List.replicate n 0)=lexAll nd n
 | 0=>rfl
 | n+1=>by
  rw[List.replicate_succ]
  unfold lexFrom lexAll
  rw[lexFrom_zero h1 n,List.length_replicate]
  unfold lexOver
  have e:List.range nd=0::List.range' 1 (nd-1):=by
   rw[List.range_eq_range',show nd=(nd-1)+1 by omega,List.range'_succ]
   simp
  rw[e,List.flatMap_cons]
  rfl
theorem lexFrom_next {nd:Nat} (h1 : 1≤nd):∀ {l:List Int},digits nd l→lexFrom nd l=l::(match bump nd l with|none=>[]|some ys=>lexFrom nd ys)
 | [],_=>rfl
 | x::l,h=>by
  have hx:=h x (by simp)
  have hl:digits nd l:=fun y hy=>h y (by simp[hy])
  have ih:=lexFrom_next h1 hl
  unfold bump
  cases hb:bump (nd:Int) l with
  | some m =>
   rw[hb] at ih
   simp only at ih ⊢
   rw[lexFrom,ih,lexFrom,bump_len hb]
   rfl
  | none =>
   rw[hb] at ih
   simp only at ih ⊢
   rw[lexFrom,ih]
   by_cases hxn:x=(nd:Int)-1
   ·rw[if_pos hxn,lexOver_none (by omega)]
    rfl
   ·rw[if_neg hxn,lexOver_step (by omega)]
    simp only
    rw[lexFrom,lexFrom_zero h1,List.length_replicate]
    have e1:((x.toNat+1:Nat):Int)=x+1:=by omega
    have e2:(x+1).toNat=x.toNat+1:=by omega
    rw[e1,e2]
    rfl
theorem visit_lex {nd:Nat} (h1 : 1≤nd):∀ {f:Nat} {l:List Int},digits nd l→(lexFrom nd l).length≤f→visit nd f l=(lexFrom nd l).filter fun ys=>decide (qf nd none ys=0)
 | 0,l,h,hf=>by
  rw[lexFrom_next h1 h] at hf
  simp at hf
 | f+1,l,h,hf=>by
  rw[lexFrom_next h1 h] at hf ⊢
  unfold visit
  have e:∀ r:List (List Int),(l::r).filter (fun ys=>decide (qf nd none ys=0))=(if qf nd none l=0 then [l] else [])++r.filter fun ys=>decide (qf nd none ys=0):=by
   intro r
   rw[List.filter_cons]
   by_cases q:qf nd none l=0
   ·simp[q]
   ·simp[q]
  rw[e]
  congr 1
  cases hb:bump (nd:Int) l with
  | none=>rfl
  | some ys =>
   rw[hb] at hf
   simp only at hf ⊢
   exact visit_lex h1 (bump_dig h hb) (by simpa using hf)
def menusTo (nd:Nat) (p:Option Int) (r:Nat):List (List Int):=(lexAll nd r).filter fun ys=>decide (qf nd p ys=0)
theorem allMenus_eq {nd:Nat} (h1 : 1≤nd) (nh:Nat):zw nd nh=menusTo nd none nh:=by
 unfold zw menusTo
 rw[visit_lex h1 (fun x hx=>by have:=List.eq_of_mem_replicate hx;subst this;omega) (by rw[lexFrom_zero h1,lexAll_len];exact Nat.le_refl _),lexFrom_zero h1]
theorem menusTo_zero (nd:Nat) (p:Option Int):menusTo nd p 0=[[]]:=rfl
theorem menusTo_succ (nd:Nat) (p:Option Int) (r:Nat):menusTo nd p (r+1)=(List.range nd).flatMap fun (d:Nat)=>if p=some (d:Int) then [] else (menusTo nd (some (d:Int)) r).map ((d:Int)::·):=by
 unfold menusTo
 rw[lexAll,List.filter_flatMap]
 refine flat_congr fun d hd=>?_
 have hd':d<nd:=by simpa using hd
 rw[List.filter_map]
 have ho:outB (d:Int) 0 ((nd:Int)-1)=false:=by
  unfold outB
  simp
  omega
 by_cases hp:p=some (d:Int)
 ·rw[if_pos hp]
  have:∀ ys,((fun ys=>decide (qf (nd:Int) p ys=0))∘fun x=>(d:Int)::x) ys=false:=by
   intro ys
   simp only[Function.comp,qf,ho,hp]
   simp
  rw[show ((fun ys=>decide (qf (nd:Int) p ys=0))∘fun x=>(d:Int)::x)=fun _=>false from funext this]
  simp
 ·rw[if_neg hp]
  have:∀ ys,((fun ys=>decide (qf (nd:Int) p ys=0))∘fun x=>(d:Int)::x) ys=decide (qf (nd:Int) (some (d:Int)) ys=0):=by
   intro ys
   simp only[Function.comp,qf,ho]
   rw[if_neg (by simp),if_neg hp]
  rw[show ((fun ys=>decide (qf (nd:Int) p ys=0))∘fun x=>(d:Int)::x)=fun ys=>decide (qf (nd:Int) (some (d:Int)) ys=0) from funext this]
def qy (nd nh:Nat) (b:List Int):List (List Int):=(menusTo nd b.getLast? (nh-b.length)).map (b++·)
theorem menusOn_full {nd nh:Nat} {b:List Int} (h:b.length=nh):qy nd nh b=[b]:=by
 unfold qy
 rw[h,Nat.sub_self,menusTo_zero]
 simp
def menusDish (nd nh:Nat) (b:List Int) (d:Nat):List (List Int):=if b.getLast?=some (d:Int) then [] else qy nd nh (b++[(d:Int)])
theorem menusOn_step {nd nh:Nat} {b:List Int} (h:b.length<nh):qy nd nh b=(List.range nd).flatMap (menusDish nd nh b):=by
 unfold qy menusDish
 rw[show nh-b.length=(nh-(b.length+1))+1 by omega,menusTo_succ,List.map_flatMap]
 refine flat_congr fun d _=>?_
 split
 ·rfl
 ·unfold qy
  rw[List.getLast?_append]
  simp[List.map_map,Function.comp]
theorem menusOn_nil {nd nh:Nat} (h1 : 1≤nd):qy nd nh []=zw nd nh:=by
 unfold qy
 rw[allMenus_eq h1]
 simp
theorem menusTo_len {nd:Nat} {p:Option Int} {r:Nat} : ∀ l∈menusTo nd p r,l.length=r:=by
 induction r generalizing p with
 | zero=>intro l hl;rw[menusTo_zero] at hl;simp at hl;rw[hl];rfl
 | succ r ih =>
  intro l hl
  rw[menusTo_succ] at hl
  obtain⟨d,_,hd⟩:=List.mem_flatMap.1 hl
  split at hd
  ·cases hd
  ·obtain⟨x,hx,rfl⟩:=List.mem_map.1 hd
   simp[ih _ hx]
theorem menusTo_count {nd:Nat} {p:Option Int} {r:Nat} : (menusTo nd p r).length≤nd ^ r:=by
 unfold menusTo
 exact Nat.le_trans (List.length_filter_le ..) (Nat.le_of_eq (lexAll_len nd r))
end
section
open Go Go.Par Go.Proofs Go.RowKit
def TagAt (w:World) (A:Option Addr) (t:TypeId):Prop:=∀ k,A.map (·.block)=some k→∃ cs,w.heap[k]?=some (.cells cs t (0,0))
def Tags (T:TypeId→Prop) (w w':World):Prop:=∀ (b:Nat) (cs:Array Value) (t:TypeId),w.heap[b]?=some (.cells cs t (0,0))→T t→w'.heap[b]?=w.heap[b]?
theorem Tags.of_grown {T:TypeId→Prop} {w w':World} (g:Grown w w'):Tags T w w':=fun b _ _ h _=>g.same b (zg h)
theorem Tags.of_row {T:TypeId→Prop} {w w':World} {row:Option Nat} (g:w.grownBy w' row) (hr:∀ k,row=some k→∃ cs t,w.heap[k]?=some (.cells cs t (0,0))∧¬ T t):Tags T w w':=fun b cs t h ht=>g.block b (zg h) fun e=>by
 obtain⟨cs',t',h1,h2⟩:=hr b e.symm
 rw[h] at h1
 cases h1
 exact h2 ht
theorem TagAt.keep {T:TypeId→Prop} {w w':World} {A:Option Addr} {t:TypeId} (h:TagAt w A t) (hT:T t) (k:Tags T w w'):TagAt w' A t:=fun b hb=>by
 obtain⟨cs,hc⟩:=h b hb
 exact⟨cs,(k b cs t hc hT).trans hc⟩
def IntsT (w:World) (A:Option Addr) (xs:List Int):Prop:=Ints w A xs∧TagAt w A 3
theorem IntsT.keep {T:TypeId→Prop} {w w':World} {A:Option Addr} {xs:List Int} (h:IntsT w A xs) (hT:T 3) (k:Tags T w w'):IntsT w' A xs:=⟨fun i x hx=>by
 obtain⟨b,off,e,hc⟩:=h.1 i x hx
 obtain⟨cs,hb⟩:=h.2 b (by rw[e];rfl)
 exact⟨b,off,e,(World.cell?_of_block (a:=⟨b,off+i,none⟩) (k b cs 3 hb hT)).trans hc⟩,h.2.keep hT k⟩
theorem IntsT.of_own {w:World} {base c:Nat} {A:Option Addr} {xs:List Int} (h:L.OwnInts w base A c xs):IntsT w A xs:=⟨ints_own h,fun _ hk=>own_tag h (by rw[qr];exact hk)⟩
def CellsT (w:World) (rows:List (List Int)) (cells:List Value):Prop:=cells.length=rows.length∧∀ (j:Nat) (l:List Int),rows[j]?=some l→∃ B c,cells[j]?=some (.slice B l.length c)∧l.length≤1000∧IntsT w B l
theorem CellsT.keep {T:TypeId→Prop} {w w':World} {rows:List (List Int)} {cells:List Value} (h:CellsT w rows cells) (hT:T 3) (k:Tags T w w'):CellsT w' rows cells:=⟨h.1,fun j l hj=>by
 obtain⟨B,c,h1,h2,h3⟩:=h.2 j l hj
 exact⟨B,c,h1,h2,h3.keep hT k⟩⟩
theorem CellsT.one {w:World} {rows:List (List Int)} {cells:List Value} (h:CellsT w rows cells):∀ u∈cells,u.oneCell'=true:=fun u hu=>by
 obtain⟨j,hj⟩:=List.getElem?_of_mem hu
 have hlt:j<rows.length:=by rw[← h.1];exact (List.getElem?_eq_some_iff.1 hj).1
 obtain⟨B,c,h1,_⟩:=h.2 j _ (List.getElem?_eq_getElem hlt)
 rw[hj] at h1
 cases h1
 rfl
theorem CellsT.append {w:World} {rows ys:List (List Int)} {cells cs:List Value} (h:CellsT w rows cells) (k:CellsT w ys cs):CellsT w (rows++ys) (cells++cs):=⟨by rw[List.length_append,List.length_append,h.1,k.1],fun j l hj=>by
 rcases Nat.lt_or_ge j rows.length with q|q
 ·rw[List.getElem?_append_left q] at hj
  obtain⟨B,c,h1,h2⟩:=h.2 j l hj
  exact⟨B,c,by rw[List.getElem?_append_left (by rw[h.1];exact q)];exact h1,h2⟩
 ·rw[List.getElem?_append_right q] at hj
  obtain⟨B,c,h1,h2⟩:=k.2 _ l hj
  exact⟨B,c,by rw[List.getElem?_append_right (by rw[h.1];exact q),h.1];exact h1,h2⟩⟩
def RowT (w:World) (base:Nat) (A:Option Addr) (c:Nat) (rows:List (List Int)):Prop:=∃ cells,w.ownsRow base 22 1 (.slice A rows.length c) rows.length cells∧CellsT w rows cells
theorem RowT.nil (w:World) (base:Nat):RowT w base none 0 []:=⟨[],⟨by simp,.inl ⟨rfl,rfl⟩⟩,rfl,fun j l h=>by simp at h⟩
theorem RowT.keep {T:TypeId→Prop} {w w':World} {base c:Nat} {A:Option Addr} {rows:List (List Int)} (h:RowT w base A c rows) (hT:T 3) (hT2:T 22) (k:Tags T w w'):RowT w' base A c rows:=by
 obtain⟨cells,h1,h2⟩:=h
 refine⟨cells,own_keep h1 fun b hb hl=>?_,h2.keep hT k⟩
 obtain⟨cs,hc⟩:=own_tag h1 hb
 exact k b cs 22 hc hT2
theorem RowT.grown {w w':World} {base c:Nat} {A:Option Addr} {rows:List (List Int)} (h:RowT w base A c rows) (g:Grown w w'):RowT w' base A c rows:=h.keep (T:=fun _=>True) trivial trivial (.of_grown g)
theorem RowT.lower {w:World} {base base2 c:Nat} {A:Option Addr} {rows:List (List Int)} (h:RowT w base A c rows) (hb:base2≤base):RowT w base2 A c rows:=by
 obtain⟨cells,h1,h2⟩:=h
 exact⟨cells,own_lower h1 hb,h2⟩
theorem RowT.at_ {w:World} {base c:Nat} {A:Option Addr} {rows:List (List Int)} (h:RowT w base A c rows):DishesAt w A rows:=fun j l hj=>by
 obtain⟨cells,h1,h2⟩:=h
 obtain⟨B,c',k1,k2,k3⟩:=h2.2 j l hj
 have hjl:j<rows.length:=(List.getElem?_eq_some_iff.1 hj).1
 obtain⟨ad,u,e1,_,e2,e3⟩:=(L.Reads.of_own h1).at_ hjl
 rw[k1] at e2
 cases e2
 rcases h1.2 with ⟨e,_⟩|⟨g,cap,cur,e,_⟩
 ·rw[e1] at e;cases e
 ·rw[e1] at e
  cases e
  refine⟨g,0,e1,B,c',?_,k3.1,k2⟩
  rw[Nat.zero_add]
  unfold Addr.add at e3
  split at e3
  ·rename_i h0;subst h0;exact e3
  ·simpa using e3
theorem RowT.one {w:World} {A:Option Addr} {l:List Int} {c n:Nat} (h:IntsT w A l) (hn:l.length=n) (hl:n≤1000):RowT (w.alloc (.cells #[.slice A n c] 22)) w.heap.size (some ⟨w.heap.size,0,none⟩) 1 [l]:=by
 subst hn
 refine⟨[.slice A l.length c],World.ownsRow_lit w #[.slice A l.length c] 1 (Nat.le_refl _) (by decide) (by simp),rfl,fun j l' hj=>?_⟩
 rcases j with _|j
 ·simp only[List.getElem?_cons_zero,Option.some.injEq] at hj
  subst hj
  exact⟨A,c,rfl,hl,h.keep (T:=fun _=>True) trivial (.of_grown (Grown.alloc _ _))⟩
 ·simp at hj
section
variable {P:Program}
theorem wp_app_rows {w:World} {o:Oper} {a:Act} {K:Act→World→Prop} {Q:Exit→Act→World→Prop} (s x:Operand)
  (ho:o.op=.call { callee:=.builtin .append,args:=#[s,x],argTypes:=#[32,32] }) (base:Nat) (ht:P.underlying 32=some (.slice 22)) (hi:(P.info? 22).map (fun i=>(i.zero,i.size,i.bytes))=some (some (.slice none 0 0),1,24))
  {A:Option Addr} {c:Nat} {rows:List (List Int)} (hs:a.eval s=.slice A rows.length c) (hR:RowT w base A c rows) {B:Option Addr} {BB m c2:Nat} {ys:List (List Int)} {cs:List Value} (hx:a.eval x=.slice B m c2) (hm:m=ys.length) (hr:L.Reads w BB 1 B m cs) (hc:CellsT w ys cs) (hlen:rows.length+ys.length≤1000000) (hbase:base≤w.heap.size)
  (h:∀ A2 c3 w',RowT w' base A2 c3 (rows++ys)→w.grownBy w' (Value.slice A rows.length c).ownBlock→Tags (fun t=>t≠22) w w'→K (a.put o.dst (.slice A2 (rows++ys).length c3)) w'):o.wp P a w K Q:=by
 subst hm
 obtain⟨i,h1,h2,h3,h4⟩:=info_parts hi
 obtain⟨cells,hrow,hcells⟩:=hR
 refine L.wp_append_any w s x 32 ho base 22 i _ 1 24 ht h1 h2 h3 h4 rfl (by omega) (.slice A rows.length c) rows.length cells hs hrow BB B ys.length c2 cs hx hr hc.one (by simp only[maxLen];omega) (by omega) hbase ?_
 intro v' w' hown' hg _
 obtain⟨A2,c3,rfl⟩:=L.own_slice hown'
 have k:Tags (fun t=>t≠22) w w':=.of_row hg fun b hb=>by
  obtain⟨cs',hc'⟩:=own_tag hrow hb
  exact⟨cs',22,hc',fun e=>e rfl⟩
 rw[← List.length_append] at hown' ⊢
 exact h A2 c3 w' ⟨cells++cs,hown',(hcells.keep (by decide) k).append (hc.keep (by decide) k)⟩ hg k
theorem step_app_rows {w:World} {ops:Array Oper} {o:Oper} {a:Act} {K:Act→World→Prop} {Q:Exit→Act→World→Prop} {E:Prop} (hgd:o.guard=none) (s x:Operand)
  (ho:o.op=.call { callee:=.builtin .append,args:=#[s,x],argTypes:=#[32,32] }) (base:Nat) (ht:P.underlying 32=some (.slice 22)) (hi:(P.info? 22).map (fun i=>(i.zero,i.size,i.bytes))=some (some (.slice none 0 0),1,24))
  {A:Option Addr} {c:Nat} {rows:List (List Int)} (hs:a.eval s=.slice A rows.length c) (hR:RowT w base A c rows) {B:Option Addr} {BB m c2:Nat} {ys:List (List Int)} {cs:List Value} (hx:a.eval x=.slice B m c2) (hm:m=ys.length) (hr:L.Reads w BB 1 B m cs) (hc:CellsT w ys cs) (hlen:rows.length+ys.length≤1000000) (hbase:base≤w.heap.size)
  (h:∀ A2 c3 w',RowT w' base A2 c3 (rows++ys)→w.grownBy w' (Value.slice A rows.length c).ownBlock→Tags (fun t=>t≠22) w w'→K (a.put o.dst (.slice A2 (rows++ys).length c3)) w'):if Region.wanted o (yielded ops a.tmps)=true then Oper.wp P o a w K Q else E:=by
 rw[if_pos (show Region.wanted o (yielded ops a.tmps)=true by simp[Region.wanted,hgd])]
 exact wp_app_rows s x ho base ht hi hs hR hx hm hr hc hlen hbase h
theorem step_app_ints {w:World} {ops:Array Oper} {o:Oper} {a:Act} {K:Act→World→Prop} {Q:Exit→Act→World→Prop} {E:Prop} (hgd:o.guard=none) (s x:Operand) (t:TypeId)
  (ho:o.op=.call { callee:=.builtin .append,args:=#[s,x],argTypes:=#[t,t] })
  (base:Nat) (ht:P.underlying t=some (.slice 3)) (hi:(P.info? 3).map (fun i=>(i.zero,i.size,i.bytes))=some (some (.int .i64 0),1,8))
  (A:Option Addr) (c:Nat) (xs:List Int) (hs:a.eval s=.slice A xs.length c) (hown:L.OwnInts w base A c xs)
  (B:Nat) (A':Option Addr) (c':Nat) (ys:List Int) (hx:a.eval x=.slice A' ys.length c') (hr:L.Ints w B A' ys)
  (hlen:(xs.length+ys.length)*8≤140737488355328) (hbase:base≤w.heap.size)
  (h:∀ A2 c2 w',L.OwnInts w' base A2 c2 (xs++ys)→w.grownBy w' (Value.slice A xs.length c).ownBlock→(A2.map (·.block)=A.map (·.block)∨A2.map (·.block)=some w.heap.size) →
   K (a.put o.dst (.slice A2 (xs++ys).length c2)) w'):if Region.wanted o (yielded ops a.tmps)=true then Oper.wp P o a w K Q else E:=by
 rw[if_pos (show Region.wanted o (yielded ops a.tmps)=true by simp[Region.wanted,hgd])]
 exact wp_app_ints s x t ho base ht hi A c xs hs hown B A' c' ys hx hr hlen hbase h
end
end
end Go.Gal
