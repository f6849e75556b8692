/- What 'from' (the closure of 'cheapest') keeps: its boxes, the map of plans that are known; the plain law of its loop. Walks: 'from', the closure of 'cheapest'. Walks: 'from' where the plan is known. Walks: 'from' where the plan is not known. A larder, as its cells tell it. What the round of 'from' holds behind the recursive call. -/
import Derived.Test.YtlgiofglcgbjgaaM24
section
namespace Go.Gal
open Go Go.Par Go.Proofs Go.RowKit
structure Turn (M:Nat) (w w':World):Prop where
 size:w.heap.size≤w'.heap.size
 same:∀ b,b < w.heap.size→b≠M→w'.heap[b]? = w.heap[b]?
 os:w'.os=w.os
theorem Turn.trans {M:Nat} {a b c:World} (h:Turn M a b) (k:Turn M b c):Turn M a c:=
 ⟨Nat.le_trans h.size k.size,fun x hx hm=>(k.same x (Nat.lt_of_lt_of_le hx h.size) hm).trans (h.same x hx hm),k.os.trans h.os⟩
theorem Turn.grown {M:Nat} {a b:World} (h:Grown a b):Turn M a b:=⟨h.size,fun x hx _=>h.same x hx,h.os⟩
theorem Grown.refl (w:World):Grown w w:=⟨Nat.le_refl _,fun _ _=>rfl,rfl⟩
theorem Grown.trans {a b c:World} (h:Grown a b) (k:Grown b c):Grown a c:=
 ⟨Nat.le_trans h.size k.size,fun x hx=>(k.same x (Nat.lt_of_lt_of_le hx h.size)).trans (h.same x hx),k.os.trans h.os⟩
theorem Grown.below {a b:World} (h:Below a.heap.size a b):Grown a b:=⟨h.size,fun x hx=>h.block x hx,h.os⟩
theorem Grown.alloc (w:World) (o:Obj):Grown w (w.alloc o):=.below ((Below.refl _ _).alloc (Nat.le_refl _) _)
theorem Turn.cell {M:Nat} {w w':World} (h:Turn M w w') (hM:∀ c t m,w.heap[M]?≠some (.cells c t m)) {b o:Nat} {v:Value} (hc:w.cell? ⟨b,o,none⟩=some v):w'.cell? ⟨b,o,none⟩=some v:=by
 have hlt:=cell_lt hc
 unfold World.cell? at hc ⊢
 split at hc
 ·rename_i c t m hx
  have hb:b≠M:=fun e=>hM c t m (by rw [← e];exact hx)
  rw [h.same b hlt hb,hx]
  exact hc
 ·cases hc
theorem PlanAt.turn {M:Nat} {w w':World} (h:Turn M w w') (hM:∀ c t m,w.heap[M]?≠some (.cells c t m)) {p:Plan} {v:Value} (k:PlanAt w p v):PlanAt w' p v:=by
 obtain ⟨s,m,hv,hl⟩:=k
 refine ⟨s,m,hv,?_⟩
 rcases hl with hl | ⟨h1,b,h2,h3,h4,h5⟩
 ·exact .inl hl
 ·refine .inr ⟨h1,b,h2,h3,h4,?_⟩
  have hb:b≠M:=fun e=>hM _ _ _ (by rw [← e];exact h5)
  have hlt:b < w.heap.size:=(Array.getElem?_eq_some_iff.1 h5).1
  rw [h.same b hlt hb]
  exact h5
def fromF (kB nB gB oB mB fB:Nat):Value:=.func (.func 127) #[] #[ptr kB,ptr nB,ptr gB,ptr oB,ptr mB,ptr fB]
structure Kn (w:World) (A:Kit1) (i:Nat) (D:Good1) (kB nB gB oB mB fB M:Nat) (es:List Ent) (ck:Nat):Prop where
 kit:KitAt w (fun _=>True) A i D
 bk:w.heap[kB]? = some (.cells #[A.gs,A.ds,A.hs] 29 (0,0))
 bn:w.heap[nB]? = some (.cells #[.map (some M)] 158 (0,0))
 bg:w.heap[gB]? = some (.cells #[int D.room,int D.reserve,int D.melts,int D.start] 42 (0,0))
 bo:w.heap[oB]? = some (.cells #[int i] 3 (0,0))
 bm:w.heap[mB]? = some (.cells #[A.m] 22 (0,0))
 bf:w.heap[fB]? = some (.cells #[fromF kB nB gB oB mB fB] 159 (0,0))
 map:w.heap[M]? = some (.map (ents es) ck)
 right:∀ e∈es,PlanAt w (planFrom D (D.hauls.drop e.1.1) e.1.2) e.2.1
theorem Kn.noCells {w:World} {A:Kit1} {i:Nat} {D:Good1} {kB nB gB oB mB fB M:Nat} {es:List Ent} {ck:Nat} (h:Kn w A i D kB nB gB oB mB fB M es ck):∀ c t m,w.heap[M]?≠some (.cells c t m):=by
 intro c t m e
 rw [h.map] at e
 cases e
theorem Kn.turn {w w':World} {A:Kit1} {i:Nat} {D:Good1} {kB nB gB oB mB fB M:Nat} {es es':List Ent} {ck ck':Nat} (h:Kn w A i D kB nB gB oB mB fB M es ck) (t:Turn M w w') (hm:w'.heap[M]? = some (.map (ents es') ck'))
  (hr:∀ e∈es',e∈es∨PlanAt w' (planFrom D (D.hauls.drop e.1.1) e.1.2) e.2.1):Kn w' A i D kB nB gB oB mB fB M es' ck':=by
 have key:∀ (b:Nat) (c:Array Value) (ty:TypeId),w.heap[b]? = some (.cells c ty (0,0))→w'.heap[b]? = some (.cells c ty (0,0)):=fun b c ty hb=>by
  have hne:b≠M:=fun e=>h.noCells _ _ _ (by rw [← e];exact hb)
  rw [t.same b (Array.getElem?_eq_some_iff.1 hb).1 hne]
  exact hb
 refine ⟨h.kit.mono fun b o v hc=>t.cell h.noCells hc,key _ _ _ h.bk,key _ _ _ h.bn,key _ _ _ h.bg,key _ _ _ h.bo,key _ _ _ h.bm,key _ _ _ h.bf,hm,fun e he=>?_⟩
 rcases hr e he with h1 | h1
 ·exact (h.right e h1).turn t h.noCells
 ·exact h1
theorem Kn.grown {w w':World} {A:Kit1} {i:Nat} {D:Good1} {kB nB gB oB mB fB M:Nat} {es:List Ent} {ck:Nat} (h:Kn w A i D kB nB gB oB mB fB M es ck) (t:Grown w w'):Kn w' A i D kB nB gB oB mB fB M es ck:=
 h.turn (.grown t) ((t.same M (Array.getElem?_eq_some_iff.1 h.map).1).trans h.map) fun _ he=>.inl he
theorem PlanAt.grown {w w':World} (h:Grown w w') {p:Plan} {v:Value} (k:PlanAt w p v):PlanAt w' p v:=by
 obtain ⟨s,m,hv,hl⟩:=k
 refine ⟨s,m,hv,?_⟩
 rcases hl with hl | ⟨h1,b,h2,h3,h4,h5⟩
 ·exact .inl hl
 ·exact .inr ⟨h1,b,h2,h3,h4,(h.same b (Array.getElem?_eq_some_iff.1 h5).1).trans h5⟩
theorem lt_of_block {w:World} {k:Nat} {o:Obj} (h:w.heap[k]? = some o):k < w.heap.size:=(Array.getElem?_eq_some_iff.1 h).1
theorem blk_cell {w:World} {g:Nat} {cs:Array Value} {t:TypeId} (h:w.heap[g]? = some (.cells cs t (0,0))) (i:Nat):w.cell? ⟨g,i,none⟩=cs[i]?:=cell_of_row w g i cs t (0,0) h
theorem blk_frozen {w:World} {g:Nat} {cs:Array Value} {t:TypeId} (h:w.heap[g]? = some (.cells cs t (0,0))) (i:Nat):w.frozen? ⟨g,i,none⟩=false:=by simp [World.frozen?,h]
theorem blk_set {w:World} {b i:Nat} {t:TypeId} {cs:Array Value} (h:w.heap[b]? = some (.cells cs t (0,0))) (u:Value):(w.setCell ⟨b,i,none⟩ u).heap[b]? = some (.cells (cs.setIfInBounds i u) t (0,0)):=by
 simp [World.setCell,Array.getElem?_modify,h]
theorem size_setCell (w:World) (a:Addr) (v:Value):(w.setCell a v).heap.size=w.heap.size:=by simp [World.setCell]
theorem blk_alloc {w:World} {b:Nat} {o:Obj} (h:w.heap[b]? = some o) (o':Obj):(w.alloc o').heap[b]? = some o:=(Below.heap_alloc w o' b (lt_of_block h)).trans h
theorem blk_grown {w w':World} {b:Nat} {o:Obj} (h:w.heap[b]? = some o) (hb:Grown w w'):w'.heap[b]? = some o:=(hb.same b (lt_of_block h)).trans h
theorem blk_set3 {w:World} {b:Nat} {t:TypeId} {x y z:Value} (h:w.heap[b]? = some (.cells #[x,y,z] t (0,0))) (u v r:Value):(((w.setCell ⟨b,0,none⟩ u).setCell ⟨b,1,none⟩ v).setCell ⟨b,2,none⟩ r).heap[b]? = some (.cells #[u,v,r] t (0,0)):=by
 have:=blk_set (blk_set (blk_set (i:=0) h u) (i:=1) v) (i:=2) r
 simpa using this
theorem grown_set3 {w w':World} (h:Grown w w') {b:Nat} (hb:w.heap.size≤b) (u v r:Value):Grown w (((w'.setCell ⟨b,0,none⟩ u).setCell ⟨b,1,none⟩ v).setCell ⟨b,2,none⟩ r):=by
 refine ⟨by rw [size_setCell,size_setCell,size_setCell];exact h.size,fun x hx=>?_,h.os⟩
 rw [Below.heap_setCell _ _ _ _ (by simp;omega),Below.heap_setCell _ _ _ _ (by simp;omega),Below.heap_setCell _ _ _ _ (by simp;omega)]
 exact h.same x hx
theorem Grown.drewN {w w':World} (h:Grown w w') (n:Nat):Grown w (w'.drewN n):=⟨h.size,h.same,h.os⟩
theorem tries_le (D:Good1) (h:Haul1) (t:Nat):tries D h t≤D.room + 1 - t:=by
 unfold tries
 split<;>omega
theorem tries_out {D:Good1} {h:Haul1} {t k:Nat} (hk:k≤tries D h t) (ho:¬ t + k≤D.room):k=tries D h t:=by
 unfold tries at *
 split at hk<;>rename_i hp<;>simp only [hp,if_true,if_false]<;>omega
theorem tries_free {D:Good1} {h:Haul1} {t k:Nat} (hk:k≤tries D h t) (h0 : 0 < k) (hp:h.price=0):k=tries D h t:=by
 unfold tries at *
 rw [if_pos hp] at *
 omega
theorem tries_more {D:Good1} {h:Haul1} {t k:Nat} (ho:t + k≤D.room) (hp:¬ (0 < k∧h.price=0)):k < tries D h t:=by
 unfold tries
 split<;>omega
def bestTo (D:Good1) (h:Haul1) (hs:List Haul1) (t k:Nat):Plan:=(List.range k).foldl (tryN D h (planFrom D hs) t) ([],0,true)
theorem bestTo_zero (D:Good1) (h:Haul1) (hs:List Haul1) (t:Nat):bestTo D h hs t 0=([],0,true):=rfl
theorem bestTo_succ (D:Good1) (h:Haul1) (hs:List Haul1) (t k:Nat):bestTo D h hs t (k + 1)=tryN D h (planFrom D hs) t (bestTo D h hs t k) k:=by
 unfold bestTo
 rw [List.range_succ,List.foldl_append]
 rfl
theorem bestTo_all (D:Good1) (h:Haul1) (hs:List Haul1) (t:Nat):bestTo D h hs t (tries D h t)=planFrom D (h :: hs) t:=rfl
theorem after_eq {D:Good1} {h:Haul1} {x:Nat} : after D h x=((x - melted h.hours D.melts x:Nat):Int) - ((h.covers * h.need:Nat):Int):=by
 unfold after melted
 split<;>omega
theorem planFrom_cost {D:Good1} (hr:D.room≤255):∀ (hs:List Haul1) (t:Nat),(∀ h∈hs,h.price≤255)→(planFrom D hs t).2.1≤hs.length * 65025
 | [],t,_=>by simp [planFrom]
 | h :: hs,t,hp=>by
  have ih:=fun t=>planFrom_cost hr hs t (fun x hx=>hp x (List.mem_cons_of_mem _ hx))
  have hph:=hp h (List.mem_cons_self ..)
  rw [← bestTo_all]
  have key:∀ k,k≤tries D h t→(bestTo D h hs t k).2.1≤(hs.length + 1) * 65025:=by
   intro k
   induction k with
   | zero=>intro _;simp [bestTo_zero]
   | succ k ihk =>
    intro hk
    have h1:=ihk (by omega)
    rw [bestTo_succ]
    unfold tryN
    split
    ·exact h1
    ·dsimp only
     split
     ·have h2:=ih (after D h (t + k)).toNat
      have h3:k≤255:=by have:=tries_le D h t;omega
      have h4:k * h.price≤255 * 255:=Nat.mul_le_mul h3 hph
      show (planFrom D hs (after D h (t + k)).toNat).2.1 + k * h.price≤_
      omega
     ·exact h1
  exact key _ (Nat.le_refl _)
end Go.Gal
end
section
namespace Go.Gal
open Go Go.Par Go.Proofs Go.RowKit
section
variable {fs:Array Func} [Like fs]
omit [Like fs] in
set_option maxRecDepth 20000 in
theorem guard161 (x y:Operand) (a b:Array Value) (w:World):(eqGuard .eql 161 x y (.agg a) (.agg b)).run (Pf fs) w=.ok () w:=by
 have h:(Pf fs).eqGuardType (Pf fs).depth 161=false:=by
  have h2:Try.prog.eqGuardType Try.prog.depth 161=false:=Try.eqGuardType161
  exact h2
 unfold eqGuard
 simp [h]
omit [Like fs] in
theorem equalIn_kv (a b c e:Nat) (w:World):(Op.equalIn 10000 161 (.agg #[.int .i64 a,.int .i64 b]) (.agg #[.int .i64 c,.int .i64 e])).run (Pf fs) w=.ok (decide (a=c∧b=e)) w:=by
 have h:(Op.equalIn 10000 161 (kv (a,b)) (kv (c,e))).run (Pf fs) w = _:=eq_in 9998 (a,b) (c,e) w
 have h2:((a,b) == (c,e))=decide (a=c∧b=e):=by rw [Bool.eq_iff_iff];simp
 rw [h2] at h
 exact h
def FromPost (A:Kit1) (i:Nat) (D:Good1) (kB nB gB oB mB fB M:Nat) (es:List Ent) (h t:Nat) (w:World) (e:Ending) (w':World):Prop:=
 ∃ v es' ck',e=.returned v∧Turn M w w'∧Kn w' A i D kB nB gB oB mB fB M es' ck'∧(∀ x∈es',x∈es∨h≤x.1.1)∧PlanAt w' (planFrom D (D.hauls.drop h) t) v
set_option maxRecDepth 20000 in
theorem from_end {A:Kit1} {i:Nat} {D:Good1} {kB nB gB oB mB fB M:Nat} (t:Nat) (w:World) (es:List Ent) (ck:Nat) (K:Kn w A i D kB nB gB oB mB fB M es ck) :
  Calls (Pf fs) 127 #[kv (A.nh,t),ptr kB,ptr nB,ptr gB,ptr oB,ptr mB,ptr fB] w (FromPost A i D kB nB gB oB mB fB M es A.nh t w):=by
 have hw1:Grown w ((w.alloc (.cells #[int A.nh,int t] 161)).alloc (.cells #[.slice none 0 0,.int .i64 0,.bool false] 141)):=(Grown.alloc _ _).trans (.alloc _ _)
 have k1:((w.alloc (.cells #[int A.nh,int t] 161)).alloc (.cells #[.slice none 0 0,.int .i64 0,.bool false] 141)).cell? ⟨kB,2,none⟩=some A.hs:=cell_of_row _ _ 2 _ 29 (0,0) (K.grown hw1).bk
 have e1:=fun (x y:Operand) (a b:Array Value)=>guard161 (fs:=fs) x y a b
 have e2:∀ W,(Op.equalIn 10000 161 (.agg #[.int .i64 A.nh,.int .i64 t]) (.agg #[.int .i64 A.nh,.int .i64 t])).run (Pf fs) W=.ok true W:=fun W=>by rw [equalIn_kv];simp
 have HK:=Lib.hid K
 have HW:=Lib.hid hw1
 generalize hP:FromPost A i D kB nB gB oB mB fB M es A.nh t w=R
 have HP:=Lib.hid hP
 clear K hw1 hP
 obtain ⟨gb,go,ng,cg,hb,ho,nh,ch,mb,mo,nm,cm,db,dof,nd,cd⟩:=A
 simp only [kv,ptr,int,Kit1.hs] at *
 go_enter LK.func127,Try.ntmps127
 go_wp2_with fail
 go_quiet (fail)
 go_wp2_with fail
 have hb:(((w.alloc (.cells #[.int .i64 (nh:Int),.int .i64 (t:Int)] 161)).alloc (.cells #[.slice none 0 0,.int .i64 0,.bool false] 141)).drewN nq).heap[w.heap.size + 1]? = some (.cells #[.slice none 0 0,.int .i64 0,.bool false] 141 (0,0)):=by
  have:=heap_alloc_new (w.alloc (.cells #[.int .i64 (nh:Int),.int .i64 (t:Int)] 161)) (.cells #[.slice none 0 0,.int .i64 0,.bool false] 141)
  simpa using this
 have hb3:=blk_set3 hb (.slice none 0 0) (.int .i64 0) (.bool false)
 have hg:=grown_set3 (HW.out.drewN nq) (b:=w.heap.size + 1) (by omega) (.slice none 0 0) (.int .i64 0) (.bool false)
 generalize (((((w.alloc (.cells #[.int .i64 (nh:Int),.int .i64 (t:Int)] 161)).alloc (.cells #[.slice none 0 0,.int .i64 0,.bool false] 141)).drewN nq).setCell ⟨w.heap.size + 1,0,none⟩ (.slice none 0 0)).setCell ⟨w.heap.size + 1,1,none⟩ (.int .i64 0)).setCell ⟨w.heap.size + 1,2,none⟩ (.bool false)=W at hb3 hg ⊢
 have y0:=blk_cell hb3 0
 have y1:=blk_cell hb3 1
 have y2:=blk_cell hb3 2
 refine bodyPost_ret (v:=.agg #[.slice none 0 0,.int .i64 0,.bool false]) (by simp [results,Try.results127,go_sem,y0,y1,y2]) rfl ?_
 rw [← HP.out]
 have hnil:D.hauls.drop nh=[]:=List.drop_eq_nil_iff.2 (by have:=HK.out.kit.len;simp at this;omega)
 refine ⟨_,es,ck,rfl,.grown hg,HK.out.grown hg,fun x hx=>.inl hx,?_⟩
 show PlanAt W (planFrom D (D.hauls.drop nh) t) _
 rw [hnil]
 exact ⟨none,0,rfl,.inl ⟨rfl,rfl,rfl⟩⟩
end
end Go.Gal
end
section
namespace Go.Gal
open Go Go.Par Go.Proofs Go.RowKit
section
variable {fs:Array Func} [Like fs]
set_option maxRecDepth 20000 in
theorem from_known {A:Kit1} {i:Nat} {D:Good1} {kB nB gB oB mB fB M:Nat} (h t:Nat) (hh:h < A.nh) (w:World) (es:List Ent) (ck:Nat) (K:Kn w A i D kB nB gB oB mB fB M es ck) (v:Value) (hv:known es (h,t)=some v) :
  Calls (Pf fs) 127 #[kv (h,t),ptr kB,ptr nB,ptr gB,ptr oB,ptr mB,ptr fB] w (FromPost A i D kB nB gB oB mB fB M es h t w):=by
 have hw1:Grown w ((w.alloc (.cells #[int h,int t] 161)).alloc (.cells #[.slice none 0 0,.int .i64 0,.bool false] 141)):=(Grown.alloc _ _).trans (.alloc _ _)
 have K1:=K.grown hw1
 obtain ⟨c,hmem⟩:=known_mem hv
 have hp:=K.right _ hmem
 obtain ⟨s,m,hvv,hl⟩:=hp
 have HL:=Lib.hid hl
 clear hl
 generalize hp1:(planFrom D (D.hauls.drop h) t)=p at *
 have HE:=Lib.hid hp1
 subst hvv
 have k1:((w.alloc (.cells #[int h,int t] 161)).alloc (.cells #[.slice none 0 0,.int .i64 0,.bool false] 141)).cell? ⟨kB,2,none⟩=some A.hs:=cell_of_row _ _ 2 _ 29 (0,0) K1.bk
 have k2:((w.alloc (.cells #[int h,int t] 161)).alloc (.cells #[.slice none 0 0,.int .i64 0,.bool false] 141)).cell? ⟨nB,0,none⟩=some (.map (some M)):=cell_of_row _ _ 0 _ 158 (0,0) K1.bn
 have e1:=fun (x y:Operand) (a b:Array Value)=>guard161 (fs:=fs) x y a b
 have e2:∀ W,(Op.equalIn 10000 161 (.agg #[.int .i64 h,.int .i64 t]) (.agg #[.int .i64 A.nh,.int .i64 t])).run (Pf fs) W=.ok false W:=fun W=>by
  rw [equalIn_kv]
  have:¬ h=A.nh:=by omega
  simp [this]
 have e3:∀ q,(Instr.lookup 158 (.map (some M)) (.agg #[.int .i64 h,.int .i64 t]) true).run (Pf fs) (((w.alloc (.cells #[int h,int t] 161)).alloc (.cells #[.slice none 0 0,.int .i64 0,.bool false] 141)).drewN q)=.ok (.tuple #[.agg #[.slice s p.1.length m,.int .i64 p.2.1,.bool p.2.2],.bool true]) (((w.alloc (.cells #[int h,int t] 161)).alloc (.cells #[.slice none 0 0,.int .i64 0,.bool false] 141)).drewN q):=fun q=>by
  have:=run_look (fs:=fs) (w:=(((w.alloc (.cells #[int h,int t] 161)).alloc (.cells #[.slice none 0 0,.int .i64 0,.bool false] 141)).drewN q)) (g:=M) (es:=es) (clock:=ck) K1.map (h,t)
  rw [hv] at this
  exact this
 have HK:=Lib.hid K
 have HW:=Lib.hid hw1
 generalize hP:FromPost A i D kB nB gB oB mB fB M es h t w=R
 have HP:=Lib.hid hP
 clear K K1 hw1 hP hmem hv hp1
 obtain ⟨gb,go,ng,cg,hb,ho,nh,ch,mb,mo,nm,cm,db,dof,nd,cd⟩:=A
 simp only [kv,ptr,int,Kit1.hs] at *
 go_enter LK.func127,Try.ntmps127
 go_wp2_with fail
 go_quiet (fail)
 go_wp2_with fail
 have hb:(((w.alloc (.cells #[.int .i64 (h:Int),.int .i64 (t:Int)] 161)).alloc (.cells #[.slice none 0 0,.int .i64 0,.bool false] 141)).drewN nq).heap[w.heap.size + 1]? = some (.cells #[.slice none 0 0,.int .i64 0,.bool false] 141 (0,0)):=by
  have:=heap_alloc_new (w.alloc (.cells #[.int .i64 (h:Int),.int .i64 (t:Int)] 161)) (.cells #[.slice none 0 0,.int .i64 0,.bool false] 141)
  simpa using this
 have hb3:=blk_alloc (blk_set3 hb (.slice s p.1.length m) (.int .i64 p.2.1) (.bool p.2.2)) (.cells #[.slice s p.1.length m,.int .i64 p.2.1,.bool p.2.2] 141)
 have hg:=(grown_set3 (HW.out.drewN nq) (b:=w.heap.size + 1) (by omega) (.slice s p.1.length m) (.int .i64 p.2.1) (.bool p.2.2)).trans (.alloc _ (.cells #[.slice s p.1.length m,.int .i64 p.2.1,.bool p.2.2] 141))
 generalize ((((((w.alloc (.cells #[.int .i64 (h:Int),.int .i64 (t:Int)] 161)).alloc (.cells #[.slice none 0 0,.int .i64 0,.bool false] 141)).drewN nq).setCell ⟨w.heap.size + 1,0,none⟩ (.slice s p.1.length m)).setCell ⟨w.heap.size + 1,1,none⟩ (.int .i64 p.2.1)).setCell ⟨w.heap.size + 1,2,none⟩ (.bool p.2.2)).alloc (.cells #[.slice s p.1.length m,.int .i64 p.2.1,.bool p.2.2] 141)=W at hb3 hg ⊢
 have y0:=blk_cell hb3 0
 have y1:=blk_cell hb3 1
 have y2:=blk_cell hb3 2
 refine bodyPost_ret (v:=.agg #[.slice s p.1.length m,.int .i64 p.2.1,.bool p.2.2]) (by simp [results,Try.results127,go_sem,y0,y1,y2]) rfl ?_
 rw [← HP.out]
 refine ⟨_,es,ck,rfl,.grown hg,HK.out.grown hg,fun x hx=>.inl hx,?_⟩
 have hp2:PlanAt w p (.agg #[.slice s p.1.length m,.int .i64 p.2.1,.bool p.2.2]):=⟨s,m,rfl,HL.out⟩
 rw [HE.out]
 exact hp2.grown hg
end
end Go.Gal
end
section
namespace Go.Gal
open Go Go.Par Go.Proofs Go.RowKit
section
variable {fs:Array Func} [Like fs]
structure LoopAt (A:Kit1) (i:Nat) (D:Good1) (kB nB gB oB mB fB M:Nat) (es:List Ent) (h t:Nat) (H:Haul1) (hs:List Haul1) (P:Value) (w:World) (k:Nat) (wr:World) (es':List Ent) (ck':Nat) (s:Option Addr) (m:Nat):Prop where
 kn:Kn wr A i D kB nB gB oB mB fB M es' ck'
 turn:Turn M w wr
 new:∀ x∈es',x∈es∨h + 1≤x.1.1
 hk:k≤tries D H t
 bat:wr.heap[w.heap.size]? = some (.cells #[int h,int t] 161 (0,0))
 res:wr.heap[w.heap.size + 1]? = some (.cells #[.slice none 0 0,.int .i64 0,.bool false] 141 (0,0))
 bh:wr.heap[w.heap.size + 1 + 1 + 1]? = some (.cells #[int H.hours,int H.covers,P] 46 (0,0))
 best:wr.heap[w.heap.size + 1 + 1 + 1 + 1]? = some (.cells #[.slice s (bestTo D H hs t k).1.length m,.int .i64 (bestTo D H hs t k).2.1,.bool (bestTo D H hs t k).2.2] 141 (0,0))
 loads:LoadsAt wr (bestTo D H hs t k).1 s m
section
omit [Like fs]
variable {A:Kit1} {i:Nat} {D:Good1} {kB nB gB oB mB fB M:Nat} {es es':List Ent} {h t:Nat} {H:Haul1} {hs:List Haul1} {P:Value} {w wr:World} {k ck':Nat} {s:Option Addr} {m:Nat}
def bestV (D:Good1) (H:Haul1) (hs:List Haul1) (t k:Nat) (s:Option Addr) (m:Nat):Value:=.agg #[.slice s (bestTo D H hs t k).1.length m,.int .i64 (bestTo D H hs t k).2.1,.bool (bestTo D H hs t k).2.2]
theorem set_map_other (w:World) (g:Nat) (es:List Ent) (c:Nat) {b:Nat} (hb:b≠g):(setMap w g es c).heap[b]? = w.heap[b]?:=by
 unfold setMap
 simp only
 rw [Array.getElem?_setIfInBounds_ne (fun e=>hb e.symm)]
theorem set_map_self {w:World} {g:Nat} (es:List Ent) (c:Nat) (hg:g < w.heap.size):(setMap w g es c).heap[g]? = some (.map (ents es) c):=by
 unfold setMap
 simp only
 rw [Array.getElem?_setIfInBounds_self_of_lt hg]
theorem LoopAt.ne (L:LoopAt A i D kB nB gB oB mB fB M es h t H hs P w k wr es' ck' s m) {b:Nat} {c:Array Value} {ty:TypeId} (hb:wr.heap[b]? = some (.cells c ty (0,0))):b≠M:=fun e=>L.kn.noCells _ _ _ (by rw [← e];exact hb)
theorem LoopAt.absent (L:LoopAt A i D kB nB gB oB mB fB M es h t H hs P w k wr es' ck' s m) (hv:known es (h,t)=none):∀ e∈es',e.1≠(h,t):=fun e he hc=>by
 rcases L.new e he with h1 | h1
 ·unfold known at hv
  have h2:=List.find?_eq_none.1 (Option.map_eq_none_iff.1 hv) e h1
  simp [hc] at h2
 ·rw [hc] at h1
  exact absurd h1 (by simp)
theorem PlanAt.rows {w w':World} (h:∀ (b:Nat) (c:Array Value),w.heap[b]? = some (.cells c 3 (0,0))→w'.heap[b]? = some (.cells c 3 (0,0))) {p:Plan} {v:Value} (k:PlanAt w p v):PlanAt w' p v:=by
 obtain ⟨s,m,hv,hl⟩:=k
 refine ⟨s,m,hv,?_⟩
 rcases hl with hl | ⟨h1,b,h2,h3,h4,h5⟩
 ·exact .inl hl
 ·exact .inr ⟨h1,b,h2,h3,h4,h _ _ h5⟩
theorem Kn.move {w2:World} {es0 es2:List Ent} {ck0 ck2:Nat} (K:Kn w A i D kB nB gB oB mB fB M es0 ck0) (L:Kn wr A i D kB nB gB oB mB fB M es' ck') (t:Turn M w w2) (hm:w2.heap[M]? = some (.map (ents es2) ck2))
  (h3:∀ (b:Nat) (c:Array Value),wr.heap[b]? = some (.cells c 3 (0,0))→w2.heap[b]? = some (.cells c 3 (0,0))) (hr:∀ e∈es2,e∈es'∨PlanAt w2 (planFrom D (D.hauls.drop e.1.1) e.1.2) e.2.1):Kn w2 A i D kB nB gB oB mB fB M es2 ck2:=
 K.turn t hm fun e he=>.inr ((hr e he).elim (fun h1=>(L.right e h1).rows h3) id)
theorem LoopAt.finish (K:Kn w A i D kB nB gB oB mB fB M es ck') {ck:Nat} (L:LoopAt A i D kB nB gB oB mB fB M es h t H hs P w k wr es' ck s m) (hk:k=tries D H t) (hd:D.hauls.drop h=H :: hs) (q:Nat) :
  FromPost A i D kB nB gB oB mB fB M es h t w (.returned (bestV D H hs t k s m)) (((((setMap wr M (es' ++ [((h,t),bestV D H hs t k s m,ck)]) (ck + 1)).drewN q).setCell ⟨w.heap.size + 1,0,none⟩ (.slice s (bestTo D H hs t k).1.length m)).setCell ⟨w.heap.size + 1,1,none⟩ (.int .i64 (bestTo D H hs t k).2.1)).setCell ⟨w.heap.size + 1,2,none⟩ (.bool (bestTo D H hs t k).2.2)):=by
 have hMl:=lt_of_block L.kn.map
 have hN:=lt_of_block L.res
 have hNM:=L.ne L.res
 have hMw:=lt_of_block K.map
 obtain ⟨W1,hW1⟩:∃ W1,W1=setMap wr M (es' ++ [((h,t),bestV D H hs t k s m,ck)]) (ck + 1):=⟨_,rfl⟩
 have hs1:W1.heap.size=wr.heap.size:=by rw [hW1];simp [setMap]
 have hb1:∀ b,b≠M→W1.heap[b]? = wr.heap[b]?:=fun b hm=>by rw [hW1];exact set_map_other _ _ _ _ hm
 have hp1:PlanAt wr (planFrom D (D.hauls.drop h) t) (bestV D H hs t k s m):=by
  rw [hd,← bestTo_all,← hk]
  exact ⟨s,m,rfl,L.loads⟩
 rw [← hW1]
 obtain ⟨W2,hW2⟩:∃ W2,W2=((((W1.drewN q).setCell ⟨w.heap.size + 1,0,none⟩ (.slice s (bestTo D H hs t k).1.length m)).setCell ⟨w.heap.size + 1,1,none⟩ (.int .i64 (bestTo D H hs t k).2.1)).setCell ⟨w.heap.size + 1,2,none⟩ (.bool (bestTo D H hs t k).2.2)):=⟨_,rfl⟩
 have hs2:W2.heap.size=W1.heap.size:=by rw [hW2,size_setCell,size_setCell,size_setCell];rfl
 have hb2:∀ b,b≠w.heap.size + 1→W2.heap[b]? = W1.heap[b]?:=fun b hb=>by
  rw [hW2,Below.heap_setCell _ _ _ _ (by simpa using hb),Below.heap_setCell _ _ _ _ (by simpa using hb),Below.heap_setCell _ _ _ _ (by simpa using hb)]
  rfl
 have hos:W2.os=wr.os:=by rw [hW2,hW1];rfl
 rw [← hW2]
 have tw:Turn M w W2:=⟨by have:=L.turn.size;omega,fun b hb hm=>by rw [hb2 b (by omega),hb1 b hm];exact L.turn.same b hb hm,hos.trans L.turn.os⟩
 have h3:∀ (b:Nat) (c:Array Value),wr.heap[b]? = some (.cells c 3 (0,0))→W2.heap[b]? = some (.cells c 3 (0,0)):=fun b c hc=>by
  have n1:b≠w.heap.size + 1:=fun e=>by
   rw [e,L.res] at hc
   simp at hc
  rw [hb2 b n1,hb1 b (L.ne hc)]
  exact hc
 have hm2:W2.heap[M]? = some (.map (ents (es' ++ [((h,t),bestV D H hs t k s m,ck)])) (ck + 1)):=by
  rw [hb2 M (by omega),hW1]
  exact set_map_self _ _ hMl
 refine ⟨_,_,_,rfl,tw,K.move L.kn tw hm2 h3 fun e he=>?_,fun x hx=>?_,hp1.rows h3⟩
 ·rcases List.mem_append.1 he with h1 | h1
  ·exact .inl h1
  ·rw [List.mem_singleton] at h1
   subst h1
   exact .inr (hp1.rows h3)
 ·rcases List.mem_append.1 hx with h1 | h1
  ·exact (L.new x h1).imp id fun h2=>by omega
  ·rw [List.mem_singleton] at h1
   subst h1
   exact .inr (Nat.le_refl _)
end
section
omit [Like fs]
variable {A:Kit1} {i:Nat} {D:Good1} {kB nB gB oB mB fB M:Nat} {es:List Ent} {h t:Nat} {H:Haul1} {hs:List Haul1} {P:Value} {w:World} {ck:Nat}
theorem LoopAt.start (K:Kn w A i D kB nB gB oB mB fB M es ck) (q:Nat) :
  LoopAt A i D kB nB gB oB mB fB M es h t H hs P w 0 ((((((w.alloc (.cells #[int h,int t] 161)).alloc (.cells #[.slice none 0 0,.int .i64 0,.bool false] 141)).drewN q).alloc (.cells #[.slice none 0 0,.int .i64 0,.bool false] 141)).alloc (.cells #[int H.hours,int H.covers,P] 46)).alloc (.cells #[.slice none 0 0,.int .i64 0,.bool true] 141)) es ck none 0:=by
 have hg:Grown w ((((((w.alloc (.cells #[int h,int t] 161)).alloc (.cells #[.slice none 0 0,.int .i64 0,.bool false] 141)).drewN q).alloc (.cells #[.slice none 0 0,.int .i64 0,.bool false] 141)).alloc (.cells #[int H.hours,int H.covers,P] 46)).alloc (.cells #[.slice none 0 0,.int .i64 0,.bool true] 141)):=
  ((((((Grown.alloc _ _).trans (.alloc _ _)).drewN q).trans (.alloc _ _)).trans (.alloc _ _)).trans (.alloc _ _))
 have a1:=heap_alloc_new w (.cells #[int h,int t] 161)
 have a2:=heap_alloc_new (w.alloc (.cells #[int h,int t] 161)) (.cells #[.slice none 0 0,.int .i64 0,.bool false] 141)
 have a3:=heap_alloc_new ((((w.alloc (.cells #[int h,int t] 161)).alloc (.cells #[.slice none 0 0,.int .i64 0,.bool false] 141)).drewN q).alloc (.cells #[.slice none 0 0,.int .i64 0,.bool false] 141)) (.cells #[int H.hours,int H.covers,P] 46)
 have a4:=heap_alloc_new (((((w.alloc (.cells #[int h,int t] 161)).alloc (.cells #[.slice none 0 0,.int .i64 0,.bool false] 141)).drewN q).alloc (.cells #[.slice none 0 0,.int .i64 0,.bool false] 141)).alloc (.cells #[int H.hours,int H.covers,P] 46)) (.cells #[.slice none 0 0,.int .i64 0,.bool true] 141)
 have z1:(w.alloc (.cells #[int h,int t] 161)).heap.size=w.heap.size + 1:=by simp
 have z2:((((w.alloc (.cells #[int h,int t] 161)).alloc (.cells #[.slice none 0 0,.int .i64 0,.bool false] 141)).drewN q).alloc (.cells #[.slice none 0 0,.int .i64 0,.bool false] 141)).heap.size=w.heap.size + 1 + 1 + 1:=by simp
 have z3:(((((w.alloc (.cells #[int h,int t] 161)).alloc (.cells #[.slice none 0 0,.int .i64 0,.bool false] 141)).drewN q).alloc (.cells #[.slice none 0 0,.int .i64 0,.bool false] 141)).alloc (.cells #[int H.hours,int H.covers,P] 46)).heap.size=w.heap.size + 1 + 1 + 1 + 1:=by simp
 rw [z1] at a2
 rw [z2] at a3
 rw [z3] at a4
 refine ⟨K.grown hg,.grown hg,fun x hx=>.inl hx,Nat.zero_le _,?_,?_,?_,?_,.inl ⟨rfl,rfl,rfl⟩⟩
 ·exact blk_alloc (blk_alloc (blk_alloc (w:=(((w.alloc (.cells #[int h,int t] 161)).alloc (.cells #[.slice none 0 0,.int .i64 0,.bool false] 141)).drewN q)) (blk_alloc a1 _) _) _) _
 ·exact blk_alloc (blk_alloc (blk_alloc (w:=(((w.alloc (.cells #[int h,int t] 161)).alloc (.cells #[.slice none 0 0,.int .i64 0,.bool false] 141)).drewN q)) a2 _) _) _
 ·exact blk_alloc a3 _
 ·exact a4
end
end
end Go.Gal
end
section
namespace Go.Gal
open Go Go.Par Go.Proofs Go.RowKit
structure Only (L:Nat) (w w':World):Prop where
 size:w'.heap.size=w.heap.size
 same:∀ b,b≠L→w'.heap[b]? = w.heap[b]?
 os:w'.os=w.os
structure LarderAt (w:World) (L:Nat) (A:Kit1) (i:Nat) (n:Int) (m:Nat):Prop where
 ex:∃ cs,w.heap[L]? = some (.cells cs 125 (0,0))∧cs[0]? = some A.gs∧cs[2]? = some A.hs∧cs[3 + i]? = some (.int .i64 n)∧cs[6 + i]? = some (int m)
theorem Only.grown {L:Nat} {w0 w w':World} (h:Grown w0 w) (k:Only L w w') (hL:w0.heap.size≤L):Grown w0 w':=
 ⟨by rw [k.size];exact h.size,fun b hb=>(k.same b (by omega)).trans (h.same b hb),k.os.trans h.os⟩
theorem Only.trans {L:Nat} {a b c:World} (h:Only L a b) (k:Only L b c):Only L a c:=⟨k.size.trans h.size,fun x hx=>(k.same x hx).trans (h.same x hx),k.os.trans h.os⟩
theorem Only.drewN {L:Nat} {a b:World} (h:Only L a b) (q:Nat):Only L a (b.drewN q):=⟨h.size,h.same,h.os⟩
theorem only_refl (L:Nat) (w:World):Only L w w:=⟨rfl,fun _ _=>rfl,rfl⟩
theorem only_set (w:World) (L o:Nat) (v:Value):Only L w (w.setCell ⟨L,o,none⟩ v):=⟨size_setCell _ _ _,fun _b hb=>Below.heap_setCell _ _ _ _ hb,rfl⟩
theorem LarderAt.drewN {w:World} {L:Nat} {A:Kit1} {i m:Nat} {n:Int} (h:LarderAt w L A i n m) (q:Nat):LarderAt (w.drewN q) L A i n m:=⟨h.ex⟩
theorem LarderAt.now {w:World} {L:Nat} {A:Kit1} {i m:Nat} {n:Int} (h:LarderAt w L A i n m):w.cell? ⟨L,3 + i,none⟩=some (.int .i64 n):=by
 obtain ⟨cs,h1,_,_,h2,_⟩:=h.ex
 exact (blk_cell h1 _).trans h2
theorem LarderAt.frozen {w:World} {L:Nat} {A:Kit1} {i m:Nat} {n:Int} (h:LarderAt w L A i n m) (o:Nat):w.frozen? ⟨L,o,none⟩=false:=by
 obtain ⟨cs,h1,_⟩:=h.ex
 exact blk_frozen h1 _
theorem LarderAt.set {w:World} {L:Nat} {A:Kit1} {i m:Nat} {n:Int} (h:LarderAt w L A i n m) (hi:i < 3) (n':Int):LarderAt (w.setCell ⟨L,3 + i,none⟩ (.int .i64 n')) L A i n' m:=by
 obtain ⟨cs,h1,h2,h3,h4,h5⟩:=h.ex
 have hlt : 3 + i < cs.size:=(Array.getElem?_eq_some_iff.1 h4).1
 refine ⟨_,blk_set h1 _,?_,?_,?_,?_⟩
 ·rw [Array.getElem?_setIfInBounds_ne (by omega)];exact h2
 ·rw [Array.getElem?_setIfInBounds_ne (by omega)];exact h3
 ·rw [Array.getElem?_setIfInBounds_self_of_lt hlt]
 ·rw [Array.getElem?_setIfInBounds_ne (by omega)];exact h5
theorem LarderAt.set2 {w:World} {L:Nat} {A:Kit1} {i m:Nat} {n:Int} (h:LarderAt w L A i n m) (hi:i < 3) (m':Nat):LarderAt (w.setCell ⟨L,6 + i,none⟩ (int m')) L A i n m':=by
 obtain ⟨cs,h1,h2,h3,h4,h5⟩:=h.ex
 have hlt : 6 + i < cs.size:=(Array.getElem?_eq_some_iff.1 h5).1
 refine ⟨_,blk_set h1 _,?_,?_,?_,?_⟩
 ·rw [Array.getElem?_setIfInBounds_ne (by omega)];exact h2
 ·rw [Array.getElem?_setIfInBounds_ne (by omega)];exact h3
 ·rw [Array.getElem?_setIfInBounds_ne (by omega)];exact h4
 ·rw [Array.getElem?_setIfInBounds_self_of_lt hlt]
theorem LarderAt.keep {w w':World} {L:Nat} {A:Kit1} {i m:Nat} {n:Int} (h:LarderAt w L A i n m) (hk:w'.heap[L]? = w.heap[L]?):LarderAt w' L A i n m:=by
 obtain ⟨cs,h1,h2⟩:=h.ex
 exact ⟨cs,hk.trans h1,h2⟩
theorem LarderAt.lt {w:World} {L:Nat} {A:Kit1} {i m:Nat} {n:Int} (h:LarderAt w L A i n m):L < w.heap.size:=by
 obtain ⟨cs,h1,_⟩:=h.ex
 exact lt_of_block h1
theorem KitAt.grown {w w':World} {X:Nat→Prop} {A:Kit1} {i:Nat} {D:Good1} (h:Grown w w') (k:KitAt w X A i D):KitAt w' X A i D:=k.mono fun _ _ _ hc=>h.cell hc
theorem larder_new (w:World) (A:Kit1) {i:Nat} (hi:i < 3):LarderAt (w.alloc (.cells #[A.gs,A.ds,A.hs,.int .i64 0,.int .i64 0,.int .i64 0,.int .i64 0,.int .i64 0,.int .i64 0] 125)) w.heap.size A i 0 0:=by
 refine ⟨_,heap_alloc_new w _,rfl,rfl,?_,?_⟩
 ·rcases i with _ | _ | _ | i
  ·rfl
  ·rfl
  ·rfl
  ·omega
 ·rcases i with _ | _ | _ | i
  ·rfl
  ·rfl
  ·rfl
  ·omega
theorem LoadsAt.grown {w w':World} (h:Grown w w') {l:List Nat} {s:Option Addr} {m:Nat} (k:LoadsAt w l s m):LoadsAt w' l s m:=by
 rcases k with hl | ⟨h1,b,h2,h3,h4,h5⟩
 ·exact .inl hl
 ·exact .inr ⟨h1,b,h2,h3,h4,(h.same b (lt_of_block h5)).trans h5⟩
section
variable {A:Kit1} {i:Nat} {D:Good1} {kB nB gB oB mB fB M:Nat} {es es':List Ent} {h t:Nat} {H:Haul1} {hs:List Haul1} {P:Value} {w wr w2:World} {k ck':Nat} {s:Option Addr} {m:Nat}
theorem LoopAt.more (L:LoopAt A i D kB nB gB oB mB fB M es h t H hs P w k wr es' ck' s m) (g:Grown wr w2) (hb:bestTo D H hs t (k + 1)=bestTo D H hs t k) (hk:k + 1≤tries D H t) :
  LoopAt A i D kB nB gB oB mB fB M es h t H hs P w (k + 1) w2 es' ck' s m:=
 ⟨L.kn.grown g,L.turn.trans (.grown g),L.new,hk,blk_grown L.bat g,blk_grown L.res g,blk_grown L.bh g,by rw [hb];exact blk_grown L.best g,by rw [hb];exact L.loads.grown g⟩
end
theorem tryN_short {D:Good1} {H:Haul1} {rest:Nat→Plan} {t k:Nat} {b:Plan} (h:¬ (D.reserve:Int)≤((t + k - melted H.hours D.melts (t + k):Nat):Int) - ((H.covers * H.need:Nat):Int)):tryN D H rest t b k=b:=by
 unfold tryN
 rw [if_pos (by rw [after_eq];omega)]
theorem tryN_long {D:Good1} {H:Haul1} {rest:Nat→Plan} {t k n2:Nat} {b:Plan} (h:(D.reserve:Int)≤((t + k - melted H.hours D.melts (t + k):Nat):Int) - ((H.covers * H.need:Nat):Int)) (h2:(n2:Int)=((t + k - melted H.hours D.melts (t + k):Nat):Int) - ((H.covers * H.need:Nat):Int)) :
  tryN D H rest t b k=if !(rest n2).2.2 && (b.2.2 || decide ((rest n2).2.1 + k * H.price < b.2.1)) then (k :: (rest n2).1,(rest n2).2.1 + k * H.price,false) else b:=by
 unfold tryN
 rw [if_neg (by rw [after_eq];omega)]
 have hn:(after D H (t + k)).toNat=n2:=by rw [after_eq];omega
 rw [hn]
section
variable {fs:Array Func} [Like fs]
theorem melt_at {A:Kit1} {i L h:Nat} {D:Good1} {H:Haul1} {w:World} {n m:Nat} (hl:LarderAt w L A i n m) (k:KitAt w (fun _=>True) A i D) (hH:D.hauls[h]? = some H) (hh:h < A.nh) (hn:n≤65025) (hm:m≤1000000) (z:Int) :
  Calls (Pf fs) 98 #[.pointer (some ⟨L,0,none⟩),.int .i64 h,.int .i64 i,.int .i64 z] w fun e w'=>e=.returned (.bool true)∧Only L w w'∧LarderAt w' L A i ((n - melted H.hours D.melts n:Nat):Int) (m + melted H.hours D.melts n):=by
 have hat:=k.hauls h H hH
 have hi:=k.hi
 have hng:=k.ng
 obtain ⟨cs,h1,h2,h3,h4,h5⟩:=hl.ex
 obtain ⟨pb,po,np,cp,d,nb,no,nn,cn,_,_,c1,_⟩:=hat.ex
 refine (melt_any (fs:=fs) (A:=A) (i:=i) (L:=L) (h:=h) (hours:=H.hours) (melts:=D.melts) (cs:=cs) w n m h1 h2 h3 h4 h5 hi hng hh k.melts c1 hn hm (by have:=hat.hours;omega) z).mono ?_
 rintro e w' ⟨he,q,hw⟩
 refine ⟨he,?_,?_⟩
 ·rw [hw]
  split
  ·exact ((only_set _ _ _ _).trans (only_set _ _ _ _)).drewN q
  ·exact (only_refl _ _).drewN q
 ·rw [hw]
  split
  ·exact ((hl.set (by omega) _).set2 (by omega) _).drewN q
  ·rename_i hz
   have:melted H.hours D.melts n=0:=if_neg hz
   rw [this]
   exact hl.drewN q
theorem eat_at {A:Kit1} {i L h u:Nat} {D:Good1} {w:World} {n m:Nat} (hl:LarderAt w L A i n m) (k:KitAt w (fun _=>True) A i D) (hne:A.gb≠L) (hn:n≤255) (hu:u≤65025) :
  Calls (Pf fs) 100 #[.pointer (some ⟨L,0,none⟩),.int .i64 h,.int .i64 i,.int .i64 u] w fun e w'=>e=.returned (.bool (decide ((D.reserve:Int)≤(n:Int) - u)))∧Only L w w'∧LarderAt w' L A i ((n:Int) - u) m:=by
 obtain ⟨cs,h1,h2,h3,h4,h5⟩:=hl.ex
 have hi:=k.hi
 have hng:=k.ng
 refine (eat_any (fs:=fs) (A:=A) (i:=i) (L:=L) (D:=D) (cs:=cs) w h n u h1 h2 h4 hi hng k.reserve hne hn hu).mono ?_
 rintro e w' ⟨he,q,hw⟩
 refine ⟨he,?_,?_⟩
 ·rw [hw];exact (only_set _ _ _ _).drewN q
 ·rw [hw];exact (hl.set (by omega) _).drewN q
end
end Go.Gal
end
section
namespace Go.Gal
open Go Go.Par Go.Proofs Go.RowKit
theorem wrap64_small {n:Nat} (h:n≤100000000):wrap64 (n:Int)=(n:Int):=IntWalk.wrap64_in _ (by omega)
section
variable {P:Program} {ops:Array Oper} {Q:Exit→Act→World→Prop} {md:Region.Mode} {S:World→Prop} {late:List Nat}
theorem wpAnyL_two {i j:Nat} {oi oj:Oper} {fuel:Nat} {listed:Array Bool} {a:Act} {w:World} (hoi:ops[i]? = some oi) (hoj:ops[j]? = some oj) (hr:Region.ready md ops listed=[i,j])
  (h1:∀ K':Act→World→Prop,Hid (∀ a w,S w→(S w→wpAnyL P md ops Q S late fuel (listed.setIfInBounds i true) a w)→K' a w)→if Region.wanted oi (yielded ops a.tmps)=true then Oper.wp P oi a w K' Q else K' (a.put oi.dst undef) w)
  (h2:∀ K':Act→World→Prop,Hid (∀ a w,S w→(S w→wpAnyL P md ops Q S late fuel (listed.setIfInBounds j true) a w)→K' a w)→if Region.wanted oj (yielded ops a.tmps)=true then Oper.wp P oj a w K' Q else K' (a.put oj.dst undef) w) :
  wpAnyL P md ops Q S late (fuel + 1) listed a w:=by
 refine ⟨fun h0=>absurd (hr ▸ h0) (by simp),fun x hx=>?_⟩
 rw [hr] at hx
 simp at hx
 rcases hx with rfl | rfl
 ·exact wpOp_step hoi (fun K' hK=>h1 K' (fun a w hS hW=>hK a w ⟨fun _ _=>hS,hW hS⟩))
 ·exact wpOp_step hoj (fun K' hK=>h2 K' (fun a w hS hW=>hK a w ⟨fun _ _=>hS,hW hS⟩))
end
section
variable {A:Kit1} {i:Nat} {D:Good1} {kB nB gB oB mB fB M:Nat} {es es' es2:List Ent} {h t:Nat} {H:Haul1} {hs:List Haul1} {P:Value} {w wr w2:World} {k ck ck' ck2:Nat} {s:Option Addr} {m:Nat}
theorem LoopAt.grown (L:LoopAt A i D kB nB gB oB mB fB M es h t H hs P w k wr es' ck' s m) (g:Grown wr w2):LoopAt A i D kB nB gB oB mB fB M es h t H hs P w k w2 es' ck' s m:=
 ⟨L.kn.grown g,L.turn.trans (.grown g),L.new,L.hk,blk_grown L.bat g,blk_grown L.res g,blk_grown L.bh g,blk_grown L.best g,L.loads.grown g⟩
theorem LoadsAt.turn (h:Turn M w w2) (hM:∀ c t m,w.heap[M]?≠some (.cells c t m)) {l:List Nat} {s:Option Addr} {m:Nat} (k:LoadsAt w l s m):LoadsAt w2 l s m:=by
 rcases k with hl | ⟨h1,b,h2,h3,h4,h5⟩
 ·exact .inl hl
 ·exact .inr ⟨h1,b,h2,h3,h4,(h.same b (lt_of_block h5) (fun e=>hM _ _ _ (by rw [← e];exact h5))).trans h5⟩
theorem LoopAt.turned (L:LoopAt A i D kB nB gB oB mB fB M es h t H hs P w k wr es' ck' s m) (g:Turn M wr w2) (kn:Kn w2 A i D kB nB gB oB mB fB M es2 ck2) (new:∀ x∈es2,x∈es'∨h + 1≤x.1.1) :
  LoopAt A i D kB nB gB oB mB fB M es h t H hs P w k w2 es2 ck2 s m:=by
 have key:∀ {b:Nat} {c:Array Value} {ty:TypeId},wr.heap[b]? = some (.cells c ty (0,0))→w2.heap[b]? = some (.cells c ty (0,0)):=fun hb=>(g.same _ (lt_of_block hb) (L.ne hb)).trans hb
 exact ⟨kn,L.turn.trans g,fun x hx=>(new x hx).elim (fun h1=>L.new x h1) .inr,L.hk,key L.bat,key L.res,key L.bh,key L.best,L.loads.turn g L.kn.noCells⟩
theorem LoopAt.setNew (K:Kn w A i D kB nB gB oB mB fB M es ck) (L:LoopAt A i D kB nB gB oB mB fB M es h t H hs P w k wr es' ck' s m) {R:Nat} {c:Array Value} (hR:w.heap.size + 1 + 1 + 1 + 1 < R) (hRt:wr.heap[R]? = some (.cells c 141 (0,0))) (o:Only R wr w2) :
  LoopAt A i D kB nB gB oB mB fB M es h t H hs P w k w2 es' ck' s m:=by
 have hRM:=L.ne hRt
 have h3:∀ (b:Nat) (c:Array Value),wr.heap[b]? = some (.cells c 3 (0,0))→w2.heap[b]? = some (.cells c 3 (0,0)):=fun b c hc=>by
  have n1:b≠R:=fun e=>by
   rw [e,hRt] at hc
   simp at hc
  exact (o.same b n1).trans hc
 have hm:w2.heap[M]? = some (.map (ents es') ck'):=(o.same M (fun e=>hRM e.symm)).trans L.kn.map
 have tw:Turn M w w2:=⟨by have:=L.turn.size;have:=o.size;omega,fun b hb hm=>(o.same b (by omega)).trans (L.turn.same b hb hm),o.os.trans L.turn.os⟩
 refine ⟨K.move L.kn tw hm h3 fun e he=>.inl he,tw,L.new,L.hk,(o.same _ (by omega)).trans L.bat,(o.same _ (by omega)).trans L.res,(o.same _ (by omega)).trans L.bh,(o.same _ (by omega)).trans L.best,?_⟩
 rcases L.loads with hl | ⟨h1,b,h2,h3',h4,h5⟩
 ·exact .inl hl
 ·exact .inr ⟨h1,b,h2,h3',h4,h3 _ _ h5⟩
structure RestAt (w:World) (R:Nat) (p:Plan) (s:Option Addr) (m:Nat):Prop where
 blk:w.heap[R]? = some (.cells #[.slice s p.1.length m,.int .i64 p.2.1,.bool p.2.2] 141 (0,0))
 loads:LoadsAt w p.1 s m
theorem only_set3 (w:World) (R:Nat) (x y z:Value):Only R w (((w.setCell ⟨R,0,none⟩ x).setCell ⟨R,1,none⟩ y).setCell ⟨R,2,none⟩ z):=((only_set _ _ _ _).trans (only_set _ _ _ _)).trans (only_set _ _ _ _)
theorem LoadsAt.only {l:List Nat} {R:Nat} {c:Array Value} (k:LoadsAt w l s m) (hRt:w.heap[R]? = some (.cells c 141 (0,0))) (o:Only R w w2):LoadsAt w2 l s m:=by
 rcases k with hl | ⟨h1,b,h2,h3,h4,h5⟩
 ·exact .inl hl
 ·refine .inr ⟨h1,b,h2,h3,h4,(o.same b fun e=>?_).trans h5⟩
  rw [e,hRt] at h5
  simp at h5
theorem LoopAt.better (K:Kn w A i D kB nB gB oB mB fB M es ck) (L:LoopAt A i D kB nB gB oB mB fB M es h t H hs P w k wr es' ck' s m) (o:Only (w.heap.size + 1 + 1 + 1 + 1) wr w2) (hk:k + 1≤tries D H t) {s2:Option Addr} {m2:Nat} {p:Plan} (hp:bestTo D H hs t (k + 1)=p)
  (hb:w2.heap[w.heap.size + 1 + 1 + 1 + 1]? = some (.cells #[.slice s2 p.1.length m2,.int .i64 p.2.1,.bool p.2.2] 141 (0,0))) (hl:LoadsAt w2 p.1 s2 m2):LoopAt A i D kB nB gB oB mB fB M es h t H hs P w (k + 1) w2 es' ck' s2 m2:=by
 have hRM:=L.ne L.best
 have h3:∀ (b:Nat) (c:Array Value),wr.heap[b]? = some (.cells c 3 (0,0))→w2.heap[b]? = some (.cells c 3 (0,0)):=fun b c hc=>by
  have n1:b≠w.heap.size + 1 + 1 + 1 + 1:=fun e=>by
   rw [e,L.best] at hc
   simp at hc
  exact (o.same b n1).trans hc
 have hm:w2.heap[M]? = some (.map (ents es') ck'):=(o.same M (fun e=>hRM e.symm)).trans L.kn.map
 have tw:Turn M w w2:=⟨by have:=L.turn.size;have:=o.size;omega,fun b hb hm=>(o.same b (by omega)).trans (L.turn.same b hb hm),o.os.trans L.turn.os⟩
 exact ⟨K.move L.kn tw hm h3 fun e he=>.inl he,tw,L.new,hk,(o.same _ (by omega)).trans L.bat,(o.same _ (by omega)).trans L.res,(o.same _ (by omega)).trans L.bh,by rw [hp];exact hb,by rw [hp];exact hl⟩
end
end Go.Gal
end
