/- Walks: all, as the main goroutine's left program has it. Walks: can, Cheapest. -/
import Derived.Test.YtlgiofglcgbjgaaM29
namespace Go.Gal
open Go Go.Par Go.Proofs Go.RowKit
section
def dsOf (K:Kt) (xs:List Int):List Good1:=K.goods.mapIdx (Zd K xs)
theorem QE (K:Kt) (xs:List Int) (i:Nat):(dsOf K xs)[i]?=(K.goods[i]?).map (Zd K xs i):=by simp[dsOf]
theorem zdp (K:Kt) (xs:List Int):(dsOf K xs).length=K.goods.length:=by simp[dsOf]
structure HaulRd (w:World) (gb go db dof hb ho mb mo nd ng h i:Nat):Prop where
 ex:∃ (hours covers d pr0 pr ne0 ne:Int) (pb po pc nb no _nn nc:Nat),w.cell? ⟨hb,ho+h*3,none⟩=some (.int .i64 hours)∧w.cell? ⟨hb,ho+h*3+1,none⟩=some (.int .i64 covers)∧w.cell? ⟨hb,ho+h*3+2,none⟩=some (.slice (some ⟨pb,po,none⟩) ng pc) ∧
  w.cell? ⟨pb,po,none⟩=some (.int .i64 pr0)∧w.cell? ⟨pb,po+i,none⟩=some (.int .i64 pr)∧w.cell? ⟨mb,mo+h,none⟩=some (.int .i64 (d.toNat:Int))∧d.toNat<nd ∧
  w.cell? ⟨db,dof+d.toNat,none⟩=some (.slice (some ⟨nb,no,none⟩) ng nc)∧w.cell? ⟨nb,no,none⟩=some (.int .i64 ne0)∧w.cell? ⟨nb,no+i,none⟩=some (.int .i64 ne) ∧
  0≤hours∧hours≤255∧0≤covers∧covers≤255∧0≤pr∧pr≤255∧d.toNat≤255∧0≤ne∧ne≤255
theorem haulRd_of {w:World} {K:Kt} {gb go db dof hb ho mb mo:Nat} {xs:List Int} (k:KtAt w K (some ⟨gb,go,none⟩) (some ⟨db,dof,none⟩) (some ⟨hb,ho,none⟩)) (m:Ints w (some ⟨mb,mo,none⟩) xs) (hC:zC K=0) (hR:qk K.dishes.length K.hauls.length xs=0) {h i:Nat} (hh:h<K.hauls.length) (hi:i<K.goods.length) :
  HaulRd w gb go db dof hb ho mb mo K.dishes.length K.goods.length h i:=by
 obtain⟨c1,c2,c3⟩:=qK hC
 obtain⟨g1,g2,g3⟩:=yD c1
 obtain⟨d1,d2,d3⟩:=ya c2
 obtain⟨h1,h2,h3⟩:=qH c3
 obtain⟨r1,r2⟩:=yy hR
 obtain⟨hl,ehl⟩:∃ x,K.hauls[h]?=some x:=⟨_,List.getElem?_eq_getElem hh⟩
 obtain⟨dx,edx⟩:∃ x,xs[h]?=some x:=⟨_,List.getElem?_eq_getElem (by omega)⟩
 obtain⟨b',o',e1,pA,pc,v1,v2,v3,v4,_⟩:=k.hauls h hl ehl
 cases e1
 obtain⟨w1,w2,w3,w4,w5,w6⟩:=h3 hl (List.mem_of_getElem? ehl)
 have hdx:=r2 dx (List.mem_of_getElem? edx)
 obtain⟨b',o',e2,m1⟩:=m h dx edx
 cases e2
 have hdl:dx.toNat<K.dishes.length:=by omega
 obtain⟨dd,hdd⟩:∃ dd,K.dishes[dx.toNat]?=some dd:=⟨_,List.getElem?_eq_getElem hdl⟩
 obtain⟨b',o',e3,nA,nc,n1,n2,_⟩:=k.dishes dx.toNat dd hdd
 cases e3
 obtain⟨dl,dm⟩:=d3 dd (List.mem_of_getElem? hdd)
 obtain⟨pr,hpr⟩:∃ pr,hl.prices[i]?=some pr:=⟨_,List.getElem?_eq_getElem (by omega)⟩
 obtain⟨ne,hne⟩:∃ ne,dd[i]?=some ne:=⟨_,List.getElem?_eq_getElem (by omega)⟩
 obtain⟨pr0,hpr0⟩:∃ pr,hl.prices[0]?=some pr:=⟨_,List.getElem?_eq_getElem (by omega)⟩
 obtain⟨ne0,hne0⟩:∃ ne,dd[0]?=some ne:=⟨_,List.getElem?_eq_getElem (by omega)⟩
 obtain⟨pb,po,rfl,p1⟩:=v4 i pr hpr
 obtain⟨b',o',e4,p0⟩:=v4 0 pr0 hpr0
 cases e4
 obtain⟨nb,no,rfl,o1⟩:=n2 i ne hne
 obtain⟨b',o',e5,o0⟩:=n2 0 ne0 hne0
 cases e5
 have hprr:=w6 pr (List.mem_of_getElem? hpr)
 have hner:=dm ne (List.mem_of_getElem? hne)
 rw[w5] at v3
 rw[dl] at n1
 have ed:dx=(dx.toNat:Int):=by omega
 rw[ed] at m1
 exact⟨hl.hours,hl.covers,dx,pr0,pr,ne0,ne,pb,po,pc,nb,no,0,nc,v1,v2,v3,p0,p1,m1,hdl,n1,o0,o1,by omega,by omega,by omega,by omega,by omega,by omega,by omega,by omega,by omega⟩
theorem HaulRd.grown {w w':World} {gb go db dof hb ho mb mo nd ng h i:Nat} (k:HaulRd w gb go db dof hb ho mb mo nd ng h i) (g:Grown w w'):HaulRd w' gb go db dof hb ho mb mo nd ng h i:=by
 obtain⟨hours,covers,d,pr0,pr,ne0,ne,pb,po,pc,nb,no,nn,nc,a1,a2,a3,a4,a5,a6,a7,a8,a9,a10,r⟩:=k.ex
 exact⟨hours,covers,d,pr0,pr,ne0,ne,pb,po,pc,nb,no,nn,nc,g.cell a1,g.cell a2,g.cell a3,g.cell a4,g.cell a5,g.cell a6,a7,g.cell a8,g.cell a9,g.cell a10,r⟩
theorem fld {fs:Array Func} {t j ty off:Nat} (h:ji t j ty off) (ha:∀ u,(isAgg ty).run S u=.ok false u) {cs:Array Value} {v:Value} (hv:cs[off]?=some v) (W:World):(Instr.field t (.agg cs) j).run (Pf fs) W=.ok v W:=by
 obtain⟨fl,f,h1,h2,h3,h4⟩:=h
 subst h3 h4
 have hs:(Pf fs).underlying t=some (.struct fl):=by
  rw[like_under,← like_under (fs:=S.funcs),pf_S]
  exact h1
 have ha':∀ u,(isAgg f.type).run (Pf fs) u=.ok false u:=fun u=>by
  rw[like_isAgg,← like_isAgg (fs:=S.funcs),pf_S]
  exact ha u
 simp[go_sem,Instr.field,run_underlying hs,h2,asAgg,part,ha',hv]
theorem Qw {fs:Array Func} {ty e:TypeId} (hs:Try.prog.underlying ty=some (.slice e)) (a:Addr) (n m:Nat) (W:World):(binOp .eql ty (.slice (some a) n m) (.slice none 0 0)).run (Pf fs) W=.ok (.bool false) W:=by
 have h:=QC (P:=Pf fs) ((like_under ty).trans hs) (some a) n m 9999 W
 show ((do pure (.bool (← Op.equalIn (9999+1) ty (.slice (some a) n m) (.slice none 0 0)))):Sem Value).run (Pf fs) W=_
 rw[Sem.run_bind,h]
 rfl
theorem zaN {fs:Array Func} {t e:TypeId} {z:Value} {size bytes:Nat} (ht:Try.prog.underlying t=some (.slice e)) (hi:(Try.prog.info? e).map (fun i=>(i.zero,i.size,i.bytes))=some (some z,size,bytes)) (n:Nat) (hb:(bytes:Int)*n≤281474976710656) (hc:n*size≤16777216) (h6:(n:Int)≤9223372036854775807) (W:World) :
  (Instr.makeSlice t (.int .i64 n) (.int .i64 n)).run (Pf fs) W=.ok (.slice (some ⟨W.heap.size,0,none⟩) n n) (W.alloc (.cells (madeCells z.cells (n*size)) e)):=by
 obtain⟨i,h1,h2,h3,h4⟩:=info_parts hi
 have h:=run_makeSlice (P:=Pf fs) W t e i z ((like_under t).trans ht) ((QV (fs:=fs) e).trans h1) h2 .i64 .i64 n n (by omega) (by omega) (by rw[h3];simpa using hc) (by rw[h4];exact hb) h6
 rw[h3] at h
 simpa using h
theorem inf141:(Try.prog.info? 141).map (fun i=>(i.zero,i.size,i.bytes))=some (some (.agg #[.slice none 0 0,.int .i64 0,.bool false]),3,40):=by kernel_rfl
theorem inf22:(Try.prog.info? 22).map (fun i=>(i.zero,i.size,i.bytes))=some (some (.slice none 0 0),1,24):=by kernel_rfl
theorem inf3:(Try.prog.info? 3).map (fun i=>(i.zero,i.size,i.bytes))=some (some (.int .i64 0),1,8):=by kernel_rfl
theorem made22 (n:Nat):madeCells (Value.slice none 0 0).cells (n*1)=Array.replicate n (.slice none 0 0):=by
 apply Array.ext
 ·simp[madeCells]
 ·intro i h1 h2
  simp[madeCells,Value.cells,Nat.mod_one]
structure FillAt (V wr:World) (Ds:List Good1) (C ng n:Nat):Prop where
 kept:∀ b,b<V.heap.size→b≠C→wr.heap[b]?=V.heap[b]?
 size:V.heap.size≤wr.heap.size
 os:wr.os=V.os
 plans:PlansAt wr Ds C ng n
def ysOf (D:Good1):List Int:=(zg D).1.map fun x:Nat=>(x:Int)
theorem zad (D:Good1):(ysOf D).length=(zg D).1.length:=by simp[ysOf]
section
variable {V wr w1 w2 w4:World} {Ds:List Good1} {C ng n c2 mm:Nat} {D:Good1} {arr:Array Value} {s A2:Option Addr}
theorem zdk (hg1:Grown wr w1) (hrow:wr.heap[C]?=some (.cells arr 141 (0,0))) (hld:LoadsAt w1 (zg D).1 s mm)
  (hw2:w2=((w1.setCell ⟨C,n*3,none⟩ (.slice s (zg D).1.length mm)).setCell ⟨C,n*3+1,none⟩ (.int .i64 (zg D).2.1)).setCell ⟨C,n*3+2,none⟩ (.bool (zg D).2.2)) :
  w2.heap[C]?=some (.cells (put3 arr (n*3) (.slice s (zg D).1.length mm) (.int .i64 (zg D).2.1) (.bool (zg D).2.2)) 141 (0,0))∧(∀ b,b≠C→w2.heap[b]?=w1.heap[b]?)∧w2.heap.size=w1.heap.size∧w2.os=w1.os∧L.Ints w2 w2.heap.size s (ysOf D):=by
 have hC1:=zf hrow hg1
 obtain⟨k1,k2,k3,k4⟩:=zay (o:=n*3) hC1 (.slice s (zg D).1.length mm) (.int .i64 (zg D).2.1) (.bool (zg D).2.2)
 rw[← hw2] at k1 k2 k3 k4
 refine⟨k1,k2,k3,k4.os,fun k x hx=>?_⟩
 unfold ysOf at hx
 rw[List.getElem?_map,Option.map_eq_some_iff] at hx
 obtain⟨y,hy,rfl⟩:=hx
 obtain⟨b,off,e1,e2,e3,e4⟩:=hld.ints k y hy
 have hbC:b≠C:=by
  rintro rfl
  obtain⟨cs,hcs⟩:=e3 _ hC1
  injection hcs with _ h2
  exact absurd h2 (by decide)
 refine⟨b,off,e1,by rw[k3];exact e2,?_⟩
 exact (World.cell?_of_block (a:=⟨b,off+k,none⟩) (k2 b hbC)).trans e4
theorem FillAt.put (hF:FillAt V wr Ds C ng n) (_hCV:C<V.heap.size) (hD:Ds[n]?=some D) (hn:n<ng) (hg1:Grown wr w1) (hrow:wr.heap[C]?=some (.cells arr 141 (0,0))) (hasz:arr.size=3*ng) (hld:LoadsAt w1 (zg D).1 s mm)
  (hw2:w2=((w1.setCell ⟨C,n*3,none⟩ (.slice s (zg D).1.length mm)).setCell ⟨C,n*3+1,none⟩ (.int .i64 (zg D).2.1)).setCell ⟨C,n*3+2,none⟩ (.bool (zg D).2.2))
  (hg4:w2.grownBy w4 none) (hown:L.OwnInts w4 w2.heap.size A2 c2 (ysOf D)):FillAt V (w4.setCell ⟨C,n*3,none⟩ (.slice A2 (ysOf D).length c2)) Ds C ng (n+1):=by
 obtain⟨k1,k2,k3,k4,k5⟩:=zdk hg1 hrow hld hw2
 have hCw:C<wr.heap.size:=zj hrow
 have hC2:C<w2.heap.size:=zj k1
 have e4:w4.heap[C]?=some (.cells (put3 arr (n*3) (.slice s (zg D).1.length mm) (.int .i64 (zg D).2.1) (.bool (zg D).2.2)) 141 (0,0)):=(hg4.block C hC2 (by simp)).trans k1
 have same:∀ b,b≠C→b<wr.heap.size→(w4.setCell ⟨C,n*3,none⟩ (.slice A2 (ysOf D).length c2)).heap[b]?=wr.heap[b]?:=fun b hb hlt=>by
  rw[Below.heap_setCell _ _ _ _ hb,hg4.block b (by rw[k3];exact Nat.lt_of_lt_of_le hlt hg1.size) (by simp),k2 b hb,hg1.same b hlt]
 refine⟨fun b hb hbC=>?_,?_,?_,?_⟩
 ·rw[same b hbC (Nat.lt_of_lt_of_le hb hF.size)]
  exact hF.kept b hb hbC
 ·rw[zv]
  exact Nat.le_trans hF.size (Nat.le_trans hg1.size (Nat.le_trans (Nat.le_of_eq k3.symm) hg4.size))
 ·show w4.os=V.os
  rw[hg4.os,k4,hg1.os,hF.os]
 ·refine hF.plans.put (m:=c2) hrow hD hn same (s:=A2) ?_ fun k x hx=>?_
  ·rw[zR e4,zad,Nat.mul_comm n 3]
   congr 2
   unfold put3
   apply Array.ext_getElem?
   intro i
   simp only[Array.getElem?_setIfInBounds]
   grind
  ·obtain⟨b,off,e1,e2,e3⟩:=hown.ints k (x:Int) (by unfold ysOf;rw[List.getElem?_map,hx];rfl)
   have hb:=(zV hown (k:=b) (by rw[qu,e1];rfl)).1
   have hbC:b≠C:=by omega
   exact⟨b,off,e1,hbC,(World.cell?_of_block (a:=⟨b,off+k,none⟩) (Below.heap_setCell _ _ _ _ hbC)).trans e3⟩
end
structure TailAt (Wf w:World) (Ds:List Good1) (M nh n h:Nat):Prop where
 kept:∀ b,b<M→w.heap[b]?=Wf.heap[b]?
 size:M<w.heap.size
 os:w.os=Wf.os
 rows:RowsAt w M M (jk Ds nh n h)
 no:∀ j D,j<n→Ds[j]?=some D→(zg D).2.2=false
structure TailIn (Wf w:World) (Ds:List Good1) (M nh n h bp:Nat) (cs:Array Value):Prop where
 tail:TailAt Wf w Ds M nh n h
 box:w.heap[bp]?=some (.cells cs 141 (0,0))
section
variable {Wf w w':World} {Ds:List Good1} {M nh n h bp:Nat} {cs:Array Value}
theorem TailAt.grown (hT:TailAt Wf w Ds M nh n h) (g:Grown w w'):TailAt Wf w' Ds M nh n h:=
 ⟨fun b hb=>(g.same b (by have:=hT.size;omega)).trans (hT.kept b hb),Nat.lt_of_lt_of_le hT.size g.size,g.os.trans hT.os,hT.rows.grown g,hT.no⟩
theorem TailIn.put (hT:TailIn Wf w Ds M nh n h bp cs) {D:Good1} (hD:Ds[n]?=some D) (hh:h<nh):∃ A c l,l.length≤n∧w.cell? ⟨M,h,none⟩=some (.slice A l.length c)∧L.OwnInts w M A c l ∧
  ∀ A2 c2 w4,L.OwnInts w4 M A2 c2 (l++[ldAt h D])→(w.alloc (.cells #[.int .i64 (ldAt h D)] 3)).grownBy w4 (Value.slice A l.length c).ownBlock→(A2.map (·.block)=A.map (·.block)∨A2.map (·.block)=some (w.alloc (.cells #[.int .i64 (ldAt h D)] 3)).heap.size) →
   w4.cell? ⟨M,h,none⟩=some (.slice A l.length c)∧w4.frozen? ⟨M,h,none⟩=false∧TailIn Wf (w4.setCell ⟨M,h,none⟩ (.slice A2 (l++[ldAt h D]).length c2)) Ds M nh n (h+1) bp cs:=by
 have hr:(jk Ds nh n h)[h]?=some ((Ds.take n).map (ldAt h)):=by rw[yU hh,if_neg (by omega)]
 obtain⟨A,c,k1,k2,k3,k4,k5⟩:=hT.tail.rows.put hr
 refine⟨A,c,_,by simp;omega,k1,k3,fun A2 c2 w4 ho hg hat=>?_⟩
 obtain⟨m1,m2,m3⟩:=k5 _ A2 c2 w4 _ (Grown.alloc _ _) ho hg hat
 have hlow:∀ k,(Value.slice A ((Ds.take n).map (ldAt h)).length c).ownBlock=some k→M≤k∧k≠bp:=fun k hk=>by
  refine⟨(zV k3 hk).1,?_⟩
  rintro rfl
  rcases k3.2 with ⟨e,_⟩|⟨b,cap,cur,e,_,hh,_⟩
  ·rw[e] at hk;cases hk
  ·rw[e] at hk
   cases hk
   rw[hT.box] at hh
   injection hh with hh
   injection hh with _ h2
   exact absurd h2 (by decide)
 have hbp:=zj hT.box
 have hbM:bp≠M:=by
  rintro rfl
  obtain⟨arr,_,_,h1,_⟩:=hT.tail.rows
  rw[hT.box] at h1
  injection h1 with hh
  injection hh with _ h2
  exact absurd h2 (by decide)
 have hsz:=hg.size
 have hsz0:(w.alloc (.cells #[.int .i64 (ldAt h D)] 3)).heap.size=w.heap.size+1:=by simp
 refine⟨m2,m3,⟨⟨fun b hb=>?_,?_,?_,?_,hT.tail.no⟩,?_⟩⟩
 ·rw[Below.heap_setCell _ _ _ _ (by simp only;omega),hg.block b (by have:=hT.tail.size;omega) (fun e=>by have:=(hlow b e.symm).1;omega),Below.heap_alloc _ _ _ (by have:=hT.tail.size;omega)]
  exact hT.tail.kept b hb
 ·rw[zv];have:=hT.tail.size;omega
 ·show w4.os=_
  rw[hg.os]
  exact hT.tail.os
 ·rw[rowsTo_step hD hh]
  exact m1
 ·rw[Below.heap_setCell _ _ _ _ hbM,hg.block bp (by omega) (fun e=>(hlow bp e.symm).2 rfl),Below.heap_alloc _ _ _ hbp]
  exact hT.box
end
theorem ints_one (w:World) (x:Int):L.Ints (w.alloc (.cells #[.int .i64 x] 3)) (w.heap.size+1) (some ⟨w.heap.size,0,none⟩) [x]:=fun k y hy=>by
 rcases k with _|k
 ·simp at hy
  subst hy
  exact⟨_,_,rfl,by omega,za (heap_alloc_new w _) 0⟩
 ·simp at hy
theorem TailAt.next {Wf w:World} {Ds:List Good1} {M nh n:Nat} {D:Good1} (h:TailAt Wf w Ds M nh n nh) (hD:Ds[n]?=some D) (hno:(zg D).2.2=false):TailAt Wf w Ds M nh (n+1) 0:=
 ⟨h.kept,h.size,h.os,by rw[← rowsTo_full];exact h.rows,fun j E hj hE=>by
  rcases Nat.lt_or_ge j n with hlt|hge
  ·exact h.no j E hlt hE
  ·obtain rfl:j=n:=by omega
   rw[hD] at hE
   cases hE
   exact hno⟩
section
variable {fs:Array Func} [LikeS fs]
set_option maxRecDepth 20000 in
set_option maxHeartbeats 4000000 in
theorem zer (K:Kt) (gA dA hA:Option Addr) (gc dc hc:Nat) (xs:List Int) (mA:Option Addr) (mc:Nat) (w:World) (k:KtAt w K gA dA hA) (m:Ints w mA xs) (hC:zC K=0) (hR:qk K.dishes.length K.hauls.length xs=0) :
  Calls (Pf fs) 74 #[ktV K gA dA hA gc dc hc,.slice mA xs.length mc] w fun e w'=>∃ v,e=.returned v∧Grown w w'∧AllAt w' K.hauls.length (dsOf K xs) v:=by
 obtain⟨A,eA,eM,hkit⟩:=zaU gc dc hc mc k m hC hR
 have hcheap:∀ W,Grown w W→∀ (i:Nat) D,(dsOf K xs)[i]?=some D→Calls (Pf fs) 107 #[ktV K gA dA hA gc dc hc,.slice mA xs.length mc,.int .i64 i] W fun e w1=>∃ v,e=.returned v∧Grown W w1∧PlanAt w1 (zg D) v:=fun W g i D hD=>by
  rw[QE,Option.map_eq_some_iff] at hD
  obtain⟨x,hx,rfl⟩:=hD
  have:=YD (fs:=fs) W A i _ ((hkit i x hx).mono fun b o v hc=>g.cell hc)
  rw[eA,eM] at this
  exact this
 obtain⟨c1,c2,c3⟩:=qK hC
 obtain⟨g1,g2,g3⟩:=yD c1
 obtain⟨d1,d2,d3⟩:=ya c2
 obtain⟨h1,h2,h3⟩:=qH c3
 obtain⟨r1,r2⟩:=yy hR
 obtain⟨x0,hx0⟩:=jB g1
 obtain⟨gb,go,rfl,z1,_⟩:=k.goods 0 x0 hx0
 obtain⟨y0,hy0⟩:=jB d1
 obtain⟨db,dof,rfl,_,_,z2,_⟩:=k.dishes 0 y0 hy0
 obtain⟨u0,hu0⟩:=jB h1
 obtain⟨hb,ho,rfl,_,_,z3,_⟩:=k.hauls 0 u0 hu0
 obtain⟨t0,ht0⟩:=jB (l:=xs) (by omega)
 obtain⟨mb,mo,rfl,z4⟩:=m 0 t0 ht0
 have hhaul:∀ (h i:Nat),h<K.hauls.length→i<K.goods.length→HaulRd w gb go db dof hb ho mb mo K.dishes.length K.goods.length h i:=fun h i hh hi=>haulRd_of k m hC hR hh hi
 have hgood:∀ i,i<K.goods.length→∃ a b c d:Int,w.cell? ⟨gb,go+i*4,none⟩=some (.int .i64 a)∧w.cell? ⟨gb,go+i*4+1,none⟩=some (.int .i64 b)∧w.cell? ⟨gb,go+i*4+2,none⟩=some (.int .i64 c)∧w.cell? ⟨gb,go+i*4+3,none⟩=some (.int .i64 d)∧0≤a∧a≤255∧0≤b∧b≤255∧0≤c∧c≤255∧0≤d∧d≤255:=fun i hi=>by
  obtain⟨g,hg⟩:∃ x,K.goods[i]?=some x:=⟨_,List.getElem?_eq_getElem hi⟩
  obtain⟨b',o',e,q1,q2,q3,q4⟩:=k.goods i g hg
  cases e
  obtain⟨b1,b2,b3,b4,b5,b6,b7,b8⟩:=Zz (g3 g (List.mem_of_getElem? hg))
  exact⟨_,_,_,_,q1,q2,q3,q4,by omega,by omega,by omega,by omega,by omega,by omega,by omega,by omega⟩
 have hdat:∀ i D,(dsOf K xs)[i]?=some D→D.hauls.length=K.hauls.length∧(zg D).2.1≤5*65025:=fun i D hD=>by
  rw[QE,Option.map_eq_some_iff] at hD
  obtain⟨x,hx,rfl⟩:=hD
  have e:=hkit i x hx
  have el:=Jx K xs i x r1
  refine⟨el,Nat.le_trans (Zw e.room1 _ _ fun h hh=>?_) (Nat.mul_le_mul_right _ (by rw[el];omega))⟩
  obtain⟨j,hj⟩:=List.getElem?_of_mem hh
  exact (e.hauls j h hj).price
 have HDT:=Lib.hid hdat
 have HCH:=Lib.hid hcheap
 have HH:=Lib.hid hhaul
 have HGD:=Lib.hid hgood
 have HZ:Hid (w.cell? ⟨gb,go,none⟩=some (.int .i64 x0.room)∧(∃ A c,w.cell? ⟨db,dof,none⟩=some (.slice A y0.length c))∧w.cell? ⟨hb,ho,none⟩=some (.int .i64 u0.hours)∧w.cell? ⟨mb,mo,none⟩=some (.int .i64 t0)):=by
  refine⟨by simpa using z1,⟨_,_,by simpa using z2⟩,by simpa using z3,by simpa using z4⟩
 have hnd:K.dishes.length≤3:=d2
 have hnh:K.hauls.length≤5:=h2
 have hDs:=Lib.hid (zdp K xs)
 clear hcheap hhaul hgood hkit hdat k m eA eM z1 z2 z3 z4 r2 g3 d3 h3 hC hR hx0 hy0 hu0 ht0 c1 c2 c3 d2 h2
 unfold ktV at *
 rw[r1] at HCH ⊢
 clear r1
 generalize K.goods.length=ng at *
 generalize K.dishes.length=nd at *
 generalize K.hauls.length=nh at *
 generalize dsOf K xs=Ds at *
 have q0:=fun W a b c=>fld (fs:=fs) f29_0 ag25 (cs:=#[a,b,c]) (v:=a) rfl W
 have q1:=fun W a b c=>fld (fs:=fs) f29_1 ag26 (cs:=#[a,b,c]) (v:=b) rfl W
 have q2:=fun W a b c=>fld (fs:=fs) f29_2 ag27 (cs:=#[a,b,c]) (v:=c) rfl W
 have q3:=fun W a b c d=>fld (fs:=fs) f42_0 ag3 (cs:=#[a,b,c,d]) (v:=a) rfl W
 have q4:=fun W a b c d=>fld (fs:=fs) f42_1 ag3 (cs:=#[a,b,c,d]) (v:=b) rfl W
 have q5:=fun W a b c d=>fld (fs:=fs) f42_2 ag3 (cs:=#[a,b,c,d]) (v:=c) rfl W
 have q6:=fun W a b c d=>fld (fs:=fs) f42_3 ag3 (cs:=#[a,b,c,d]) (v:=d) rfl W
 have q7:=fun W a b c=>fld (fs:=fs) f46_0 ag3 (cs:=#[a,b,c]) (v:=a) rfl W
 have q8:=fun W a b c=>fld (fs:=fs) f46_1 ag3 (cs:=#[a,b,c]) (v:=b) rfl W
 have q9:=fun W a b c=>fld (fs:=fs) f46_2 ag22 (cs:=#[a,b,c]) (v:=c) rfl W
 have q10:=fun W a=>fld (fs:=fs) f48_0 ag22 (cs:=#[a]) (v:=a) rfl W
 have q11:=fun a n m W=>Qw (fs:=fs) Try.underlying25 a n m W
 have q12:=fun a n m W=>Qw (fs:=fs) Try.underlying26 a n m W
 have q13:=fun a n m W=>Qw (fs:=fs) Try.underlying27 a n m W
 have q14:=fun a n m W=>Qw (fs:=fs) Try.underlying22 a n m W
 obtain⟨V,hV⟩:∃ V,V=(w.alloc (.cells #[.slice (some ⟨gb,go,none⟩) ng gc,.slice (some ⟨db,dof,none⟩) nd dc,.slice (some ⟨hb,ho,none⟩) nh hc] 29)).alloc (.cells #[.slice (some ⟨gb,go,none⟩) ng gc,.slice (some ⟨db,dof,none⟩) nd dc,.slice (some ⟨hb,ho,none⟩) nh hc] 29):=⟨_,rfl⟩
 have hGV:Grown w V:=by rw[hV];exact (Grown.alloc _ _).trans (.alloc _ _)
 have hVb:V.heap[w.heap.size]?=some (.cells #[.slice (some ⟨gb,go,none⟩) ng gc,.slice (some ⟨db,dof,none⟩) nd dc,.slice (some ⟨hb,ho,none⟩) nh hc] 29 (0,0)):=by rw[hV];exact zt (heap_alloc_new w _) _
 have hVs:w.heap.size+2=V.heap.size:=by rw[hV];simp
 obtain⟨z1,⟨zA,zc,z2⟩,z3,z4⟩:=HZ.out
 have z1':=hGV.cell z1
 have z2':=hGV.cell z2
 have z3':=hGV.cell z3
 have z4':=hGV.cell z4
 have HGV:=Lib.hid hGV
 have HVB:=Lib.hid hVb
 have HVS:=Lib.hid hVs
 rw[hV] at z1' z2' z3' z4'
 clear z1 z2 z3 z4 hGV hVb hVs
 go_enter LK.func74,ntmps74S
 unfold stub74
 generalize htl:Qs body74=tl
 simp only[allOf,cAll,some_,one,check,ov,ou,I,lenOp,leqOp,lssOp,notOp,nilOp,fldOp,ixOp,ldOp,mvOp,addOp,num,rGood,cGood,rHaul,cHaul,rFill,fill]
 go_wp2_with fail
 rw[← hV]
 clear hV z1' z2' z3' z4'
 go_loopw [24] (fun i wr=>∃ n:Nat,n≤ng∧i=.int .i64 n∧V=wr) (fun i _=>ng-(intOf i).toNat)
 case atStart=>exact⟨0,Nat.zero_le _,rfl,rfl⟩
 case round =>
  obtain⟨i,hi,rfl,rfl⟩:=hrel
  by_cases hlt:i<ng
  ·obtain⟨a,b,c,d,k1,k2,k3,k4,l1,l2,l3,l4,l5,l6,l7,l8⟩:=HGD.out i hlt
   have j1:=HGV.out.cell k1
   have j2:=HGV.out.cell k2
   have j3:=HGV.out.cell k3
   have j4:=HGV.out.cell k4
   clear k1 k2 k3 k4
   go_wp2_with fail
   clear j1 j2 j3 j4 l1 l2 l3 l4 l5 l6 l7 l8
   go_loopw [28] (fun i wq=>∃ n:Nat,n≤nh∧i=.int .i64 n∧V=wq) (fun i _=>nh-(intOf i).toNat)
   case atStart=>exact⟨0,Nat.zero_le _,rfl,rfl⟩
   case round =>
    obtain⟨h,hh,rfl,rfl⟩:=hrel
    by_cases hht:h<nh
    ·obtain⟨hours,covers,d,pr0,pr,ne0,ne,pb,po,pc,nb,no,nn,nc,k1,k2,k3,k4,k5,k6,k7,k8,k9,k10,l1,l2,l3,l4,l5,l6,l7,l8,l9⟩:=((HH.out h i hht hlt).grown HGV.out).ex
     generalize d.toNat=dn at *
     go_wp2_with fail
     go_roundw
     case rel=>exact⟨h+1,by omega,by go_num,(by first|rfl|trivial)⟩
     case measure=>simp[intOf];omega
    ·go_wp2_with fail
     go_roundw
     case rel=>exact⟨i+1,by omega,by go_num,(by first|rfl|trivial)⟩
     case measure=>simp[intOf];omega
  ·obtain rfl:ng=i:=by omega
   clear hlt hi
   have hm1:=fun W=>zaN (fs:=fs) Try.underlying129 inf141 ng (by omega) (by omega) (by omega) W
   obtain⟨arr0,harr⟩:∃ a,a=madeCells (Value.agg #[.slice none 0 0,.int .i64 0,.bool false]).cells (ng*3):=⟨_,rfl⟩
   have hasz:arr0.size=3*ng:=by rw[harr,size_madeCells];omega
   rw[← harr] at hm1
   have HASZ:=Lib.hid hasz
   clear harr hasz
   go_wp2_with fail
   obtain⟨V4,hV4⟩:∃ W,W=(V.alloc (.cells arr0 141)).alloc (.cells #[.slice (some ⟨V.heap.size,0,none⟩) ng ng] 129):=⟨_,rfl⟩
   have a1:V4.heap[V.heap.size]?=some (.cells arr0 141 (0,0)):=by rw[hV4];exact zt (heap_alloc_new V _) _
   have a2:V4.heap[V.heap.size+1]?=some (.cells #[.slice (some ⟨V.heap.size,0,none⟩) ng ng] 129 (0,0)):=by
    rw[hV4]
    have:=heap_alloc_new (V.alloc (.cells arr0 141)) (.cells #[.slice (some ⟨V.heap.size,0,none⟩) ng ng] 129)
    simpa using this
   have a3:Grown V V4:=by rw[hV4];exact (Grown.alloc _ _).trans (.alloc _ _)
   have a4:V4.heap.size=V.heap.size+2:=by rw[hV4];simp
   rw[← hV4]
   clear hV4 hm1
   have hgw4:Grown w V4:=HGV.out.trans a3
   have a5:w.heap.size+2=V.heap.size:=HVS.out
   have HVB4:=Lib.hid (zf HVB.out a3)
   clear HVS HVB HGV
   generalize V.heap.size=C at *
   have HS:=Lib.hid (show FillAt V4 V4 Ds C ng 0 from ⟨fun _ _ _=>rfl,Nat.le_refl _,rfl,arr0,a1,HASZ.out,fun j D hj=>absurd hj (Nat.not_lt_zero _)⟩)
   have HA2:=Lib.hid a2
   have HA4:=Lib.hid a4
   have HA5:=Lib.hid a5
   have HGW4:=Lib.hid hgw4
   clear a1 a2 a3 a4 a5 hgw4
   go_loopw [23] (fun i wr=>∃ n:Nat,n≤ng∧i=.int .i64 n∧Hid (FillAt V4 wr Ds C ng n)) (fun i _=>ng-(intOf i).toNat)
   case atStart=>exact⟨0,Nat.zero_le _,rfl,HS⟩
   case round =>
    obtain⟨n,hn,rfl,hF⟩:=hrel
    by_cases hlt:n<ng
    ·obtain⟨D,hD⟩:∃ D,Ds[n]?=some D:=⟨_,List.getElem?_eq_getElem (by rw[hDs.out];exact hlt)⟩
     have hgw:Grown w wr:=by
      have e4:=HA4.out
      have e5:=HA5.out
      have e6:=HGW4.out
      exact⟨by have:=hF.out.size;omega,fun b hb=>by rw[hF.out.kept b (by omega) (by omega)];exact e6.same b hb,by rw[hF.out.os];exact e6.os⟩
     have hcall:=Lib.hid (HCH.out wr hgw n D hD)
     obtain⟨arr,k1,k2,k3⟩:=hF.out.plans
     have hPL:=Lib.hid hF.out.plans
     obtain⟨o0,p0⟩:∃ o,arr[n*3]?=some o:=⟨_,Array.getElem?_eq_getElem (by omega)⟩
     obtain⟨o1,p1⟩:∃ o,arr[n*3+1]?=some o:=⟨_,Array.getElem?_eq_getElem (by omega)⟩
     obtain⟨o2,p2⟩:∃ o,arr[n*3+2]?=some o:=⟨_,Array.getElem?_eq_getElem (by omega)⟩
     have HK1:=Lib.hid k1
     have HK2:=Lib.hid k2
     have hyl:Hid ((ysOf D).length≤16):=by
      have e1:=yN D D.hauls D.start
      have e2:=(HDT.out n D hD).1
      show (ysOf D).length≤16
      rw[zad]
      unfold zg
      omega
     have hp3:∀ s m,Hid ((put3 arr (n*3) (.slice s (zg D).1.length m) (.int .i64 (zg D).2.1) (.bool (zg D).2.2))[n*3]?=some (.slice s (zg D).1.length m)):=fun s m=>by
      show _=_
      unfold put3
      rw[Array.getElem?_setIfInBounds_ne (by omega),Array.getElem?_setIfInBounds_ne (by omega),Array.getElem?_setIfInBounds_self_of_lt (by omega)]
     clear hgw k3 k1 k2
     go_wp2_with (first|(go_at_call 107;refine hcall.out.mono ?_;rintro e w1 ⟨v,rfl,hg1,s,mm,rfl,hload⟩;have k1w:=zf HK1.out hg1;have y0:=(za k1w (n*3)).trans p0;have y1:=(za k1w (n*3+1)).trans p1;have y2:=(za k1w (n*3+2)).trans p2;have f0:=zk k1w (n*3);have f1:=zk k1w (n*3+1);have f2:=zk k1w (n*3+2);have HK1w:=Lib.hid k1w;clear k1w;have HG1:=Lib.hid hg1;have HLD:=Lib.hid hload;clear hg1 hload)|(at_builtin;obtain⟨w2,hw2⟩:∃ W,W=((w1.setCell ⟨C,n*3,none⟩ (.slice s (zg D).1.length mm)).setCell ⟨C,n*3+1,none⟩ (.int .i64 (zg D).2.1)).setCell ⟨C,n*3+2,none⟩ (.bool (zg D).2.2):=⟨_,rfl⟩;rw[← hw2];obtain⟨r1,r2,r3,r4,r5⟩:=zdk HG1.out HK1.out HLD.out hw2;refine L.wpl_app_ints rfl (.const (.slice none 0 0)) (.tmp 27) 22 rfl w2.heap.size ((like_under 22).trans Try.underlying22) inf3 none 0 [] rfl (L.OwnInts.nil _ _) w2.heap.size s mm (ysOf D) (by rw[zad];rfl) r5 (by have:=hyl.out;simp;omega) (Nat.le_refl _) ?_;intro A2 c2 w4 hown hg4 hat;have q1:=(hg4.block C (zj r1) (by simp[Value.ownBlock])).trans r1;have q2:=za q1 (n*3);have q3:=zk q1 (n*3);rw[(hp3 _ _).out] at q2;have HOW:=Lib.hid hown;have HG4:=Lib.hid hg4;have HW2:=Lib.hid hw2;clear hown hg4 hat q1 r1 r2 r3 r4 r5 hw2 y0 y1 y2 f0 f1 f2))
     go_roundw
     case rel=>exact⟨n+1,by omega,by go_num,FillAt.put hF.out (by have:=HA4.out;omega) hD hlt HG1.out HK1.out HK2.out HLD.out HW2.out HG4.out (by simpa using HOW.out)⟩
     case measure=>simp[intOf];omega
    ·obtain rfl:ng=n:=by omega
     clear hlt hn HS HCH HGD HH
     have hm2:=fun W=>zaN (fs:=fs) Try.underlying32 inf22 nh (by omega) (by omega) (by omega) W
     simp only[made22] at hm2
     have b1:wr.heap[w.heap.size]?=some (.cells #[.slice (some ⟨gb,go,none⟩) ng gc,.slice (some ⟨db,dof,none⟩) nd dc,.slice (some ⟨hb,ho,none⟩) nh hc] 29 (0,0)):=(hF.out.kept _ (by have:=HA4.out;have:=HA5.out;omega) (by have:=HA5.out;omega)).trans HVB4.out
     have b2:wr.heap[C+1]?=some (.cells #[.slice (some ⟨C,0,none⟩) ng ng] 129 (0,0)):=(hF.out.kept _ (by have:=HA4.out;omega) (by omega)).trans HA2.out
     have y1:=za b1 2
     have y2:=za b2 0
     have hlt2:=zj b2
     simp only[List.getElem?_toArray,List.getElem?_cons_succ,List.getElem?_cons_zero] at y1 y2
     go_wp2_with fail
     subst htl
     refine wp_tail (by rfl) ?_
     go_wp2_with fail
     obtain⟨Wf,rfl⟩:∃ W,W=wr:=⟨_,rfl⟩
     have HT0:=Lib.hid (show TailAt Wf (Wf.alloc (.cells (Array.replicate nh (.slice none 0 0)) 22)) Ds Wf.heap.size nh 0 0 from ⟨fun b hb=>Below.heap_alloc _ _ _ hb,by simp,rfl,by rw[rowsTo_zero];exact RowsAt.made (heap_alloc_new _ _),fun j D hj=>absurd hj (Nat.not_lt_zero _)⟩)
     have HPL:=Lib.hid hF.out.plans
     have HCM:=Lib.hid hlt2
     have hgf:Grown w Wf:=by
      have e4:=HA4.out
      have e5:=HA5.out
      have e6:=HGW4.out
      exact⟨by have:=hF.out.size;omega,fun b hb=>by rw[hF.out.kept b (by omega) (by omega)];exact e6.same b hb,by rw[hF.out.os];exact e6.os⟩
     have HGF:=Lib.hid hgf
     have HFIN:Hid (∀ W n h,TailAt Wf W Ds Wf.heap.size nh n h→Grown w W):=fun W n h hT=>⟨by have:=hT.size;have:=hgf.size;omega,fun b hb=>(hT.kept b (by have:=hgf.size;omega)).trans (hgf.same b hb),hT.os.trans hgf.os⟩
     clear y1 y2 b1 b2 hlt2 hgf hm2 HA2 HA4 HA5 HGW4 HVB4 HCM
     generalize hM:Wf.heap.size=M at HT0 HFIN ⊢
     have HM:=Lib.hid hM
     clear hM
     have hx0:Value.int .i64 0=.int .i64 ((jC Ds 0:Nat):Int):=by rw[costTo_zero];rfl
     have HX0:=Lib.hid hx0
     clear hx0
     go_loopw [36,11] (fun i c wr=>∃ n:Nat,n≤ng∧i=.int .i64 n∧c=.int .i64 (jC Ds n)∧Hid (TailAt Wf wr Ds M nh n 0)) (fun i _ _=>ng-(intOf i).toNat)
     case atStart=>exact⟨0,Nat.zero_le _,rfl,HX0.out,HT0⟩
     case round =>
      obtain⟨n,hn,rfl,rfl,hT⟩:=hrel
      clear HT0 HX0
      by_cases hlt:n<ng
      ·obtain⟨D,hD⟩:∃ D,Ds[n]?=some D:=⟨_,List.getElem?_eq_getElem (by rw[hDs.out];exact hlt)⟩
       obtain⟨arr,k1,k2,k3⟩:=HPL.out
       obtain⟨s,m,p0,p1,p2,p3⟩:=k3 n D hlt hD
       have hCM:C<M:=by rw[← HM.out];exact zj k1
       have e1:=(hT.out.kept C hCM).trans k1
       rw[Nat.mul_comm 3 n] at p0 p1 p2
       have d0:=(za e1 (n*3)).trans p0
       have d1:=(za e1 (n*3+1)).trans p1
       have d2:=(za e1 (n*3+2)).trans p2
       clear k1 k2 k3 e1 p0 p1 p2
       cases hno:(zg D).2.2
       ·have hfull:(zg D).1.length=nh:=(Jf D D.hauls D.start hno).trans (HDT.out n D hD).1
        rw[hfull] at d0
        rw[hno] at d2
        obtain⟨x0,hx0⟩:=jB (l:=(zg D).1) (by omega)
        obtain⟨b,off,rfl,hbC,hcx0⟩:=p3 0 x0 hx0
        have HP3:=Lib.hid p3
        have HFU:=Lib.hid hfull
        have HNO:=Lib.hid hno
        have hcost:=(HDT.out n D hD).2
        have hct:jC Ds n≤n*(5*65025):=zck (fun E hE=>by obtain⟨q,hq⟩:=List.getElem?_of_mem hE;exact (HDT.out q E hq).2) n
        have hwr:wrap64 (((jC Ds n:Nat):Int)+(((zg D).2.1:Nat):Int))=((jC Ds (n+1):Nat):Int):=by
         rw[YU hD,Int.natCast_add]
         have h5:n*(5*65025)≤3*(5*65025):=Nat.mul_le_mul_right _ (by omega)
         exact IntWalk.wrap64_in _ (by omega)
        have HWR:=Lib.hid hwr
        have HI0:=Lib.hid (show TailIn Wf (wr.alloc (.cells #[.slice (some ⟨b,off,none⟩) nh m,.int .i64 (zg D).2.1,.bool false] 141)) Ds M nh n 0 wr.heap.size #[.slice (some ⟨b,off,none⟩) nh m,.int .i64 (zg D).2.1,.bool false] from ⟨hT.out.grown (Grown.alloc _ _),heap_alloc_new _ _⟩)
        clear p3 hfull hno hcx0 hx0 hcost hct hwr
        go_wp2_with fail
        clear d0 d1 d2 hT
        generalize wr.heap.size=bp at *
        go_loopw [45] (fun i wr=>∃ h:Nat,h≤nh∧i=.int .i64 h∧Hid (TailIn Wf wr Ds M nh n h bp #[.slice (some ⟨b,off,none⟩) nh m,.int .i64 (zg D).2.1,.bool false])) (fun i _=>nh-(intOf i).toNat)
        case atStart=>exact⟨0,Nat.zero_le _,rfl,HI0⟩
        case round =>
         obtain⟨h,hh,rfl,hI⟩:=hrel
         clear HI0
         by_cases hht:h<nh
         ·obtain⟨A',c',l,hl,j1,j2,j3⟩:=hI.out.put hD hht
          obtain⟨x,hx⟩:∃ x,(zg D).1[h]?=some x:=⟨_,List.getElem?_eq_getElem (by have:=HFU.out;omega)⟩
          obtain⟨b',off',e9,hbC',hcx⟩:=HP3.out h x hx
          cases e9
          have hxl:ldAt h D=(x:Int):=by unfold ldAt;simp[List.getD,hx]
          have hbM:b<M:=by
           rw[← HM.out]
           unfold World.cell? at hcx
           split at hcx
           ·rename_i hq
            exact zj hq
           ·cases hcx
          have hcx':wr.cell? ⟨b,off+h,none⟩=some (.int .i64 x):=(World.cell?_of_block (a:=⟨b,off+h,none⟩) (hI.out.tail.kept b hbM)).trans hcx
          rw[hxl] at j3
          have HJ2:=Lib.hid j2
          have HJ3:=Lib.hid j3
          have hMs:=hI.out.tail.size
          clear hx hcx hbM j2 j3 hxl
          go_wp2_with (at_builtin;refine L.wpl_app_ints rfl (.tmp 55) (.tmp 57) 22 rfl M ((like_under 22).trans Try.underlying22) inf3 A' c' l rfl (qr HJ2.out (Grown.alloc _ _)) (wr.heap.size+1) (some ⟨wr.heap.size,0,none⟩) 1 [(x:Int)] rfl (ints_one _ _) (by simp;omega) (by simp;omega) ?_;intro A2 c2 w4 hown hg4 hat;obtain⟨q1,q2,q3⟩:=HJ3.out A2 c2 w4 hown hg4 hat;have HQ3:=Lib.hid q3;clear q3 hown hg4 hat)
          go_roundw
          case rel=>exact⟨h+1,by omega,by go_num,by simpa using HQ3⟩
          case measure=>simp[intOf];omega
         ·obtain rfl:nh=h:=by omega
          have hb:=hI.out.box
          have v1:=za hb 1
          simp only[List.getElem?_toArray,List.getElem?_cons_succ,List.getElem?_cons_zero] at v1
          have hTn:=Lib.hid (hI.out.tail.next hD HNO.out)
          clear hb hI
          go_wp2_with fail
          go_roundw
          case rel=>exact⟨n+1,by omega,by go_num,by rw[HWR.out],hTn⟩
          case measure=>simp[intOf];omega
       ·rw[hno] at d2
        have HBAD:=Lib.hid (show ∃ D∈Ds,(zg D).2.2=true from ⟨D,List.mem_of_getElem? hD,hno⟩)
        clear hno
        go_wp2_with fail
        refine bodyPost_ret (v:=.tuple #[.slice none 0 0,.int .i64 0,.bool false]) (by simp[results,zaq,go_sem]) rfl ⟨_,rfl,(HFIN.out _ _ _ hT.out).trans (Grown.alloc _ _),.inl ⟨HBAD.out,rfl⟩⟩
      ·obtain rfl:ng=n:=by omega
       have hD2:DishesAt wr (some ⟨M,0,none⟩) (jk Ds nh ng 0):=hT.out.rows.dishes fun l hl=>by
        unfold jk at hl
        obtain⟨j,_,rfl⟩:=List.mem_map.1 hl
        simp only[List.length_map,List.length_take]
        split<;>omega
       have HD2:=Lib.hid hD2
       have HALL:=Lib.hid (show ∀ D∈Ds,(zg D).2.2=false from fun D hD=>by
        obtain⟨j,hj⟩:=List.getElem?_of_mem hD
        exact hT.out.no j D (by have:=(List.getElem?_eq_some_iff.1 hj).1;have:=hDs.out;omega) hj)
       clear hD2
       go_wp2_with fail
       refine bodyPost_ret (v:=.tuple #[.slice (some ⟨M,0,none⟩) nh nh,.int .i64 (jC Ds ng),.bool true]) (by simp[results,zaq,go_sem]) rfl ⟨_,rfl,HFIN.out _ _ _ hT.out,.inr ⟨HALL.out,M,?_,?_⟩⟩
       ·rw[hDs.out,jM]
       ·rw[hDs.out];exact HD2.out
end
end
section
def noneB (K:Kt) (xs:List Int):Bool:=(dsOf K xs).any fun D=>(zg D).2.2
def zdD (K:Kt) (xs:List Int):List (List Int):=jk (dsOf K xs) K.hauls.length (dsOf K xs).length 0
def jw (K:Kt) (xs:List Int):Nat:=jC (dsOf K xs) (dsOf K xs).length
section
variable {fs:Array Func} [LikeS fs]
theorem zcG (K:Kt) (gA dA hA:Option Addr) (gc dc hc:Nat) (xs:List Int) (mA:Option Addr) (mc:Nat) (w:World) (k:KtAt w K gA dA hA) (m:Ints w mA xs) (hC:zC K=0) (hR:qk K.dishes.length K.hauls.length xs=0) (hB:noneB K xs=true) :
  Calls (Pf fs) 74 #[ktV K gA dA hA gc dc hc,.slice mA xs.length mc] w fun e w'=>e=.returned (.tuple #[.slice none 0 0,.int .i64 0,.bool false])∧Grown w w':=
 (zer K gA dA hA gc dc hc xs mA mc w k m hC hR).mono fun e w' ⟨v,e1,g,hA⟩=>by
  rcases hA with ⟨_,rfl⟩|⟨h,_⟩
  ·exact⟨e1,g⟩
  ·unfold noneB at hB
   rw[List.any_eq_true] at hB
   obtain⟨D,hD,hx⟩:=hB
   rw[h D hD] at hx
   cases hx
theorem zbw (K:Kt) (gA dA hA:Option Addr) (gc dc hc:Nat) (xs:List Int) (mA:Option Addr) (mc:Nat) (w:World) (k:KtAt w K gA dA hA) (m:Ints w mA xs) (hC:zC K=0) (hR:qk K.dishes.length K.hauls.length xs=0) (hB:noneB K xs=false) :
  Calls (Pf fs) 74 #[ktV K gA dA hA gc dc hc,.slice mA xs.length mc] w fun e w'=>∃ M,e=.returned (.tuple #[.slice (some ⟨M,0,none⟩) K.hauls.length K.hauls.length,.int .i64 (jw K xs),.bool true])∧Grown w w'∧DishesAt w' (some ⟨M,0,none⟩) (zdD K xs):=
 (zer K gA dA hA gc dc hc xs mA mc w k m hC hR).mono fun e w' ⟨v,e1,g,hA⟩=>by
  rcases hA with ⟨⟨D,hD,hx⟩,rfl⟩|⟨h,M,rfl,h2⟩
  ·have:=List.any_eq_false.1 hB D hD
   exact absurd hx this
  ·exact⟨M,by rw[e1,jM];rfl,g,h2⟩
set_option maxRecDepth 20000 in
theorem can_any (K:Kt) (gA dA hA:Option Addr) (gc dc hc:Nat) (xs:List Int) (mA:Option Addr) (mc:Nat) (w:World) (k:KtAt w K gA dA hA) (m:Ints w mA xs) (hC:zC K=0) (hR:qk K.dishes.length K.hauls.length xs=0) :
  Calls (Pf fs) 71 #[ktV K gA dA hA gc dc hc,.slice mA xs.length mc] w fun e w'=>e=.returned (.bool (!noneB K xs))∧Grown w w':=by
 have HB:=Lib.hid (Grown.alloc w (.cells #[.slice gA K.goods.length gc,.slice dA K.dishes.length dc,.slice hA K.hauls.length hc] 29))
 cases hB:noneB K xs
 ·have hA:=fun W (g:Grown w W)=>zbw (fs:=fs) K gA dA hA gc dc hc xs mA mc W (k.grown g) (m.grown g) hC hR hB
  have HA:=Lib.hid hA
  clear hA k m hC hR hB
  unfold ktV at *
  go_enter LK.func71,Try.ntmps71
  go_wp2_with (go_at_call 74;refine (HA.out _ HB.out).mono ?_;rintro e w1 ⟨M,rfl,hg,hd⟩)
  go_ret
  exact⟨rfl,HB.out.trans hg⟩
 ·have hA:=fun W (g:Grown w W)=>zcG (fs:=fs) K gA dA hA gc dc hc xs mA mc W (k.grown g) (m.grown g) hC hR hB
  have HA:=Lib.hid hA
  clear hA k m hC hR hB
  unfold ktV at *
  go_enter LK.func71,Try.ntmps71
  go_wp2_with (go_at_call 74;refine (HA.out _ HB.out).mono ?_;rintro e w1 ⟨rfl,hg⟩)
  go_ret
  exact⟨rfl,HB.out.trans hg⟩
inductive ChAt (K:Kt) (xs:List Int) (w:World):Value→Prop
 | asked:zW K xs≠0→ChAt K xs w (.tuple #[.slice none 0 0,.int .i64 0,.int .i64 (zW K xs)])
 | bad:zW K xs=0→noneB K xs=true→ChAt K xs w (.tuple #[.slice none 0 0,.int .i64 0,.int .i64 11])
 | good:zW K xs=0→noneB K xs=false→∀ M,DishesAt w (some ⟨M,0,none⟩) (zdD K xs)→ChAt K xs w (.tuple #[.slice (some ⟨M,0,none⟩) K.hauls.length K.hauls.length,.int .i64 (jw K xs),.int .i64 0])
theorem jU {K:Kt} {xs:List Int} (h:zW K xs=0):zC K=0∧qk K.dishes.length K.hauls.length xs=0:=by
 unfold zW at h
 split at h
 ·rename_i h1;exact absurd h h1
 ·rename_i h1
  exact⟨Decidable.not_not.1 h1,h⟩
set_option maxRecDepth 20000 in
theorem cheapest_any (K:Kt) (gA dA hA:Option Addr) (gc dc hc:Nat) (xs:List Int) (mA:Option Addr) (mc:Nat) (w:World) (k:KtAt w K gA dA hA) (m:Ints w mA xs) (hlen:xs.length≤1000) :
  Calls (Pf fs) 29 #[ktV K gA dA hA gc dc hc,.slice mA xs.length mc] w fun e w'=>∃ v,e=.returned v∧Grown w w'∧ChAt K xs w' v:=by
 have HGB:=Lib.hid (Grown.alloc w (.cells #[.slice gA K.goods.length gc,.slice dA K.dishes.length dc,.slice hA K.hauls.length hc] 29))
 have hC:=fun W (g:Grown w W)=>ZH (fs:=fs) K gA dA hA gc dc hc xs mA mc W (k.grown g) (m.grown g) hlen
 have HC:=Lib.hid hC
 have HB:=Lib.hid (heap_alloc_new w (.cells #[.slice gA K.goods.length gc,.slice dA K.dishes.length dc,.slice hA K.hauls.length hc] 29))
 have hY:∀ W,Grown (w.alloc (.cells #[.slice gA K.goods.length gc,.slice dA K.dishes.length dc,.slice hA K.hauls.length hc] 29)) W→W.cell? ⟨w.heap.size,0,none⟩=some (.slice gA K.goods.length gc)∧W.cell? ⟨w.heap.size,1,none⟩=some (.slice dA K.dishes.length dc)∧W.cell? ⟨w.heap.size,2,none⟩=some (.slice hA K.hauls.length hc):=fun W g =>
  ⟨za (zf HB.out g) 0,za (zf HB.out g) 1,za (zf HB.out g) 2⟩
 have HY:=Lib.hid hY
 clear hY hC
 by_cases h1:zW K xs=0
 ·obtain⟨hC,hR⟩:=jU h1
  have H1:=Lib.hid h1
  rw[h1] at HC
  cases hB:noneB K xs
  ·have hA:=fun W (g:Grown w W)=>zbw (fs:=fs) K gA dA hA gc dc hc xs mA mc W (k.grown g) (m.grown g) hC hR hB
   have HA:=Lib.hid hA
   have HBB:=Lib.hid hB
   clear hA k m hC hR hB h1
   unfold ktV at *
   go_enter LK.func29,Try.ntmps29
   go_wp2_with (first|(go_at_call 69;refine (HC.out _ HGB.out).mono ?_;rintro e w1 ⟨rfl,hg1⟩;have hy:=HY.out w1 hg1;have HG1:=Lib.hid (HGB.out.trans hg1);clear hg1)|(go_at_call 74;refine (HA.out _ HG1.out).mono ?_;rintro e w1 ⟨M,rfl,hg,hd⟩))
   refine bodyPost_ret (v:=.tuple #[.slice (some ⟨M,0,none⟩) K.hauls.length K.hauls.length,.int .i64 (jw K xs),.int .i64 0]) (by simp[results,Try.results29,go_sem]) rfl ⟨_,rfl,HG1.out.trans hg,.good H1.out HBB.out M hd⟩
  ·have hA:=fun W (g:Grown w W)=>zcG (fs:=fs) K gA dA hA gc dc hc xs mA mc W (k.grown g) (m.grown g) hC hR hB
   have HA:=Lib.hid hA
   have HBB:=Lib.hid hB
   clear hA k m hC hR hB h1
   unfold ktV at *
   go_enter LK.func29,Try.ntmps29
   go_wp2_with (first|(go_at_call 69;refine (HC.out _ HGB.out).mono ?_;rintro e w1 ⟨rfl,hg1⟩;have hy:=HY.out w1 hg1;have HG1:=Lib.hid (HGB.out.trans hg1);clear hg1)|(go_at_call 74;refine (HA.out _ HG1.out).mono ?_;rintro e w1 ⟨rfl,hg⟩))
   refine bodyPost_ret (v:=.tuple #[.slice none 0 0,.int .i64 0,.int .i64 11]) (by simp[results,Try.results29,go_sem]) rfl ⟨_,rfl,HG1.out.trans hg,.bad H1.out HBB.out⟩
 ·have hE:Hid (∀ W,ChAt K xs W (.tuple #[.slice none 0 0,.int .i64 0,.int .i64 (zW K xs)])):=fun W=>.asked h1
  generalize zW K xs=q at h1 HC hE
  clear k m
  unfold ktV at *
  go_enter LK.func29,Try.ntmps29
  go_wp2_with (go_at_call 69;refine (HC.out _ HGB.out).mono ?_;rintro e w1 ⟨rfl,hg1⟩)
  refine bodyPost_ret (v:=.tuple #[.slice none 0 0,.int .i64 0,.int .i64 q]) (by simp[results,Try.results29,go_sem]) rfl ⟨_,rfl,HGB.out.trans hg1,hE.out _⟩
end
end
end Go.Gal
