/- Walks: 'from' where the plan is not known. A larder, as its cells tell it. What the round of 'from' holds behind the recursive call. A number ahead of loads: append([]int(one), rest...). -/
import Derived.Test.YtlgiofglcgbjgaaM24
namespace Go.Gal
open Go Go.Par Go.Proofs Go.RowKit
section
section
variable {fs:Array Func} [Like fs]
structure LoopAt (A:Kit1) (i:Nat) (D:Good1) (kB nB gB oB mB fB M:Nat) (es:List Ent) (h t:Nat) (H:Haul1) (hs:List Haul1) (P:Value) (w:World) (k:Nat) (wr:World) (es':List Ent) (ck':Nat) (s:Option Addr) (m:Nat):Prop where
 kn:Kn wr A i D kB nB gB oB mB fB M es' ck'
 turn:Turn M w wr
 new:∀ x∈es',x∈es∨h+1≤x.1.1
 hk:k≤tries D H t
 bat:wr.heap[w.heap.size]?=some (.cells #[int h,int t] 161 (0,0))
 res:wr.heap[w.heap.size+1]?=some (.cells #[.slice none 0 0,.int .i64 0,.bool false] 141 (0,0))
 bh:wr.heap[w.heap.size+1+1+1]?=some (.cells #[int H.hours,int H.covers,P] 46 (0,0))
 best:wr.heap[w.heap.size+1+1+1+1]?=some (.cells #[.slice s (zz D H hs t k).1.length m,.int .i64 (zz D H hs t k).2.1,.bool (zz D H hs t k).2.2] 141 (0,0))
 loads:LoadsAt wr (zz D H hs t k).1 s m
section
omit [Like fs]
variable {A:Kit1} {i:Nat} {D:Good1} {kB nB gB oB mB fB M:Nat} {es es':List Ent} {h t:Nat} {H:Haul1} {hs:List Haul1} {P:Value} {w wr:World} {k ck':Nat} {s:Option Addr} {m:Nat}
def bestV (D:Good1) (H:Haul1) (hs:List Haul1) (t k:Nat) (s:Option Addr) (m:Nat):Value:=.agg #[.slice s (zz D H hs t k).1.length m,.int .i64 (zz D H hs t k).2.1,.bool (zz D H hs t k).2.2]
theorem jE (w:World) (g:Nat) (es:List Ent) (c:Nat) {b:Nat} (hb:b≠g):(yh w g es c).heap[b]?=w.heap[b]?:=by
 unfold yh
 simp only
 rw[Array.getElem?_setIfInBounds_ne (fun e=>hb e.symm)]
theorem set_map_self {w:World} {g:Nat} (es:List Ent) (c:Nat) (hg:g<w.heap.size):(yh w g es c).heap[g]?=some (.map (ents es) c):=by
 unfold yh
 simp only
 rw[Array.getElem?_setIfInBounds_self_of_lt hg]
theorem LoopAt.ne (L:LoopAt A i D kB nB gB oB mB fB M es h t H hs P w k wr es' ck' s m) {b:Nat} {c:Array Value} {ty:TypeId} (hb:wr.heap[b]?=some (.cells c ty (0,0))):b≠M:=fun e=>L.kn.noCells _ _ _ (by rw[← e];exact hb)
theorem LoopAt.absent (L:LoopAt A i D kB nB gB oB mB fB M es h t H hs P w k wr es' ck' s m) (hv:known es (h,t)=none):∀ e∈es',e.1≠(h,t):=fun e he hc=>by
 rcases L.new e he with h1|h1
 ·unfold known at hv
  have h2:=List.find?_eq_none.1 (Option.map_eq_none_iff.1 hv) e h1
  simp[hc] at h2
 ·rw[hc] at h1
  exact absurd h1 (by simp)
theorem PlanAt.rows {w w':World} (h:∀ (b:Nat) (c:Array Value),w.heap[b]?=some (.cells c 3 (0,0))→w'.heap[b]?=some (.cells c 3 (0,0))) {p:Plan} {v:Value} (k:PlanAt w p v):PlanAt w' p v:=by
 obtain⟨s,m,hv,hl⟩:=k
 refine⟨s,m,hv,?_⟩
 rcases hl with hl|⟨h1,b,h2,h3,h4,h5⟩
 ·exact .inl hl
 ·exact .inr ⟨h1,b,h2,h3,h4,h _ _ h5⟩
theorem Kn.move {w2:World} {es0 es2:List Ent} {ck0 ck2:Nat} (K:Kn w A i D kB nB gB oB mB fB M es0 ck0) (L:Kn wr A i D kB nB gB oB mB fB M es' ck') (t:Turn M w w2) (hm:w2.heap[M]?=some (.map (ents es2) ck2))
  (h3:∀ (b:Nat) (c:Array Value),wr.heap[b]?=some (.cells c 3 (0,0))→w2.heap[b]?=some (.cells c 3 (0,0))) (hr:∀ e∈es2,e∈es'∨PlanAt w2 (zU D (D.hauls.drop e.1.1) e.1.2) e.2.1):Kn w2 A i D kB nB gB oB mB fB M es2 ck2:=
 K.turn t hm fun e he=>.inr ((hr e he).elim (fun h1=>(L.right e h1).rows h3) id)
theorem LoopAt.finish (K:Kn w A i D kB nB gB oB mB fB M es ck') {ck:Nat} (L:LoopAt A i D kB nB gB oB mB fB M es h t H hs P w k wr es' ck s m) (hk:k=tries D H t) (hd:D.hauls.drop h=H::hs) (q:Nat) :
  je A i D kB nB gB oB mB fB M es h t w (.returned (bestV D H hs t k s m)) (((((yh wr M (es'++[((h,t),bestV D H hs t k s m,ck)]) (ck+1)).drewN q).setCell ⟨w.heap.size+1,0,none⟩ (.slice s (zz D H hs t k).1.length m)).setCell ⟨w.heap.size+1,1,none⟩ (.int .i64 (zz D H hs t k).2.1)).setCell ⟨w.heap.size+1,2,none⟩ (.bool (zz D H hs t k).2.2)):=by
 have hMl:=zj L.kn.map
 have hN:=zj L.res
 have hNM:=L.ne L.res
 have hMw:=zj K.map
 obtain⟨W1,hW1⟩:∃ W1,W1=yh wr M (es'++[((h,t),bestV D H hs t k s m,ck)]) (ck+1):=⟨_,rfl⟩
 have hs1:W1.heap.size=wr.heap.size:=by rw[hW1];simp[yh]
 have hb1:∀ b,b≠M→W1.heap[b]?=wr.heap[b]?:=fun b hm=>by rw[hW1];exact jE _ _ _ _ hm
 have hp1:PlanAt wr (zU D (D.hauls.drop h) t) (bestV D H hs t k s m):=by
  rw[hd,← zbu,← hk]
  exact⟨s,m,rfl,L.loads⟩
 rw[← hW1]
 obtain⟨W2,hW2⟩:∃ W2,W2=((((W1.drewN q).setCell ⟨w.heap.size+1,0,none⟩ (.slice s (zz D H hs t k).1.length m)).setCell ⟨w.heap.size+1,1,none⟩ (.int .i64 (zz D H hs t k).2.1)).setCell ⟨w.heap.size+1,2,none⟩ (.bool (zz D H hs t k).2.2)):=⟨_,rfl⟩
 have hs2:W2.heap.size=W1.heap.size:=by rw[hW2,zv,zv,zv];rfl
 have hb2:∀ b,b≠w.heap.size+1→W2.heap[b]?=W1.heap[b]?:=fun b hb=>by
  rw[hW2,Below.heap_setCell _ _ _ _ (by simpa using hb),Below.heap_setCell _ _ _ _ (by simpa using hb),Below.heap_setCell _ _ _ _ (by simpa using hb)]
  rfl
 have hos:W2.os=wr.os:=by rw[hW2,hW1];rfl
 rw[← hW2]
 have tw:Turn M w W2:=⟨by have:=L.turn.size;omega,fun b hb hm=>by rw[hb2 b (by omega),hb1 b hm];exact L.turn.same b hb hm,hos.trans L.turn.os⟩
 have h3:∀ (b:Nat) (c:Array Value),wr.heap[b]?=some (.cells c 3 (0,0))→W2.heap[b]?=some (.cells c 3 (0,0)):=fun b c hc=>by
  have n1:b≠w.heap.size+1:=fun e=>by
   rw[e,L.res] at hc
   simp at hc
  rw[hb2 b n1,hb1 b (L.ne hc)]
  exact hc
 have hm2:W2.heap[M]?=some (.map (ents (es'++[((h,t),bestV D H hs t k s m,ck)])) (ck+1)):=by
  rw[hb2 M (by omega),hW1]
  exact set_map_self _ _ hMl
 refine⟨_,_,_,rfl,tw,K.move L.kn tw hm2 h3 fun e he=>?_,fun x hx=>?_,hp1.rows h3⟩
 ·rcases List.mem_append.1 he with h1|h1
  ·exact .inl h1
  ·rw[List.mem_singleton] at h1
   subst h1
   exact .inr (hp1.rows h3)
 ·rcases List.mem_append.1 hx with h1|h1
  ·exact (L.new x h1).imp id fun h2=>by omega
  ·rw[List.mem_singleton] at h1
   subst h1
   exact .inr (Nat.le_refl _)
end
section
omit [Like fs]
variable {A:Kit1} {i:Nat} {D:Good1} {kB nB gB oB mB fB M:Nat} {es:List Ent} {h t:Nat} {H:Haul1} {hs:List Haul1} {P:Value} {w:World} {ck:Nat}
theorem LoopAt.start (K:Kn w A i D kB nB gB oB mB fB M es ck) (q:Nat) :
  LoopAt A i D kB nB gB oB mB fB M es h t H hs P w 0 ((((((w.alloc (.cells #[int h,int t] 161)).alloc (.cells #[.slice none 0 0,.int .i64 0,.bool false] 141)).drewN q).alloc (.cells #[.slice none 0 0,.int .i64 0,.bool false] 141)).alloc (.cells #[int H.hours,int H.covers,P] 46)).alloc (.cells #[.slice none 0 0,.int .i64 0,.bool true] 141)) es ck none 0:=by
 have hg:Grown w ((((((w.alloc (.cells #[int h,int t] 161)).alloc (.cells #[.slice none 0 0,.int .i64 0,.bool false] 141)).drewN q).alloc (.cells #[.slice none 0 0,.int .i64 0,.bool false] 141)).alloc (.cells #[int H.hours,int H.covers,P] 46)).alloc (.cells #[.slice none 0 0,.int .i64 0,.bool true] 141)):=
  ((((((Grown.alloc _ _).trans (.alloc _ _)).drewN q).trans (.alloc _ _)).trans (.alloc _ _)).trans (.alloc _ _))
 have a1:=heap_alloc_new w (.cells #[int h,int t] 161)
 have a2:=heap_alloc_new (w.alloc (.cells #[int h,int t] 161)) (.cells #[.slice none 0 0,.int .i64 0,.bool false] 141)
 have a3:=heap_alloc_new ((((w.alloc (.cells #[int h,int t] 161)).alloc (.cells #[.slice none 0 0,.int .i64 0,.bool false] 141)).drewN q).alloc (.cells #[.slice none 0 0,.int .i64 0,.bool false] 141)) (.cells #[int H.hours,int H.covers,P] 46)
 have a4:=heap_alloc_new (((((w.alloc (.cells #[int h,int t] 161)).alloc (.cells #[.slice none 0 0,.int .i64 0,.bool false] 141)).drewN q).alloc (.cells #[.slice none 0 0,.int .i64 0,.bool false] 141)).alloc (.cells #[int H.hours,int H.covers,P] 46)) (.cells #[.slice none 0 0,.int .i64 0,.bool true] 141)
 have z1:(w.alloc (.cells #[int h,int t] 161)).heap.size=w.heap.size+1:=by simp
 have z2:((((w.alloc (.cells #[int h,int t] 161)).alloc (.cells #[.slice none 0 0,.int .i64 0,.bool false] 141)).drewN q).alloc (.cells #[.slice none 0 0,.int .i64 0,.bool false] 141)).heap.size=w.heap.size+1+1+1:=by simp
 have z3:(((((w.alloc (.cells #[int h,int t] 161)).alloc (.cells #[.slice none 0 0,.int .i64 0,.bool false] 141)).drewN q).alloc (.cells #[.slice none 0 0,.int .i64 0,.bool false] 141)).alloc (.cells #[int H.hours,int H.covers,P] 46)).heap.size=w.heap.size+1+1+1+1:=by simp
 rw[z1] at a2
 rw[z2] at a3
 rw[z3] at a4
 refine⟨K.grown hg,.grown hg,fun x hx=>.inl hx,Nat.zero_le _,?_,?_,?_,?_,.inl ⟨rfl,rfl,rfl⟩⟩
 ·exact zt (zt (zt (w:=(((w.alloc (.cells #[int h,int t] 161)).alloc (.cells #[.slice none 0 0,.int .i64 0,.bool false] 141)).drewN q)) (zt a1 _) _) _) _
 ·exact zt (zt (zt (w:=(((w.alloc (.cells #[int h,int t] 161)).alloc (.cells #[.slice none 0 0,.int .i64 0,.bool false] 141)).drewN q)) a2 _) _) _
 ·exact zt a3 _
 ·exact a4
end
end
end
section
structure Only (L:Nat) (w w':World):Prop where
 size:w'.heap.size=w.heap.size
 same:∀ b,b≠L→w'.heap[b]?=w.heap[b]?
 os:w'.os=w.os
structure LarderAt (w:World) (L:Nat) (A:Kit1) (i:Nat) (n:Int) (m:Nat):Prop where
 ex:∃ cs,w.heap[L]?=some (.cells cs 125 (0,0))∧cs[0]?=some A.gs∧cs[2]?=some A.hs∧cs[3+i]?=some (.int .i64 n)∧cs[6+i]?=some (int m)
theorem Only.grown {L:Nat} {w0 w w':World} (h:Grown w0 w) (k:Only L w w') (hL:w0.heap.size≤L):Grown w0 w':=
 ⟨by rw[k.size];exact h.size,fun b hb=>(k.same b (by omega)).trans (h.same b hb),k.os.trans h.os⟩
theorem Only.trans {L:Nat} {a b c:World} (h:Only L a b) (k:Only L b c):Only L a c:=⟨k.size.trans h.size,fun x hx=>(k.same x hx).trans (h.same x hx),k.os.trans h.os⟩
theorem Only.drewN {L:Nat} {a b:World} (h:Only L a b) (q:Nat):Only L a (b.drewN q):=⟨h.size,h.same,h.os⟩
theorem only_refl (L:Nat) (w:World):Only L w w:=⟨rfl,fun _ _=>rfl,rfl⟩
theorem yV (w:World) (L o:Nat) (v:Value):Only L w (w.setCell ⟨L,o,none⟩ v):=⟨zv _ _ _,fun _b hb=>Below.heap_setCell _ _ _ _ hb,rfl⟩
theorem LarderAt.drewN {w:World} {L:Nat} {A:Kit1} {i m:Nat} {n:Int} (h:LarderAt w L A i n m) (q:Nat):LarderAt (w.drewN q) L A i n m:=⟨h.ex⟩
theorem LarderAt.now {w:World} {L:Nat} {A:Kit1} {i m:Nat} {n:Int} (h:LarderAt w L A i n m):w.cell? ⟨L,3+i,none⟩=some (.int .i64 n):=by
 obtain⟨cs,h1,_,_,h2,_⟩:=h.ex
 exact (za h1 _).trans h2
theorem LarderAt.frozen {w:World} {L:Nat} {A:Kit1} {i m:Nat} {n:Int} (h:LarderAt w L A i n m) (o:Nat):w.frozen? ⟨L,o,none⟩=false:=by
 obtain⟨cs,h1,_⟩:=h.ex
 exact zk h1 _
theorem LarderAt.set {w:World} {L:Nat} {A:Kit1} {i m:Nat} {n:Int} (h:LarderAt w L A i n m) (hi:i<3) (n':Int):LarderAt (w.setCell ⟨L,3+i,none⟩ (.int .i64 n')) L A i n' m:=by
 obtain⟨cs,h1,h2,h3,h4,h5⟩:=h.ex
 have hlt : 3+i<cs.size:=(Array.getElem?_eq_some_iff.1 h4).1
 refine⟨_,zR h1 _,?_,?_,?_,?_⟩
 ·rw[Array.getElem?_setIfInBounds_ne (by omega)];exact h2
 ·rw[Array.getElem?_setIfInBounds_ne (by omega)];exact h3
 ·rw[Array.getElem?_setIfInBounds_self_of_lt hlt]
 ·rw[Array.getElem?_setIfInBounds_ne (by omega)];exact h5
theorem LarderAt.set2 {w:World} {L:Nat} {A:Kit1} {i m:Nat} {n:Int} (h:LarderAt w L A i n m) (hi:i<3) (m':Nat):LarderAt (w.setCell ⟨L,6+i,none⟩ (int m')) L A i n m':=by
 obtain⟨cs,h1,h2,h3,h4,h5⟩:=h.ex
 have hlt : 6+i<cs.size:=(Array.getElem?_eq_some_iff.1 h5).1
 refine⟨_,zR h1 _,?_,?_,?_,?_⟩
 ·rw[Array.getElem?_setIfInBounds_ne (by omega)];exact h2
 ·rw[Array.getElem?_setIfInBounds_ne (by omega)];exact h3
 ·rw[Array.getElem?_setIfInBounds_ne (by omega)];exact h4
 ·rw[Array.getElem?_setIfInBounds_self_of_lt hlt]
theorem LarderAt.keep {w w':World} {L:Nat} {A:Kit1} {i m:Nat} {n:Int} (h:LarderAt w L A i n m) (hk:w'.heap[L]?=w.heap[L]?):LarderAt w' L A i n m:=by
 obtain⟨cs,h1,h2⟩:=h.ex
 exact⟨cs,hk.trans h1,h2⟩
theorem LarderAt.lt {w:World} {L:Nat} {A:Kit1} {i m:Nat} {n:Int} (h:LarderAt w L A i n m):L<w.heap.size:=by
 obtain⟨cs,h1,_⟩:=h.ex
 exact zj h1
theorem KitAt.grown {w w':World} {X:Nat→Prop} {A:Kit1} {i:Nat} {D:Good1} (h:Grown w w') (k:KitAt w X A i D):KitAt w' X A i D:=k.mono fun _ _ _ hc=>h.cell hc
theorem larder_new (w:World) (A:Kit1) {i:Nat} (hi:i<3):LarderAt (w.alloc (.cells #[A.gs,A.ds,A.hs,.int .i64 0,.int .i64 0,.int .i64 0,.int .i64 0,.int .i64 0,.int .i64 0] 125)) w.heap.size A i 0 0:=by
 refine⟨_,heap_alloc_new w _,rfl,rfl,?_,?_⟩
 ·rcases i with _|_|_|i
  ·rfl
  ·rfl
  ·rfl
  ·omega
 ·rcases i with _|_|_|i
  ·rfl
  ·rfl
  ·rfl
  ·omega
theorem LoadsAt.grown {w w':World} (h:Grown w w') {l:List Nat} {s:Option Addr} {m:Nat} (k:LoadsAt w l s m):LoadsAt w' l s m:=by
 rcases k with hl|⟨h1,b,h2,h3,h4,h5⟩
 ·exact .inl hl
 ·exact .inr ⟨h1,b,h2,h3,h4,(h.same b (zj h5)).trans h5⟩
section
variable {A:Kit1} {i:Nat} {D:Good1} {kB nB gB oB mB fB M:Nat} {es es':List Ent} {h t:Nat} {H:Haul1} {hs:List Haul1} {P:Value} {w wr w2:World} {k ck':Nat} {s:Option Addr} {m:Nat}
theorem LoopAt.more (L:LoopAt A i D kB nB gB oB mB fB M es h t H hs P w k wr es' ck' s m) (g:Grown wr w2) (hb:zz D H hs t (k+1)=zz D H hs t k) (hk:k+1≤tries D H t) :
  LoopAt A i D kB nB gB oB mB fB M es h t H hs P w (k+1) w2 es' ck' s m:=
 ⟨L.kn.grown g,L.turn.trans (.grown g),L.new,hk,zf L.bat g,zf L.res g,zf L.bh g,by rw[hb];exact zf L.best g,by rw[hb];exact L.loads.grown g⟩
end
theorem tryN_short {D:Good1} {H:Haul1} {rest:Nat→Plan} {t k:Nat} {b:Plan} (h:¬ (D.reserve:Int)≤((t+k-melted H.hours D.melts (t+k):Nat):Int)-((H.covers*H.need:Nat):Int)):tryN D H rest t b k=b:=by
 unfold tryN
 rw[if_pos (by rw[ZM];omega)]
theorem tryN_long {D:Good1} {H:Haul1} {rest:Nat→Plan} {t k n2:Nat} {b:Plan} (h:(D.reserve:Int)≤((t+k-melted H.hours D.melts (t+k):Nat):Int)-((H.covers*H.need:Nat):Int)) (h2:(n2:Int)=((t+k-melted H.hours D.melts (t+k):Nat):Int)-((H.covers*H.need:Nat):Int)) :
  tryN D H rest t b k=if !(rest n2).2.2&&(b.2.2||decide ((rest n2).2.1+k*H.price<b.2.1)) then (k::(rest n2).1,(rest n2).2.1+k*H.price,false) else b:=by
 unfold tryN
 rw[if_neg (by rw[ZM];omega)]
 have hn:(after D H (t+k)).toNat=n2:=by rw[ZM];omega
 rw[hn]
section
variable {fs:Array Func} [Like fs]
theorem melt_at {A:Kit1} {i L h:Nat} {D:Good1} {H:Haul1} {w:World} {n m:Nat} (hl:LarderAt w L A i n m) (k:KitAt w (fun _=>True) A i D) (hH:D.hauls[h]?=some H) (hh:h<A.nh) (hn:n≤65025) (hm:m≤1000000) (z:Int) :
  Calls (Pf fs) 98 #[.pointer (some ⟨L,0,none⟩),.int .i64 h,.int .i64 i,.int .i64 z] w fun e w'=>e=.returned (.bool true)∧Only L w w'∧LarderAt w' L A i ((n-melted H.hours D.melts n:Nat):Int) (m+melted H.hours D.melts n):=by
 have hat:=k.hauls h H hH
 have hi:=k.hi
 have hng:=k.ng
 obtain⟨cs,h1,h2,h3,h4,h5⟩:=hl.ex
 obtain⟨pb,po,np,cp,d,nb,no,nn,cn,_,_,c1,_⟩:=hat.ex
 refine (zdc (fs:=fs) (A:=A) (i:=i) (L:=L) (h:=h) (hours:=H.hours) (melts:=D.melts) (cs:=cs) w n m h1 h2 h3 h4 h5 hi hng hh k.melts c1 hn hm (by have:=hat.hours;omega) z).mono ?_
 rintro e w' ⟨he,q,hw⟩
 refine⟨he,?_,?_⟩
 ·rw[hw]
  split
  ·exact ((yV _ _ _ _).trans (yV _ _ _ _)).drewN q
  ·exact (only_refl _ _).drewN q
 ·rw[hw]
  split
  ·exact ((hl.set (by omega) _).set2 (by omega) _).drewN q
  ·rename_i hz
   have:melted H.hours D.melts n=0:=if_neg hz
   rw[this]
   exact hl.drewN q
theorem eat_at {A:Kit1} {i L h u:Nat} {D:Good1} {w:World} {n m:Nat} (hl:LarderAt w L A i n m) (k:KitAt w (fun _=>True) A i D) (hne:A.gb≠L) (hn:n≤255) (hu:u≤65025) :
  Calls (Pf fs) 100 #[.pointer (some ⟨L,0,none⟩),.int .i64 h,.int .i64 i,.int .i64 u] w fun e w'=>e=.returned (.bool (decide ((D.reserve:Int)≤(n:Int)-u)))∧Only L w w'∧LarderAt w' L A i ((n:Int)-u) m:=by
 obtain⟨cs,h1,h2,h3,h4,h5⟩:=hl.ex
 have hi:=k.hi
 have hng:=k.ng
 refine (zek (fs:=fs) (A:=A) (i:=i) (L:=L) (D:=D) (cs:=cs) w h n u h1 h2 h4 hi hng k.reserve hne hn hu).mono ?_
 rintro e w' ⟨he,q,hw⟩
 refine⟨he,?_,?_⟩
 ·rw[hw];exact (yV _ _ _ _).drewN q
 ·rw[hw];exact (hl.set (by omega) _).drewN q
end
end
section
theorem JF {n:Nat} (h:n≤100000000):wrap64 (n:Int)=(n:Int):=IntWalk.wrap64_in _ (by omega)
section
variable {P:Program} {ops:Array Oper} {Q:Exit→Act→World→Prop} {md:Region.Mode} {S:World→Prop} {late:List Nat}
theorem wpAnyL_two {i j:Nat} {oi oj:Oper} {fuel:Nat} {listed:Array Bool} {a:Act} {w:World} (hoi:ops[i]?=some oi) (hoj:ops[j]?=some oj) (hr:Region.ready md ops listed=[i,j])
  (h1:∀ K':Act→World→Prop,Hid (∀ a w,S w→(S w→qB P md ops Q S late fuel (listed.setIfInBounds i true) a w)→K' a w)→if Region.wanted oi (yielded ops a.tmps)=true then Oper.wp P oi a w K' Q else K' (a.put oi.dst undef) w)
  (h2:∀ K':Act→World→Prop,Hid (∀ a w,S w→(S w→qB P md ops Q S late fuel (listed.setIfInBounds j true) a w)→K' a w)→if Region.wanted oj (yielded ops a.tmps)=true then Oper.wp P oj a w K' Q else K' (a.put oj.dst undef) w) :
  qB P md ops Q S late (fuel+1) listed a w:=by
 refine⟨fun h0=>absurd (hr▸h0) (by simp),fun x hx=>?_⟩
 rw[hr] at hx
 simp at hx
 rcases hx with rfl|rfl
 ·exact wpOp_step hoi (fun K' hK=>h1 K' (fun a w hS hW=>hK a w ⟨fun _ _=>hS,hW hS⟩))
 ·exact wpOp_step hoj (fun K' hK=>h2 K' (fun a w hS hW=>hK a w ⟨fun _ _=>hS,hW hS⟩))
end
section
variable {A:Kit1} {i:Nat} {D:Good1} {kB nB gB oB mB fB M:Nat} {es es' es2:List Ent} {h t:Nat} {H:Haul1} {hs:List Haul1} {P:Value} {w wr w2:World} {k ck ck' ck2:Nat} {s:Option Addr} {m:Nat}
theorem LoopAt.grown (L:LoopAt A i D kB nB gB oB mB fB M es h t H hs P w k wr es' ck' s m) (g:Grown wr w2):LoopAt A i D kB nB gB oB mB fB M es h t H hs P w k w2 es' ck' s m:=
 ⟨L.kn.grown g,L.turn.trans (.grown g),L.new,L.hk,zf L.bat g,zf L.res g,zf L.bh g,zf L.best g,L.loads.grown g⟩
theorem LoadsAt.turn (h:Turn M w w2) (hM:∀ c t m,w.heap[M]?≠some (.cells c t m)) {l:List Nat} {s:Option Addr} {m:Nat} (k:LoadsAt w l s m):LoadsAt w2 l s m:=by
 rcases k with hl|⟨h1,b,h2,h3,h4,h5⟩
 ·exact .inl hl
 ·exact .inr ⟨h1,b,h2,h3,h4,(h.same b (zj h5) (fun e=>hM _ _ _ (by rw[← e];exact h5))).trans h5⟩
theorem LoopAt.turned (L:LoopAt A i D kB nB gB oB mB fB M es h t H hs P w k wr es' ck' s m) (g:Turn M wr w2) (kn:Kn w2 A i D kB nB gB oB mB fB M es2 ck2) (new:∀ x∈es2,x∈es'∨h+1≤x.1.1) :
  LoopAt A i D kB nB gB oB mB fB M es h t H hs P w k w2 es2 ck2 s m:=by
 have key:∀ {b:Nat} {c:Array Value} {ty:TypeId},wr.heap[b]?=some (.cells c ty (0,0))→w2.heap[b]?=some (.cells c ty (0,0)):=fun hb=>(g.same _ (zj hb) (L.ne hb)).trans hb
 exact⟨kn,L.turn.trans g,fun x hx=>(new x hx).elim (fun h1=>L.new x h1) .inr,L.hk,key L.bat,key L.res,key L.bh,key L.best,L.loads.turn g L.kn.noCells⟩
theorem LoopAt.setNew (K:Kn w A i D kB nB gB oB mB fB M es ck) (L:LoopAt A i D kB nB gB oB mB fB M es h t H hs P w k wr es' ck' s m) {R:Nat} {c:Array Value} (hR:w.heap.size+1+1+1+1<R) (hRt:wr.heap[R]?=some (.cells c 141 (0,0))) (o:Only R wr w2) :
  LoopAt A i D kB nB gB oB mB fB M es h t H hs P w k w2 es' ck' s m:=by
 have hRM:=L.ne hRt
 have h3:∀ (b:Nat) (c:Array Value),wr.heap[b]?=some (.cells c 3 (0,0))→w2.heap[b]?=some (.cells c 3 (0,0)):=fun b c hc=>by
  have n1:b≠R:=fun e=>by
   rw[e,hRt] at hc
   simp at hc
  exact (o.same b n1).trans hc
 have hm:w2.heap[M]?=some (.map (ents es') ck'):=(o.same M (fun e=>hRM e.symm)).trans L.kn.map
 have tw:Turn M w w2:=⟨by have:=L.turn.size;have:=o.size;omega,fun b hb hm=>(o.same b (by omega)).trans (L.turn.same b hb hm),o.os.trans L.turn.os⟩
 refine⟨K.move L.kn tw hm h3 fun e he=>.inl he,tw,L.new,L.hk,(o.same _ (by omega)).trans L.bat,(o.same _ (by omega)).trans L.res,(o.same _ (by omega)).trans L.bh,(o.same _ (by omega)).trans L.best,?_⟩
 rcases L.loads with hl|⟨h1,b,h2,h3',h4,h5⟩
 ·exact .inl hl
 ·exact .inr ⟨h1,b,h2,h3',h4,h3 _ _ h5⟩
structure RestAt (w:World) (R:Nat) (p:Plan) (s:Option Addr) (m:Nat):Prop where
 blk:w.heap[R]?=some (.cells #[.slice s p.1.length m,.int .i64 p.2.1,.bool p.2.2] 141 (0,0))
 loads:LoadsAt w p.1 s m
theorem ZC (w:World) (R:Nat) (x y z:Value):Only R w (((w.setCell ⟨R,0,none⟩ x).setCell ⟨R,1,none⟩ y).setCell ⟨R,2,none⟩ z):=((yV _ _ _ _).trans (yV _ _ _ _)).trans (yV _ _ _ _)
theorem LoadsAt.only {l:List Nat} {R:Nat} {c:Array Value} (k:LoadsAt w l s m) (hRt:w.heap[R]?=some (.cells c 141 (0,0))) (o:Only R w w2):LoadsAt w2 l s m:=by
 rcases k with hl|⟨h1,b,h2,h3,h4,h5⟩
 ·exact .inl hl
 ·refine .inr ⟨h1,b,h2,h3,h4,(o.same b fun e=>?_).trans h5⟩
  rw[e,hRt] at h5
  simp at h5
theorem LoopAt.better (K:Kn w A i D kB nB gB oB mB fB M es ck) (L:LoopAt A i D kB nB gB oB mB fB M es h t H hs P w k wr es' ck' s m) (o:Only (w.heap.size+1+1+1+1) wr w2) (hk:k+1≤tries D H t) {s2:Option Addr} {m2:Nat} {p:Plan} (hp:zz D H hs t (k+1)=p)
  (hb:w2.heap[w.heap.size+1+1+1+1]?=some (.cells #[.slice s2 p.1.length m2,.int .i64 p.2.1,.bool p.2.2] 141 (0,0))) (hl:LoadsAt w2 p.1 s2 m2):LoopAt A i D kB nB gB oB mB fB M es h t H hs P w (k+1) w2 es' ck' s2 m2:=by
 have hRM:=L.ne L.best
 have h3:∀ (b:Nat) (c:Array Value),wr.heap[b]?=some (.cells c 3 (0,0))→w2.heap[b]?=some (.cells c 3 (0,0)):=fun b c hc=>by
  have n1:b≠w.heap.size+1+1+1+1:=fun e=>by
   rw[e,L.best] at hc
   simp at hc
  exact (o.same b n1).trans hc
 have hm:w2.heap[M]?=some (.map (ents es') ck'):=(o.same M (fun e=>hRM e.symm)).trans L.kn.map
 have tw:Turn M w w2:=⟨by have:=L.turn.size;have:=o.size;omega,fun b hb hm=>(o.same b (by omega)).trans (L.turn.same b hb hm),o.os.trans L.turn.os⟩
 exact⟨K.move L.kn tw hm h3 fun e he=>.inl he,tw,L.new,hk,(o.same _ (by omega)).trans L.bat,(o.same _ (by omega)).trans L.res,(o.same _ (by omega)).trans L.bh,by rw[hp];exact hb,by rw[hp];exact hl⟩
end
end
section
section
variable {fs:Array Func}
theorem u22':(Pf fs).underlying 22=some (.slice 3):=(like_under 22).trans Try.underlying22
theorem t3':∃ i,(Pf fs).info? 3=some i∧i.zero=some (.int .i64 0)∧i.size=1∧i.bytes=8:=by
 have h:Try.prog.info? 3=some Try.t3:=by kernel_rfl
 exact⟨_,h,by kernel_rfl,by kernel_rfl,by kernel_rfl⟩
theorem next_small:∀ n,n<17→Builtin.nextslicecap (1+n) 1*8≤281474976710656:=by decide
theorem run_cons {w:World} {g k m:Nat} {l:List Nat} {s:Option Addr} (hG:w.heap[g]?=some (.cells #[.int .i64 k] 3 (0,0))) (hl:LoadsAt w l s m) (hlen:l.length<17) :
  ∃ g2 m2 w',(Builtin.append_ #[22,22] 22 #[.slice (some ⟨g,0,none⟩) 1 1,.slice s l.length m]).run (Pf fs) w=.ok (.slice (some ⟨g2,0,none⟩) (k::l).length m2) w'∧Grown w w'∧LoadsAt w' (k::l) (some ⟨g2,0,none⟩) m2:=by
 obtain⟨i,hi,hz,h1,h2⟩:=t3' (fs:=fs)
 rcases hl with ⟨rfl,rfl,rfl⟩|⟨hne,b,rfl,hlm,hmm,hb⟩
 ·refine⟨g,1,w,?_,Grown.refl w,.inr ⟨by simp,g,rfl,by simp,by simp[maxLen],?_⟩⟩
  ·simp[go_sem,Builtin.append_,run_underlying u22',sizeOf,typeInfo,hi,Builtin.lenOf,Builtin.firstCells]
  ·rw[hG]
   simp[rowOf,Builtin.zeroCells,int]
 ·have hpos : 0<l.length:=List.length_pos_iff.2 hne
  have hr:=run_append_grow (P:=Pf fs) (w:=w) 22 22 3 i (.int .i64 0) u22' hi hz ⟨g,0,none⟩ 1 1 [.int .i64 k] (by rw[h1];rfl) (fun j v hj=>by
   have h0:j=0:=by
    rcases j with _|j
    ·rfl
    ·simp at hj
   subst h0
   simp at hj
   subst hj
   exact za hG 0) ⟨b,0,none⟩ l.length m (l.map int) (by rw[h1];simp) (fun j v hj=>by
   have:=za hb (0+j)
   have h5:(rowOf l m)[0+j]?=some v:=by
    unfold rowOf
    rw[Nat.zero_add,Array.getElem?_append_left (by
     have:=(List.getElem?_eq_some_iff.1 hj).1
     simpa using this)]
    simpa using hj
   have e:(⟨b,0,none⟩:Addr).add j=⟨b,0+j,none⟩:=by simp[Addr.add];omega
   rw[e]
   exact this.trans h5) (by omega) (by omega) (by rw[h2];exact next_small _ hlen)
  have hl1:(k::l).length=1+l.length:=by rw[List.length_cons,Nat.add_comm]
  have hge:=grownCap_ge w (1+l.length) 1 3
  have hle:=grownCap_le_maxLen w (1+l.length) 1 3 (by simp only[maxLen];omega)
  refine⟨w.heap.size,grownCap w (1+l.length) 1 3,_,by rw[hl1];exact hr,?_,?_⟩
  ·exact⟨(Grown.alloc w.drew _).size,(Grown.alloc w.drew _).same,rfl⟩
  ·refine .inr ⟨by simp,w.heap.size,rfl,by rw[hl1];exact hge,hle,?_⟩
   have hn:=heap_alloc_new w.drew (.cells ([Value.int .i64 (k:Int)].toArray++(l.map int).toArray++Builtin.zeroCells (Value.int .i64 0).cells (grownCap w (1+l.length) 1 3-(1+l.length))) 3)
   have hro:∀ N,rowOf (k::l) N=[Value.int .i64 (k:Int)].toArray++(l.map int).toArray++Builtin.zeroCells (Value.int .i64 0).cells (N-(1+l.length)):=fun N=>by
    have e:((k::l).map int).toArray=[Value.int .i64 (k:Int)].toArray++(l.map int).toArray:=by
     apply Array.ext'
     simp[int]
    unfold rowOf
    rw[hl1,e]
   rw[hro]
   exact hn
end
section
variable {P:Program}
theorem wpl_run {w w':World} {ops:Array Oper} {rest:List Oper} {o:Oper} {a:Act} {Q:Exit→Act→World→Prop} {v:Value} (hgd:o.guard=none) (hr:(execOp a.eval o).run P w=.ok (.value v) w') (h:wpList P ops Q rest (a.put o.dst v) w'):wpList P ops Q (o::rest) a w:=
 wpList_plain hgd fun K hK=>by
  simp only[Oper.wp,hr,Oper.upon]
  exact hK _ _ h
end
section
variable {fs:Array Func}
theorem wpl_cons {w:World} {ops:Array Oper} {rest:List Oper} {o:Oper} {a:Act} {Q:Exit→Act→World→Prop} (hgd:o.guard=none) (s x:Operand) (ho:o.op=.call { callee:=.builtin .append,args:=#[s,x],argTypes:=#[22,22] }) (hty:o.type=22)
  {g k m:Nat} {l:List Nat} {sx:Option Addr} (hs:a.eval s=.slice (some ⟨g,0,none⟩) 1 1) (hx:a.eval x=.slice sx l.length m) (hG:w.heap[g]?=some (.cells #[.int .i64 k] 3 (0,0))) (hl:LoadsAt w l sx m) (hlen:l.length<17)
  (h:∀ g2 m2 w',Grown w w'→LoadsAt w' (k::l) (some ⟨g2,0,none⟩) m2→wpList (Pf fs) ops Q rest (a.put o.dst (.slice (some ⟨g2,0,none⟩) (k::l).length m2)) w'):wpList (Pf fs) ops Q (o::rest) a w:=by
 obtain⟨g2,m2,w',hr,hg,hl2⟩:=run_cons (fs:=fs) hG hl hlen
 refine wpl_run (v:=.slice (some ⟨g2,0,none⟩) (k::l).length m2) (w':=w') hgd ?_ (h g2 m2 w' hg hl2)
 unfold execOp
 have hm:(#[s,x]:Array Operand).map a.eval=#[a.eval s,a.eval x]:=by simp
 simp only[ho,resolve,hm,hs,hx,hty]
 show (do pure (.value (← Builtin.append_ #[22,22] 22 #[.slice (some ⟨g,0,none⟩) 1 1,.slice sx l.length m])):Sem Go.Next).run (Pf fs) w=_
 rw[Sem.run_bind,hr]
 rfl
end
end
end Go.Gal
