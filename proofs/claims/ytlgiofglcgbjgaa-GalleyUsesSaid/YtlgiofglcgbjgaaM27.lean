/- The contract of 'cheapest', on whatever program has the real one's functions: CheapOn S, CheapOn Sw. Walks: out, many, each. Walks: right. Kitchens, as plain values, and how memory has .. -/
import Derived.Test.YtlgiofglcgbjgaaM26
import Derived.Laws.EntriesVeiled
namespace Go.Gal
open Go Go.Par Go.Proofs Go.RowKit
section
section
variable {fs:Array Func} [Like fs]
theorem zdi {A:Kit1} {i:Nat} {D:Good1} {kB nB gB oB mB fB M:Nat} : ∀ (r h t:Nat) (w:World) (es:List Ent) (ck:Nat),h+r=A.nh→t≤255→Kn w A i D kB nB gB oB mB fB M es ck →
  Calls (Pf fs) 127 #[kv (h,t),ptr kB,ptr nB,ptr gB,ptr oB,ptr mB,ptr fB] w (je A i D kB nB gB oB mB fB M es h t w)
 | 0,h,t,w,es,ck,hr,ht,K=>by
  have e:h=A.nh:=by omega
  subst e
  exact from_end t w es ck K
 | r+1,h,t,w,es,ck,hr,ht,K=>by
  cases hv:known es (h,t) with
  | some v=>exact from_known h t (by omega) w es ck K v hv
  | none=>exact from_walk h t (by omega) ht w es ck K hv fun t' w' es' ck' ht' K'=>zdi r (h+1) t' w' es' ck' (by omega) ht' K'
omit [Like fs] in
theorem run_makeMap (W:World):(Instr.makeMap 158 none).run (Pf fs) W=.ok (.map (some W.heap.size)) (W.alloc (.map #[] 0)):=by
 simp[Instr.makeMap]
theorem heap8 (w:World) (o0 o1 o2 o3 o4 o5 o6 o7:Obj):Grown w ((((((((w.alloc o0).alloc o1).alloc o2).alloc o3).alloc o4).alloc o5).alloc o6).alloc o7)∧((((((((w.alloc o0).alloc o1).alloc o2).alloc o3).alloc o4).alloc o5).alloc o6).alloc o7).heap[w.heap.size]?=some o0∧((((((((w.alloc o0).alloc o1).alloc o2).alloc o3).alloc o4).alloc o5).alloc o6).alloc o7).heap[w.heap.size+1]?=some o1∧((((((((w.alloc o0).alloc o1).alloc o2).alloc o3).alloc o4).alloc o5).alloc o6).alloc o7).heap[w.heap.size+1+1]?=some o2∧((((((((w.alloc o0).alloc o1).alloc o2).alloc o3).alloc o4).alloc o5).alloc o6).alloc o7).heap[w.heap.size+1+1+1]?=some o3∧((((((((w.alloc o0).alloc o1).alloc o2).alloc o3).alloc o4).alloc o5).alloc o6).alloc o7).heap[w.heap.size+1+1+1+1]?=some o4∧((((((((w.alloc o0).alloc o1).alloc o2).alloc o3).alloc o4).alloc o5).alloc o6).alloc o7).heap[w.heap.size+1+1+1+1+1]?=some o5∧((((((((w.alloc o0).alloc o1).alloc o2).alloc o3).alloc o4).alloc o5).alloc o6).alloc o7).heap[w.heap.size+1+1+1+1+1+1]?=some o6∧((((((((w.alloc o0).alloc o1).alloc o2).alloc o3).alloc o4).alloc o5).alloc o6).alloc o7).heap[w.heap.size+1+1+1+1+1+1+1]?=some o7:=by
 have h0:=heap_alloc_new w o0
 have h1:=heap_alloc_new (w.alloc o0) o1
 have s1:(w.alloc o0).heap.size=w.heap.size+1:=by simp
 rw[s1] at h1
 have h2:=heap_alloc_new ((w.alloc o0).alloc o1) o2
 have s2:((w.alloc o0).alloc o1).heap.size=w.heap.size+1+1:=by simp
 rw[s2] at h2
 have h3:=heap_alloc_new (((w.alloc o0).alloc o1).alloc o2) o3
 have s3:(((w.alloc o0).alloc o1).alloc o2).heap.size=w.heap.size+1+1+1:=by simp
 rw[s3] at h3
 have h4:=heap_alloc_new ((((w.alloc o0).alloc o1).alloc o2).alloc o3) o4
 have s4:((((w.alloc o0).alloc o1).alloc o2).alloc o3).heap.size=w.heap.size+1+1+1+1:=by simp
 rw[s4] at h4
 have h5:=heap_alloc_new (((((w.alloc o0).alloc o1).alloc o2).alloc o3).alloc o4) o5
 have s5:(((((w.alloc o0).alloc o1).alloc o2).alloc o3).alloc o4).heap.size=w.heap.size+1+1+1+1+1:=by simp
 rw[s5] at h5
 have h6:=heap_alloc_new ((((((w.alloc o0).alloc o1).alloc o2).alloc o3).alloc o4).alloc o5) o6
 have s6:((((((w.alloc o0).alloc o1).alloc o2).alloc o3).alloc o4).alloc o5).heap.size=w.heap.size+1+1+1+1+1+1:=by simp
 rw[s6] at h6
 have h7:=heap_alloc_new (((((((w.alloc o0).alloc o1).alloc o2).alloc o3).alloc o4).alloc o5).alloc o6) o7
 have s7:(((((((w.alloc o0).alloc o1).alloc o2).alloc o3).alloc o4).alloc o5).alloc o6).heap.size=w.heap.size+1+1+1+1+1+1+1:=by simp
 rw[s7] at h7
 exact⟨((((((((Grown.alloc w o0).trans (.alloc _ o1)).trans (.alloc _ o2)).trans (.alloc _ o3)).trans (.alloc _ o4)).trans (.alloc _ o5)).trans (.alloc _ o6)).trans (.alloc _ o7)),(zt (zt (zt (zt (zt (zt (zt h0 o1) o2) o3) o4) o5) o6) o7),(zt (zt (zt (zt (zt (zt h1 o2) o3) o4) o5) o6) o7),(zt (zt (zt (zt (zt h2 o3) o4) o5) o6) o7),(zt (zt (zt (zt h3 o4) o5) o6) o7),(zt (zt (zt h4 o5) o6) o7),(zt (zt h5 o6) o7),(zt h6 o7),h7⟩
theorem start_kn (w:World) (A:Kit1) (i:Nat) (D:Good1) (K:KitAt w (fun _=>True) A i D):Grown w ((((((((w.alloc (.cells #[A.gs,A.ds,A.hs] 29)).alloc (.cells #[A.m] 22)).alloc (.cells #[int i] 3)).alloc (.cells #[.slice none 0 0,.int .i64 0,.bool false] 141)).alloc (.map #[] 0)).alloc (.cells #[.map (some (w.heap.size+1+1+1+1))] 158)).alloc (.cells #[int D.room,int D.reserve,int D.melts,int D.start] 42)).alloc (.cells #[fromF (w.heap.size) (w.heap.size+1+1+1+1+1) (w.heap.size+1+1+1+1+1+1) (w.heap.size+1+1) (w.heap.size+1) (w.heap.size+1+1+1+1+1+1+1)] 159))∧Kn ((((((((w.alloc (.cells #[A.gs,A.ds,A.hs] 29)).alloc (.cells #[A.m] 22)).alloc (.cells #[int i] 3)).alloc (.cells #[.slice none 0 0,.int .i64 0,.bool false] 141)).alloc (.map #[] 0)).alloc (.cells #[.map (some (w.heap.size+1+1+1+1))] 158)).alloc (.cells #[int D.room,int D.reserve,int D.melts,int D.start] 42)).alloc (.cells #[fromF (w.heap.size) (w.heap.size+1+1+1+1+1) (w.heap.size+1+1+1+1+1+1) (w.heap.size+1+1) (w.heap.size+1) (w.heap.size+1+1+1+1+1+1+1)] 159)) A i D (w.heap.size) (w.heap.size+1+1+1+1+1) (w.heap.size+1+1+1+1+1+1) (w.heap.size+1+1) (w.heap.size+1) (w.heap.size+1+1+1+1+1+1+1) (w.heap.size+1+1+1+1) [] 0∧((((((((w.alloc (.cells #[A.gs,A.ds,A.hs] 29)).alloc (.cells #[A.m] 22)).alloc (.cells #[int i] 3)).alloc (.cells #[.slice none 0 0,.int .i64 0,.bool false] 141)).alloc (.map #[] 0)).alloc (.cells #[.map (some (w.heap.size+1+1+1+1))] 158)).alloc (.cells #[int D.room,int D.reserve,int D.melts,int D.start] 42)).alloc (.cells #[fromF (w.heap.size) (w.heap.size+1+1+1+1+1) (w.heap.size+1+1+1+1+1+1) (w.heap.size+1+1) (w.heap.size+1) (w.heap.size+1+1+1+1+1+1+1)] 159)).heap[w.heap.size+1+1+1]?=some (.cells #[.slice none 0 0,.int .i64 0,.bool false] 141 (0,0)):=by
 obtain⟨g,h0,h1,h2,h3,h4,h5,h6,h7⟩:=heap8 w (.cells #[A.gs,A.ds,A.hs] 29) (.cells #[A.m] 22) (.cells #[int i] 3) (.cells #[.slice none 0 0,.int .i64 0,.bool false] 141) (.map #[] 0) (.cells #[.map (some (w.heap.size+1+1+1+1))] 158) (.cells #[int D.room,int D.reserve,int D.melts,int D.start] 42) (.cells #[fromF (w.heap.size) (w.heap.size+1+1+1+1+1) (w.heap.size+1+1+1+1+1+1) (w.heap.size+1+1) (w.heap.size+1) (w.heap.size+1+1+1+1+1+1+1)] 159)
 exact⟨g,⟨K.grown g,h0,h5,h6,h2,h1,h7,h4,fun e he=>by simp at he⟩,h3⟩
set_option maxRecDepth 20000 in
set_option maxHeartbeats 4000000 in
theorem YD (w:World) (A:Kit1) (i:Nat) (D:Good1) (K:KitAt w (fun _=>True) A i D):Calls (Pf fs) 107 #[A.k,A.m,int i] w fun e w1=>∃ v,e=.returned v∧Grown w w1∧PlanAt w1 (zg D) v:=by
 have hng:i<A.ng:=K.hi
 have hmk:=fun W=>run_makeMap (fs:=fs) W
 have HK:=Lib.hid K
 obtain⟨hgr,hkn,hrs⟩:=start_kn w A i D K
 have HGR:=Lib.hid hgr
 have HKN:=Lib.hid hkn
 have HRS:=Lib.hid hrs
 have hst:D.start≤255:=K.start1
 have HST:=Lib.hid hst
 clear hgr hkn hrs hst
 have c1:=K.room
 have c2:=K.reserve
 have c3:=K.melts
 have c4:=K.start
 have ga:Grown w ((((((w.alloc (.cells #[A.gs,A.ds,A.hs] 29)).alloc (.cells #[A.m] 22)).alloc (.cells #[int i] 3)).alloc (.cells #[.slice none 0 0,.int .i64 0,.bool false] 141)).alloc (.map #[] 0)).alloc (.cells #[.map (some (w.heap.size+1+1+1+1))] 158)):=
  (((((Grown.alloc _ _).trans (.alloc _ _)).trans (.alloc _ _)).trans (.alloc _ _)).trans (.alloc _ _)).trans (.alloc _ _)
 have c1':=ga.cell c1
 have c2':=ga.cell c2
 have c3':=ga.cell c3
 have c4':=ga.cell c4
 clear K c1 c2 c3 c4 ga
 generalize hP:(fun (e:Ending) (w1:World)=>∃ v,e=.returned v∧Grown w w1∧PlanAt w1 (zg D) v)=R
 have HP:=Lib.hid hP
 clear hP
 simp only[Kit1.k,Kit1.gs,Kit1.ds,Kit1.hs,Kit1.m,int,fromF,ptr] at c1' c2' c3' c4' HGR HKN HRS ⊢
 go_enter LK.func107,Try.ntmps107
 go_upto_region 5 with fail
 obtain⟨W0,hW0⟩:∃ W0,W0=((((((((w.alloc (.cells #[(Value.slice (some ⟨A.gb,A.go,none⟩) A.ng A.cg),(.slice (some ⟨A.db,A.dof,none⟩) A.nd A.cd),(.slice (some ⟨A.hb,A.ho,none⟩) A.nh A.ch)] 29)).alloc (.cells #[(Value.slice (some ⟨A.mb,A.mo,none⟩) A.nm A.cm)] 22)).alloc (.cells #[(Value.int .i64 i)] 3)).alloc (.cells #[.slice none 0 0,.int .i64 0,.bool false] 141)).alloc (.map #[] 0)).alloc (.cells #[.map (some (w.heap.size+1+1+1+1))] 158)).alloc (.cells #[(Value.int .i64 D.room),(Value.int .i64 D.reserve),(Value.int .i64 D.melts),(Value.int .i64 D.start)] 42)).alloc (.cells #[.func (.func 127) #[] #[.pointer (some ⟨w.heap.size,0,none⟩),.pointer (some ⟨w.heap.size+1+1+1+1+1,0,none⟩),.pointer (some ⟨w.heap.size+1+1+1+1+1+1,0,none⟩),.pointer (some ⟨w.heap.size+1+1,0,none⟩),.pointer (some ⟨w.heap.size+1,0,none⟩),.pointer (some ⟨w.heap.size+1+1+1+1+1+1+1,0,none⟩)]] 159)):=⟨_,rfl⟩
 rw[← hW0] at HGR HKN HRS
 rw[← hW0]
 clear hW0 c1' c2' c3' c4' hmk
 have d1:W0.cell? ⟨w.heap.size+1+1+1+1+1+1+1,0,none⟩=some (.func (.func 127) #[] #[.pointer (some ⟨w.heap.size,0,none⟩),.pointer (some ⟨w.heap.size+1+1+1+1+1,0,none⟩),.pointer (some ⟨w.heap.size+1+1+1+1+1+1,0,none⟩),.pointer (some ⟨w.heap.size+1+1,0,none⟩),.pointer (some ⟨w.heap.size+1,0,none⟩),.pointer (some ⟨w.heap.size+1+1+1+1+1+1+1,0,none⟩)]):=za HKN.out.bf 0
 have d2:W0.cell? ⟨w.heap.size+1+1+1+1+1+1,3,none⟩=some (.int .i64 D.start):=za HKN.out.bg 3
 go_wp2_with fail
 have hC:Calls (Pf fs) 127 #[.agg #[.int .i64 0,.int .i64 D.start],.pointer (some ⟨w.heap.size,0,none⟩),.pointer (some ⟨w.heap.size+1+1+1+1+1,0,none⟩),.pointer (some ⟨w.heap.size+1+1+1+1+1+1,0,none⟩),.pointer (some ⟨w.heap.size+1+1,0,none⟩),.pointer (some ⟨w.heap.size+1,0,none⟩),.pointer (some ⟨w.heap.size+1+1+1+1+1+1+1,0,none⟩)] W0 (je A i D (w.heap.size) (w.heap.size+1+1+1+1+1) (w.heap.size+1+1+1+1+1+1) (w.heap.size+1+1) (w.heap.size+1) (w.heap.size+1+1+1+1+1+1+1) (w.heap.size+1+1+1+1) [] 0 D.start W0):=zdi A.nh 0 D.start W0 [] 0 (Nat.zero_add _) HST.out HKN.out
 refine hC.mono ?_
 clear hC
 rintro e W1 ⟨v,es2,ck2,rfl,t1,_,_,p1⟩
 have p2:PlanAt W1 (zg D) v:=p1
 clear p1
 obtain⟨s,m,rfl,l1⟩:=p2
 have hlt:=zj HRS.out
 have hb1:W1.heap[w.heap.size+1+1+1]?=some (.cells #[.slice none 0 0,.int .i64 0,.bool false] 141 (0,0)):=(t1.same _ hlt (by omega)).trans HRS.out
 have hg1:Grown w W1:=⟨Nat.le_trans HGR.out.size t1.size,fun b hb=>(t1.same b (Nat.lt_of_lt_of_le hb HGR.out.size) (by omega)).trans (HGR.out.same b hb),t1.os.trans HGR.out.os⟩
 have HB1:=Lib.hid hb1
 have HG1:=Lib.hid hg1
 have HL1:=Lib.hid l1
 have x0:W1.cell? ⟨w.heap.size+1+1+1,0,none⟩=some (.slice none 0 0):=za hb1 0
 have x1:W1.cell? ⟨w.heap.size+1+1+1,1,none⟩=some (.int .i64 0):=za hb1 1
 have x2:W1.cell? ⟨w.heap.size+1+1+1,2,none⟩=some (.bool false):=za hb1 2
 have f0:W1.frozen? ⟨w.heap.size+1+1+1,0,none⟩=false:=zk hb1 0
 have f1:W1.frozen? ⟨w.heap.size+1+1+1,1,none⟩=false:=zk hb1 1
 have f2:W1.frozen? ⟨w.heap.size+1+1+1,2,none⟩=false:=zk hb1 2
 clear hb1 hg1 l1 t1 hlt d1 d2
 generalize zg D=p at *
 go_wp2_with fail
 have hb3:=qP HB1.out (.slice s p.1.length m) (.int .i64 p.2.1) (.bool p.2.2)
 have r0:=za hb3 0
 have r1:=za hb3 1
 have r2:=za hb3 2
 refine bodyPost_ret (v:=.agg #[.slice s p.1.length m,.int .i64 p.2.1,.bool p.2.2]) (by simp[results,Try.results107,go_sem,r0,r1,r2]) rfl ?_
 rw[← HP.out]
 exact⟨_,rfl,Zc HG1.out (by omega) _ _ _,s,m,rfl,LoadsAt.only HL1.out HB1.out (ZC _ _ _ _ _)⟩
end
theorem cheapOn_S:ye S:=fun w A i D K=>by
 rw[← pf_S]
 exact YD w A i D K
theorem cheapOn_Sw:ye Sw:=fun w A i D K=>by
 rw[← pf_Sw]
 exact YD w A i D K
end
section
def Ints (w:World) (A:Option Addr) (xs:List Int):Prop:=
 ∀ (k:Nat) (x:Int),xs[k]?=some x→∃ b off,A=some ⟨b,off,none⟩∧w.cell? ⟨b,off+k,none⟩=some (.int .i64 x)
theorem Ints.grown {w w':World} {A:Option Addr} {xs:List Int} (h:Ints w A xs) (g:Grown w w'):Ints w' A xs:=fun k x hx=>by
 obtain⟨b,off,hA,hc⟩:=h k x hx
 exact⟨b,off,hA,g.cell hc⟩
theorem Ints.form {w:World} {A:Option Addr} {xs:List Int} (h:Ints w A xs):xs=[]∨∃ b off,A=some ⟨b,off,none⟩∧∀ k x,xs[k]?=some x→w.cell? ⟨b,off+k,none⟩=some (.int .i64 x):=by
 cases xs with
 | nil=>exact .inl rfl
 | cons x l =>
  obtain⟨b,off,hA,_⟩:=h 0 x rfl
  refine .inr ⟨b,off,hA,fun k y hk=>?_⟩
  obtain⟨b',off',hA',hc⟩:=h k y hk
  rw[hA] at hA'
  injection hA' with hA'
  injection hA' with h1 h2
  subst h1 h2
  exact hc
def outB (n lo hi:Int):Bool:=decide (n<lo)||decide (hi<n)
def manyE (n lo hi:Int):Int:=if n<lo then 7 else if hi<n then 6 else 0
def eachE (xs:List Int) (goods lo hi:Int):Int:=if manyE xs.length goods goods≠0 then manyE xs.length goods goods else if xs.any (fun x=>outB x lo hi) then 1 else 0
section
variable {fs:Array Func} [Like fs]
theorem qV (n lo hi:Int) (w:World):Calls (Pf fs) 70 #[.int .i64 n,.int .i64 lo,.int .i64 hi] w fun e w'=>e=.returned (.bool (outB n lo hi))∧w'=w:=by
 by_cases h1:n<lo
 ·have h:outB n lo hi=true:=by simp[outB,h1]
  rw[h];clear h
  go_enter LK.func70,Try.ntmps70
  go_wp2
  go_ret
  exact⟨rfl,rfl⟩
 ·by_cases h2:hi<n
  ·have h:outB n lo hi=true:=by simp[outB,h2]
   rw[h];clear h
   go_enter LK.func70,Try.ntmps70
   go_wp2
   go_ret
   exact⟨rfl,rfl⟩
  ·have h:outB n lo hi=false:=by simp[outB,h1,h2]
   rw[h];clear h
   go_enter LK.func70,Try.ntmps70
   go_wp2
   go_ret
   exact⟨rfl,rfl⟩
theorem jd (n lo hi:Int) (w:World):Calls (Pf fs) 78 #[.int .i64 n,.int .i64 lo,.int .i64 hi] w fun e w'=>e=.returned (.int .i64 (manyE n lo hi))∧w'=w:=by
 by_cases h1:n<lo
 ·have h:manyE n lo hi=7:=if_pos h1
  rw[h];clear h
  go_enter LK.func78,Try.ntmps78
  go_wp2
  go_ret
  exact⟨rfl,rfl⟩
 ·by_cases h2:hi<n
  ·have h:manyE n lo hi=6:=by unfold manyE;rw[if_neg h1,if_pos h2]
   rw[h];clear h
   go_enter LK.func78,Try.ntmps78
   go_wp2
   go_ret
   exact⟨rfl,rfl⟩
  ·have h:manyE n lo hi=0:=by unfold manyE;rw[if_neg h1,if_neg h2]
   rw[h];clear h
   go_enter LK.func78,Try.ntmps78
   go_wp2
   go_ret
   exact⟨rfl,rfl⟩
set_option maxRecDepth 20000 in
theorem zbk (xs:List Int) (A:Option Addr) (c:Nat) (goods lo hi:Int) (w:World) (h:Ints w A xs) (hlen:xs.length≤140737488355328) :
  Calls (Pf fs) 79 #[.slice A xs.length c,.int .i64 goods,.int .i64 lo,.int .i64 hi] w fun e w'=>e=.returned (.int .i64 (eachE xs goods lo hi))∧w'=w:=by
 by_cases h1:manyE xs.length goods goods=0
 ·have hE:eachE xs goods lo hi=if xs.any (fun x=>outB x lo hi) then 1 else 0:=by unfold eachE;rw[if_neg (by simp[h1])]
  have HE:=Lib.hid hE
  have H1:=Lib.hid h1
  generalize eachE xs goods lo hi=E at HE ⊢
  have hR0:Hid (xs.any (fun x=>outB x lo hi)=(xs.drop 0).any (fun x=>outB x lo hi)):=rfl
  have HF:=Lib.hid h.form
  clear h hE h1
  have hM:∀ W,Calls (Pf fs) 78 #[.int .i64 xs.length,.int .i64 goods,.int .i64 goods] W fun e w'=>e=.returned (.int .i64 0)∧w'=W:=fun W=>by
   have:=jd (fs:=fs) xs.length goods goods W
   rw[H1.out] at this
   exact this
  have HM:=Lib.hid hM
  clear hM
  go_enter LK.func79,Try.ntmps79
  go_wp2_with (go_at_call 78;refine (HM.out _).mono ?_;rintro e w' ⟨rfl,rfl⟩)
  go_loopw [22] (fun i wr=>∃ k:Nat,k≤xs.length∧i=.int .i64 k∧wr=w'∧Hid (xs.any (fun x=>outB x lo hi)=(xs.drop k).any (fun x=>outB x lo hi))) (fun i _=>xs.length-(intOf i).toNat)
  case atStart=>exact⟨0,Nat.zero_le _,rfl,rfl,hR0⟩
  case round =>
   obtain⟨k,hk,rfl,rfl,hRk⟩:=hrel
   clear hR0
   by_cases hlt:k<xs.length
   ·rcases HF.out with hnil|⟨b,off,rfl,hcell⟩
    ·rw[hnil] at hlt
     exact absurd hlt (by simp)
    ·have hck:=hcell k _ (List.getElem?_eq_getElem hlt)
     have hst:(xs.drop k).any (fun x=>outB x lo hi)=(outB xs[k] lo hi||(xs.drop (k+1)).any (fun x=>outB x lo hi)):=by
      rw[List.drop_eq_getElem_cons hlt,List.any_cons]
     have hN:=Lib.hid (hRk.out.trans hst)
     clear hcell hst hRk
     generalize xs[k]=x at hck hN
     cases ho:outB x lo hi
     ·rw[ho] at hN
      have HO:=Lib.hid ho
      clear ho
      go_wp2_with (go_at_call 70;refine (qV _ _ _ _).mono ?_;rw[HO.out];rintro e w1 ⟨rfl,rfl⟩)
      go_roundw
      case rel=>exact⟨k+1,by omega,by go_num,(by first|rfl|trivial),by rw[Bool.false_or] at hN;exact hN⟩
      case measure=>simp[intOf];omega
     ·rw[ho] at hN
      have HO:=Lib.hid ho
      clear ho
      go_wp2_with (go_at_call 70;refine (qV _ _ _ _).mono ?_;rw[HO.out];rintro e w1 ⟨rfl,rfl⟩)
      go_ret
      exact⟨by rw[HE.out,hN.out];rfl,rfl⟩
   ·have hke:k=xs.length:=by omega
    have hN:Hid (xs.any (fun x=>outB x lo hi)=false):=by
     have h2:=hRk.out
     rw[hke,List.drop_length] at h2
     exact h2
    clear hke hRk
    go_wp2_with fail
    go_ret
    exact⟨by rw[HE.out,hN.out];rfl,rfl⟩
 ·have hE:eachE xs goods lo hi=manyE xs.length goods goods:=by unfold eachE;rw[if_pos h1]
  rw[hE]
  have hM:=fun W=>jd (fs:=fs) xs.length goods goods W
  have HM:=Lib.hid hM
  generalize manyE xs.length goods goods=m at h1 HM ⊢
  clear hM hE h
  go_enter LK.func79,Try.ntmps79
  go_wp2_with (go_at_call 78;refine (HM.out _).mono ?_;rintro e w' ⟨rfl,rfl⟩)
  go_ret
  exact⟨rfl,rfl⟩
end
end
section
def qC (nd:Int):Option Int→List Int→Int
 | _,[]=>0
 | p,d::l=>if outB d 0 (nd-1) then 3 else if p=some d then 4 else qC nd (some d) l
def before (xs:List Int) (k:Nat):Option Int:=if k=0 then none else xs[k-1]?
def qk (nd nh:Nat) (xs:List Int):Int:=if manyE xs.length nh nh≠0 then manyE xs.length nh nh else qC nd none xs
theorem zap {nd:Int} {xs:List Int} {k:Nat} (h:k<xs.length):qC nd (before xs k) (xs.drop k)=if outB xs[k] 0 (nd-1) then 3 else if before xs k=some xs[k] then 4 else qC nd (before xs (k+1)) (xs.drop (k+1)):=by
 rw[List.drop_eq_getElem_cons h]
 have e:before xs (k+1)=some xs[k]:=by
  unfold before
  rw[if_neg (by omega),Nat.add_sub_cancel,List.getElem?_eq_getElem h]
 rw[e]
 rfl
section
variable {fs:Array Func} [Like fs]
set_option maxRecDepth 20000 in
set_option maxHeartbeats 1000000 in
theorem zbP (xs:List Int) (A:Option Addr) (c:Nat) (gA dA hA:Option Addr) (ng gc nd dc nh hc:Nat) (w:World) (h:Ints w A xs) (hlen:xs.length≤1000) (hnd:nd≤1000) :
  Calls (Pf fs) 102 #[.agg #[.slice gA ng gc,.slice dA nd dc,.slice hA nh hc],.slice A xs.length c] w fun e w'=>e=.returned (.int .i64 (qk nd nh xs))∧Grown w w':=by
 have HG:=Lib.hid (Grown.alloc w (.cells #[.slice gA ng gc,.slice dA nd dc,.slice hA nh hc] 29))
 by_cases h1:manyE xs.length nh nh=0
 ·have hE:qk nd nh xs=qC nd none xs:=by unfold qk;rw[if_neg (by simp[h1])]
  have hR0:Hid (qk nd nh xs=qC nd (before xs 0) (xs.drop 0)):=hE
  generalize qk nd nh xs=E at hR0 ⊢
  have H1:=Lib.hid h1
  have hM:∀ W,Calls (Pf fs) 78 #[.int .i64 xs.length,.int .i64 nh,.int .i64 nh] W fun e w'=>e=.returned (.int .i64 0)∧w'=W:=fun W=>by
   have:=jd (fs:=fs) xs.length nh nh W
   rw[H1.out] at this
   exact this
  have HM:=Lib.hid hM
  have HF:=Lib.hid (h.grown (Grown.alloc w (.cells #[.slice gA ng gc,.slice dA nd dc,.slice hA nh hc] 29))).form
  have z1:(w.alloc (.cells #[.slice gA ng gc,.slice dA nd dc,.slice hA nh hc] 29)).cell? ⟨w.heap.size,1,none⟩=some (.slice dA nd dc):=za (heap_alloc_new w _) 1
  have HZ1:=Lib.hid z1
  clear hM h hE h1 z1
  have hd1:IntKind.i64.wrap ((nd:Int)-1)=(nd:Int)-1:=IntWalk.i64_in _ ⟨by omega,by omega⟩
  have HD1:=Lib.hid hd1
  clear hd1
  go_enter LK.func102,Try.ntmps102
  go_wp2_with (go_at_call 78;refine (HM.out _).mono ?_;rintro e w' ⟨rfl,rfl⟩)
  obtain⟨W1,hW1⟩:∃ W1,W1=w.alloc (.cells #[.slice gA ng gc,.slice dA nd dc,.slice hA nh hc] 29):=⟨_,rfl⟩
  rw[← hW1] at HG HF HZ1
  rw[← hW1]
  clear hW1
  go_loopw [22] (fun i wr=>∃ k:Nat,k≤xs.length∧i=.int .i64 k∧wr=W1∧Hid (E=qC nd (before xs k) (xs.drop k))) (fun i _=>xs.length-(intOf i).toNat)
  case atStart=>exact⟨0,Nat.zero_le _,rfl,rfl,hR0⟩
  case round =>
   obtain⟨k,hk,rfl,rfl,hRk⟩:=hrel
   clear hR0
   by_cases hlt:k<xs.length
   ·rcases HF.out with hnil|⟨b,off,rfl,hcell⟩
    ·rw[hnil] at hlt
     exact absurd hlt (by simp)
    ·have hck:=hcell k _ (List.getElem?_eq_getElem hlt)
     have hcp:∀ y,before xs k=some y→0<k∧wr.cell? ⟨b,off+(k-1),none⟩=some (.int .i64 y):=fun y hy=>by
      unfold before at hy
      split at hy
      ·cases hy
      ·exact⟨by omega,hcell (k-1) y hy⟩
     have hbn:before xs k=none→k=0:=fun hy=>by
      unfold before at hy
      split at hy
      ·assumption
      ·rw[List.getElem?_eq_none_iff] at hy
       omega
     have hst:=hRk.out.trans (zap hlt)
     have hN:=Lib.hid hst
     have z1:=HZ1.out
     have hd1:=HD1.out
     clear hcell hst hRk
     generalize xs[k]=x at hck hN
     cases ho:outB x 0 ((nd:Int)-1)
     ·rw[ho] at hN
      have HO:=Lib.hid ho
      clear ho
      cases hbk:before xs k with
      | none =>
       have hk0:=hbn hbk
       have t1:¬ ((0:Int)<(k:Int)):=by omega
       have hN2:Hid (E=qC nd (before xs (k+1)) (xs.drop (k+1))):=by
        have h2:=hN.out
        rw[hbk] at h2
        exact h2
       clear hN hbk hbn hcp hk0
       go_wp2_with (go_at_call 70;refine (qV _ _ _ _).mono ?_;rw[HO.out];rintro e w1 ⟨rfl,rfl⟩)
       go_roundw
       case rel=>exact⟨k+1,by omega,by go_num,(by first|rfl|trivial),hN2⟩
       case measure=>simp[intOf];omega
      | some y =>
       obtain⟨hk0,hcy⟩:=hcp y hbk
       obtain⟨j,rfl⟩:∃ j,k=j+1:=⟨k-1,by omega⟩
       have t1:((0:Int)<((j+1:Nat):Int)):=by omega
       have t3:IntKind.i64.wrap (((j+1:Nat):Int)-1)=(j:Int):=by rw[IntKind.wrap_i64];omega
       rw[Nat.add_sub_cancel] at hcy
       by_cases hxy:x=y
       ·have hN3:E=4:=by
         have h2:=hN.out
         rw[hbk,hxy] at h2
         simpa using h2
        have hN2:=Lib.hid hN3
        clear hN3
        subst hxy
        clear hN hbk hbn hcp hk0
        go_wp2_with (go_at_call 70;refine (qV _ _ _ _).mono ?_;rw[HO.out];rintro e w1 ⟨rfl,rfl⟩)
        go_ret
        exact⟨by rw[hN2.out];rfl,HG.out⟩
       ·have hN3:E=qC nd (before xs (j+1+1)) (xs.drop (j+1+1)):=by
         have h2:=hN.out
         rw[hbk] at h2
         have hyx:¬ (some y=some x):=fun e=>hxy (Option.some.inj e).symm
         rw[if_neg (by simp),if_neg hyx] at h2
         exact h2
        have hN2:=Lib.hid hN3
        have t4:(x==y)=false:=beq_eq_false_iff_ne.2 hxy
        clear hN3 hN hbk hbn hcp hk0
        go_wp2_with (go_at_call 70;refine (qV _ _ _ _).mono ?_;rw[HO.out];rintro e w1 ⟨rfl,rfl⟩)
        go_roundw
        case rel=>exact⟨j+1+1,by omega,by go_num,(by first|rfl|trivial),hN2⟩
        case measure=>simp[intOf];omega
     ·rw[ho] at hN
      have HO:=Lib.hid ho
      have hN2:Hid (E=3):=hN.out
      clear ho hN hbn hcp
      go_wp2_with (go_at_call 70;refine (qV _ _ _ _).mono ?_;rw[HO.out];rintro e w1 ⟨rfl,rfl⟩)
      go_ret
      exact⟨by rw[hN2.out];rfl,HG.out⟩
   ·have hke:k=xs.length:=by omega
    have hN:Hid (E=0):=by
     have h2:=hRk.out
     rw[hke,List.drop_length] at h2
     exact h2
    clear hke hRk
    go_wp2_with fail
    go_ret
    exact⟨by rw[hN.out];rfl,HG.out⟩
 ·have hE:qk nd nh xs=manyE xs.length nh nh:=by unfold qk;rw[if_pos h1]
  rw[hE]
  have hM:=fun W=>jd (fs:=fs) xs.length nh nh W
  have HM:=Lib.hid hM
  generalize manyE xs.length nh nh=m at h1 HM ⊢
  clear hM hE h
  go_enter LK.func102,Try.ntmps102
  go_wp2_with (go_at_call 78;refine (HM.out _).mono ?_;rintro e w' ⟨rfl,rfl⟩)
  go_ret
  exact⟨rfl,HG.out⟩
end
end
section
structure Gd where
 room:Int
 reserve:Int
 melts:Int
 start:Int
structure Hl where
 hours:Int
 covers:Int
 prices:List Int
structure Kt where
 goods:List Gd
 dishes:List (List Int)
 hauls:List Hl
def GdsAt (w:World) (A:Option Addr) (gs:List Gd):Prop:=∀ (j:Nat) (g:Gd),gs[j]?=some g→∃ b off,A=some ⟨b,off,none⟩ ∧
 w.cell? ⟨b,off+j*4,none⟩=some (.int .i64 g.room)∧w.cell? ⟨b,off+j*4+1,none⟩=some (.int .i64 g.reserve)∧w.cell? ⟨b,off+j*4+2,none⟩=some (.int .i64 g.melts)∧w.cell? ⟨b,off+j*4+3,none⟩=some (.int .i64 g.start)
def DishesAt (w:World) (A:Option Addr) (ds:List (List Int)):Prop:=∀ (j:Nat) (d:List Int),ds[j]?=some d→∃ b off,A=some ⟨b,off,none⟩ ∧
 ∃ dA dc,w.cell? ⟨b,off+j,none⟩=some (.slice dA d.length dc)∧Ints w dA d∧d.length≤1000
def HlsAt (w:World) (A:Option Addr) (hs:List Hl):Prop:=∀ (j:Nat) (h:Hl),hs[j]?=some h→∃ b off,A=some ⟨b,off,none⟩ ∧
 ∃ pA pc,w.cell? ⟨b,off+j*3,none⟩=some (.int .i64 h.hours)∧w.cell? ⟨b,off+j*3+1,none⟩=some (.int .i64 h.covers)∧w.cell? ⟨b,off+j*3+2,none⟩=some (.slice pA h.prices.length pc)∧Ints w pA h.prices∧h.prices.length≤1000
structure KtAt (w:World) (K:Kt) (gA dA hA:Option Addr):Prop where
 goods:GdsAt w gA K.goods
 dishes:DishesAt w dA K.dishes
 hauls:HlsAt w hA K.hauls
 ng:K.goods.length≤1000
 nd:K.dishes.length≤1000
 nh:K.hauls.length≤1000
def ktV (K:Kt) (gA dA hA:Option Addr) (gc dc hc:Nat):Value:=.agg #[.slice gA K.goods.length gc,.slice dA K.dishes.length dc,.slice hA K.hauls.length hc]
theorem KtAt.grown {w w':World} {K:Kt} {gA dA hA:Option Addr} (k:KtAt w K gA dA hA) (g:Grown w w'):KtAt w' K gA dA hA:=by
 refine⟨fun j x hx=>?_,fun j x hx=>?_,fun j x hx=>?_,k.ng,k.nd,k.nh⟩
 ·obtain⟨b,off,h1,h2,h3,h4,h5⟩:=k.goods j x hx
  exact⟨b,off,h1,g.cell h2,g.cell h3,g.cell h4,g.cell h5⟩
 ·obtain⟨b,off,h1,dA,dc,h2,h3,h4⟩:=k.dishes j x hx
  exact⟨b,off,h1,dA,dc,g.cell h2,h3.grown g,h4⟩
 ·obtain⟨b,off,h1,pA,pc,h2,h3,h4,h5,h6⟩:=k.hauls j x hx
  exact⟨b,off,h1,pA,pc,g.cell h2,g.cell h3,g.cell h4,h5.grown g,h6⟩
def zB (g:Gd):Bool:=outB g.room 1 20||outB g.reserve 0 g.room||outB g.melts 0 12||outB g.start 0 g.room
def js (gs:List Gd):Int:=if manyE gs.length 1 3≠0 then manyE gs.length 1 3 else if gs.any zB then 1 else 0
def qp {α : Type} (f : α→Int):List α→Int
 | []=>0
 | x::l=>if f x≠0 then f x else qp f l
def qj (ng:Nat) (ds:List (List Int)):Int:=if manyE ds.length 1 3≠0 then manyE ds.length 1 3 else qp (fun d=>eachE d ng 0 3) ds
def haulE (ng:Nat) (h:Hl):Int:=if outB h.hours 0 24||outB h.covers 0 9 then 1 else eachE h.prices ng 0 50
def qF (ng:Nat) (hs:List Hl):Int:=if manyE hs.length 1 5≠0 then manyE hs.length 1 5 else qp (haulE ng) hs
def zC (K:Kt):Int:=if js K.goods≠0 then js K.goods else if qj K.goods.length K.dishes≠0 then qj K.goods.length K.dishes else qF K.goods.length K.hauls
theorem yF {α : Type} (f : α→Int) {l:List α} {k:Nat} (h:k<l.length):qp f (l.drop k)=if f l[k]≠0 then f l[k] else qp f (l.drop (k+1)):=by
 rw[List.drop_eq_getElem_cons h]
 rfl
theorem GdsAt.form {w:World} {A:Option Addr} {gs:List Gd} (h:GdsAt w A gs):gs=[]∨∃ b off,A=some ⟨b,off,none⟩∧∀ (j:Nat) (g:Gd),gs[j]?=some g→w.cell? ⟨b,off+j*4,none⟩=some (.int .i64 g.room)∧w.cell? ⟨b,off+j*4+1,none⟩=some (.int .i64 g.reserve)∧w.cell? ⟨b,off+j*4+2,none⟩=some (.int .i64 g.melts)∧w.cell? ⟨b,off+j*4+3,none⟩=some (.int .i64 g.start):=by
 cases gs with
 | nil=>exact .inl rfl
 | cons x l =>
  obtain⟨b,off,hA,_⟩:=h 0 x rfl
  refine .inr ⟨b,off,hA,fun j g hj=>?_⟩
  obtain⟨b',off',hA',hc⟩:=h j g hj
  rw[hA] at hA'
  injection hA' with hA'
  injection hA' with h1 h2
  subst h1 h2
  exact hc
end
end Go.Gal
