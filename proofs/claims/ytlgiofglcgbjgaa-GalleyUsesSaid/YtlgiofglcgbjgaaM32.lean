/- Walks: run. -/
import Derived.Test.YtlgiofglcgbjgaaM31
namespace Go.Gal
open Go Go.Par Go.Proofs Go.RowKit
section
variable {L ng h i:Nat} {er:Int} {p:Nat→Bool} {cs:Nat→Array Value} {w w':World} {e:Ending}
theorem DoPost.stop (d:DoPost L ng h er (fun i=>!p i) cs w e w') (hf:(List.range ng).find? p=some i):But L w w'∧e=.panicked [{ v:=.iface 99 (.agg #[int h,int i,.int .i64 er]),recovered:=false }]:=by
 obtain⟨f1,f2,f3⟩:=Yz hf
 obtain⟨hb,⟨_,hall,_⟩|⟨i',a1,a2,a3,a4⟩⟩:=d
 ·have:=hall i f1
  simp only[f2] at this
  cases this
 ·have hi:i'=i:=by
   rcases Nat.lt_trichotomy i' i with q|q|q
   ·have:=f3 i' q
    simp only[this] at a3
    cases a3
   ·exact q
   ·have:=a2 i q
    simp only[f2] at this
    cases this
  subst hi
  exact⟨hb,a4⟩
theorem DoPost.go (d:DoPost L ng h er (fun i=>!p i) cs w e w') (hf:(List.range ng).find? p=none):But L w w'∧e=.returned (.tuple #[])∧w'.heap[L]?=some (.cells (cs ng) 125 (0,0)):=by
 have f:=find_none hf
 obtain⟨hb,⟨a1,_,a3⟩|⟨i',a1,_,a3,_⟩⟩:=d
 ·exact⟨hb,a1,a3⟩
 ·simp only[f i' a1] at a3
  cases a3
end
theorem DoPost.congr {L ng h:Nat} {er:Int} {ok ok':Nat→Bool} {cs:Nat→Array Value} {w w':World} {e:Ending} (hk:∀ i,i<ng→ok i=ok' i) (d:DoPost L ng h er ok cs w e w'):DoPost L ng h er ok' cs w e w':=by
 obtain⟨hb,⟨a1,a2,a3⟩|⟨i,a1,a2,a3,a4⟩⟩:=d
 ·exact⟨hb,.inl ⟨a1,fun i hi=>(hk i hi).symm.trans (a2 i hi),a3⟩⟩
 ·exact⟨hb,.inr ⟨i,a1,fun j hj=>(hk j (by omega)).symm.trans (a2 j hj),(hk i a1).symm.trans a3,a4⟩⟩
theorem DoPost.all {L ng h:Nat} {er:Int} {cs:Nat→Array Value} {w w':World} {e:Ending} (d:DoPost L ng h er (fun _=>true) cs w e w'):But L w w'∧e=.returned (.tuple #[])∧w'.heap[L]?=some (.cells (cs ng) 125 (0,0)):=by
 obtain⟨hb,⟨a1,_,a3⟩|⟨i,_,_,a3,_⟩⟩:=d
 ·exact⟨hb,a1,a3⟩
 ·cases a3
section
variable {Ds:List Good1} {ls:List (List Int)} {r h i:Nat} {now mel:Nat→Nat}
theorem zcW (hf:(List.range Ds.length).find? (barAt Ds ls h now)=some i):runG Ds ls (r+1) h now mel=⟨[],some (h,i,9),mel⟩:=by
 simp only[runG,hf]
theorem zam (hf:(List.range Ds.length).find? (barAt Ds ls h now)=none) (hs:(List.range Ds.length).find? (ZR Ds ls h now)=some i):runG Ds ls (r+1) h now mel=⟨[],some (h,i,11),mel⟩:=by
 simp only[runG,hf,hs]
theorem zbM (hf:(List.range Ds.length).find? (barAt Ds ls h now)=none) (hs:(List.range Ds.length).find? (ZR Ds ls h now)=none):runG Ds ls (r+1) h now mel =
  ⟨((List.range Ds.length).map fun i=>((nextN Ds ls h now i:Nat):Int))::(runG Ds ls r (h+1) (zy Ds.length now (nextN Ds ls h now)) (zy Ds.length mel fun i=>mel i+Za Ds ls h now i)).left,(runG Ds ls r (h+1) (zy Ds.length now (nextN Ds ls h now)) (zy Ds.length mel fun i=>mel i+Za Ds ls h now i)).stop,
   (runG Ds ls r (h+1) (zy Ds.length now (nextN Ds ls h now)) (zy Ds.length mel fun i=>mel i+Za Ds ls h now i)).mel⟩:=by
 simp only[runG,hf,hs]
end
def zac (_A:Kit1) (R:Ran) (e:Ending) (w':World):Prop:=
 (∃ h i er,R.stop=some (h,i,er)∧∃ M n c,e=.returned (.tuple #[.slice M n c,.agg #[.int .i64 0,.int .i64 0,.int .i64 0],.agg #[int h,int i,.int .i64 er]])) ∨
 (R.stop=none∧∃ M c,e=.returned (.tuple #[.slice M R.left.length c,.agg #[int (R.mel 0),int (R.mel 1),int (R.mel 2)],.agg #[.int .i64 (-1),.int .i64 (-1),.int .i64 0]])∧DishesAt w' M R.left)
structure RunAt (V wr:World) (A:Kit1) (L h:Nat) (now mel:Nat→Nat) (M:Option Addr) (c:Nat) (rows:List (List Int)):Prop where
 but:But L V wr
 row:wr.heap[L]?=some (.cells (qt A now mel) 125 (0,0))
 left:RowList wr V.heap.size M c rows
 now:∀ i,i<A.ng→now i≤20
 mel:∀ i,i<A.ng→mel i≤h*40
 len:rows.length=h
theorem boxes7 (w:World) (o1 o2 o3 o4 o5 o6 o7:Obj) {V:World} (hV:V=((((((w.alloc o1).alloc o2).alloc o3).alloc o4).alloc o5).alloc o6).alloc o7) :
  V.heap[w.heap.size]?=some o1∧V.heap[w.heap.size+1]?=some o2∧V.heap[w.heap.size+1+1]?=some o3∧V.heap[w.heap.size+1+1+1]?=some o4∧V.heap[w.heap.size+1+1+1+1]?=some o5∧V.heap[w.heap.size+1+1+1+1+1]?=some o6∧V.heap[w.heap.size+1+1+1+1+1+1]?=some o7 ∧
   V.heap.size=w.heap.size+7∧Grown w V:=by
 have s1:=qg w o1
 have s2:=qg (w.alloc o1) o2
 have s3:=qg ((w.alloc o1).alloc o2) o3
 have s4:=qg (((w.alloc o1).alloc o2).alloc o3) o4
 have s5:=qg ((((w.alloc o1).alloc o2).alloc o3).alloc o4) o5
 have s6:=qg (((((w.alloc o1).alloc o2).alloc o3).alloc o4).alloc o5) o6
 have s7:=qg ((((((w.alloc o1).alloc o2).alloc o3).alloc o4).alloc o5).alloc o6) o7
 subst hV
 refine⟨?_,?_,?_,?_,?_,?_,?_,by omega,(((((((Grown.alloc w _).trans (.alloc _ _)).trans (.alloc _ _)).trans (.alloc _ _)).trans (.alloc _ _)).trans (.alloc _ _)).trans (.alloc _ _))⟩
 ·rw[zD (by omega),zD (by omega),zD (by omega),zD (by omega),zD (by omega),zD (by omega),qv (by omega)]
 ·rw[zD (by omega),zD (by omega),zD (by omega),zD (by omega),zD (by omega),qv (by omega)]
 ·rw[zD (by omega),zD (by omega),zD (by omega),zD (by omega),qv (by omega)]
 ·rw[zD (by omega),zD (by omega),zD (by omega),qv (by omega)]
 ·rw[zD (by omega),zD (by omega),qv (by omega)]
 ·rw[zD (by omega),qv (by omega)]
 ·rw[qv (by omega)]
section
variable {fs:Array Func} [LikeS fs]
omit [LikeS fs] in
theorem Qy {P:Program} {fn:Func} {tmps tmps':Array Value} {R:Ending→World→Prop} (hr:results fn tmps'=results fn tmps):∀ ds u w,Leaves P fn tmps' R ds u w→Leaves P fn tmps R ds u w
 | [],.returning,w,h=>by
  obtain⟨v,h1,h2⟩:=h
  exact⟨v,by rw[← hr];exact h1,h2⟩
 | [],.panicking chain,w,h=>h
 | [],.run,w,h=>h
 | d::ds,u,w,h=>by
  obtain⟨h1,fv,cap,f,args,h2,h3,h4⟩:=h
  refine⟨h1,fv,cap,f,args,h2,h3,h4.mono fun e u' w'=>?_⟩
  cases e with
  | returned v=>exact Qy hr ds _ _
  | panicked c=>exact Qy hr ds _ _
  | outgrown=>exact id
omit [LikeS fs] in
theorem res67 (T:Array Value) (d:Nat) (v:Value) (h:d≠6∧d≠7∧d≠8):results Try.f67 (T.setIfInBounds d v)=results Try.f67 T:=by
 have g:∀ k,d≠k→(T.setIfInBounds d v).getD k undef=T.getD k undef:=fun k hk=>by
  rw[Array.getD_eq_getD_getElem?,Array.getElem?_setIfInBounds_ne hk,← Array.getD_eq_getD_getElem?]
 unfold results
 rw[Try.results67]
 simp only[List.mapM_toArray,List.mapM_cons,List.mapM_nil,g 6 h.1,g 7 h.2.1,g 8 h.2.2]
omit [LikeS fs] in
theorem qA {R:Ending→World→Prop} {d:Nat} {v:Value} {c:List PanicEntry} {a:Act} {w:World} (hd:d≠6∧d≠7∧d≠8) (h:bodyPostD (Pf fs) Try.f67 R (.panic c) (a.put (some d) v) w):bodyPostD (Pf fs) Try.f67 R (.panic c) a w:=
 Qy (res67 a.tmps d v hd) _ _ _ h
theorem inv94 (v:Value) (w:World):(invoke (.fn (.func 94) #[v]) #[]).run (Pf fs) w=.ok (.enter 94 #[v]) w:=LK.call94 #[v] w
set_option maxRecDepth 20000 in
set_option maxHeartbeats 4000000 in
theorem zdT (A:Kit1) (Ds:List Good1) (ls:List (List Int)) (lA:Option Addr) (lc:Nat) (w:World) (R:RunIn w A Ds ls lA) (h1 : 1≤A.ng) (hng:A.ng≤3) (hnh:A.nh≤16) :
  Calls (Pf fs) 67 #[A.k,A.m,.slice lA ls.length lc] w fun e w'=>Grown w w'∧zac A (runOf Ds ls A.nh) e w':=by
 have hmf:∀ (fn:Fn) (first cap:Array Value) (w:World),(Instr.makeFunc fn first cap).run (Pf fs) w=.ok (.func fn first cap) w:=fun _ _ _ _=>rfl
 have HR:=Lib.hid R
 have hstart:∀ i,i<A.ng→w.cell? ⟨A.gb,A.go+i*4,none⟩=some (int (atG Ds i).room)∧w.cell? ⟨A.gb,A.go+i*4+1,none⟩=some (int (atG Ds i).reserve)∧w.cell? ⟨A.gb,A.go+i*4+2,none⟩=some (int (atG Ds i).melts)∧w.cell? ⟨A.gb,A.go+i*4+3,none⟩=some (int (atG Ds i).start):=fun i hi=>by
  have k:=R.kit i _ (R.at_ hi)
  exact⟨k.room,k.reserve,k.melts,k.start⟩
 have HST:=Lib.hid hstart
 have HK:Hid (A.k=.agg #[A.gs,A.ds,A.hs]):=rfl
 clear R hstart
 have hk:=HK.out
 rw[hk]
 clear hk HK
 obtain⟨V,hV⟩:∃ V,V=((((((w.alloc (.cells #[A.gs,A.ds,A.hs] 29)).alloc (.cells #[A.m] 22)).alloc (.cells #[.slice lA ls.length lc] 32)).alloc (.cells #[.int .i64 0,.int .i64 0,.int .i64 0] 97)).alloc (.cells #[.int .i64 0,.int .i64 0,.int .i64 0] 99)).alloc (.cells #[A.gs,A.ds,A.hs,.int .i64 0,.int .i64 0,.int .i64 0,.int .i64 0,.int .i64 0,.int .i64 0] 125)).alloc (.cells #[.pointer (some ⟨w.heap.size+1+1+1+1+1,0,none⟩)] 123):=⟨_,rfl⟩
 obtain⟨b0,b1,b2,b3,b4,b5,b6,bs,bg⟩:=boxes7 w _ _ _ _ _ _ _ hV
 have HV:=Lib.hid hV
 have HB0:=Lib.hid b0
 have HB1:=Lib.hid b1
 have HB2:=Lib.hid b2
 have HB3:=Lib.hid b3
 have HB4:=Lib.hid b4
 have HB5:=Lib.hid b5
 have HB6:=Lib.hid b6
 have HBS:=Lib.hid bs
 have HBG:=Lib.hid bg
 clear hV b0 b1 b2 b3 b4 b5 b6 bs bg
 simp only[Kit1.gs,Kit1.ds,Kit1.hs,Kit1.m] at HV ⊢
 go_enter_defers LK.func67,Try.ntmps67
 go_wp2_with fail
 have hv:=HV.out
 rw[← hv]
 clear hv HV
 have hLe:w.heap.size+4<w.heap.size+1+1+1+1+1:=by omega
 have HLE:=Lib.hid hLe
 clear hLe
 have HGW0:Hid (∀ W,But (w.heap.size+1+1+1+1+1) V W→Grown w W):=fun W b=>(b.trans (But.refl _ _)) |> fun b=>⟨Nat.le_trans HBG.out.size b.size,fun x hx=>(b.same x (by omega) (Nat.lt_of_lt_of_le hx HBG.out.size)).trans (HBG.out.same x hx),b.os.trans HBG.out.os⟩
 generalize hS0:w.heap.size=S0 at *
 generalize hL:S0+1+1+1+1+1=L at *
 have HS0:=Lib.hid hS0
 clear hS0 hL
 have hT0:=Lib.hid (show But L V V∧V.heap[L]?=some (.cells (qt A (zy 0 (fun _=>0) fun i=>(atG Ds i).start) (fun _=>0)) 125 (0,0)) from ⟨But.refl _ _,HB5.out⟩)
 go_loopw [20] (fun i wr=>∃ n:Nat,n≤A.ng∧i=.int .i64 n∧Hid (But L V wr∧wr.heap[L]?=some (.cells (qt A (zy n (fun _=>0) fun i=>(atG Ds i).start) (fun _=>0)) 125 (0,0)))) (fun i _=>A.ng-(intOf i).toNat)
 case atStart=>exact⟨0,Nat.zero_le _,rfl,hT0⟩
 case round =>
  obtain⟨n,hn,rfl,hT⟩:=hrel
  clear hT0
  by_cases hlt:n<A.ng
  ·obtain⟨p0,p1,p2,p3⟩:=HST.out n hlt
   have hgw:=HGW0.out wr hT.out.1
   have d0:=hgw.cell p0
   have d1:=hgw.cell p1
   have d2:=hgw.cell p2
   have d3:=hgw.cell p3
   clear p0 p1 p2 p3 hgw
   unfold int at d0 d1 d2 d3
   go_upto_region 5 with fail
   clear d0 d1 d2 d3
   obtain⟨wa,hwa⟩:∃ W,W=wr.alloc (.cells #[.int .i64 (atG Ds n).room,.int .i64 (atG Ds n).reserve,.int .i64 (atG Ds n).melts,.int .i64 (atG Ds n).start] 42):=⟨_,rfl⟩
   have e0:wa.heap[wr.heap.size]?=some (.cells #[.int .i64 (atG Ds n).room,.int .i64 (atG Ds n).reserve,.int .i64 (atG Ds n).melts,.int .i64 (atG Ds n).start] 42 (0,0)):=by rw[hwa];exact heap_alloc_new _ _
   have hba:But L V wa:=by rw[hwa];exact hT.out.1.trans ((Grown.alloc _ _).but L)
   have e1:wa.heap[L]?=some (.cells (qt A (zy n (fun _=>0) fun i=>(atG Ds i).start) (fun _=>0)) 125 (0,0)):=by rw[hwa];exact zt hT.out.2 _
   have e2:=hba.block (b:=L+1) (by omega) HB6.out
   have hn3:n<3:=by omega
   have y0:=za e0 3
   have y1:=(za e1 (3+n)).trans (yB hn3)
   have y2:=zk e1 (3+n)
   have y3:=za e2 0
   have hn3i:(n:Int)<3:=by omega
   rw[yg] at y1
   unfold int at y1
   simp only[List.getElem?_toArray,List.getElem?_cons_succ,List.getElem?_cons_zero] at y0 y3
   rw[← hwa]
   have HBA:=Lib.hid hba
   have HE1:=Lib.hid e1
   clear hwa e0 e1 e2 hba
   refine wp_region_still_tail 7 (by kernel_rfl) (by kernel_rfl) ?_
   simp only[List.take_succ_cons,List.take_zero,List.drop_succ_cons,List.drop_zero]
   change wpStill _ _ (World.drew _) (fun a'=>wpList _ _ _ _ a' (World.drew _)) _ _
   repeat still_step
   refine wpStill_nil ?_
   go_wp2_with fail
   go_roundw
   case rel=>exact⟨n+1,by omega,by go_num,(HBA.out.set _ _).drewN 1,by
    show (wa.setCell ⟨L,3+n,none⟩ _).heap[L]?=_
    rw[zR HE1.out,← yx n (fun _=>0) (fun i=>(atG Ds i).start),← jV hn3]
    rfl⟩
   case measure=>simp[intOf];omega
  ·obtain rfl:n=A.ng:=by omega
   have e0:=hT.out.1.block (b:=S0) (by have:=HLE.out;omega) HB0.out
   have y0:=za e0 0
   have y2:=za e0 2
   simp only[List.getElem?_toArray,List.getElem?_cons_succ,List.getElem?_cons_zero] at y0 y2
   unfold Kit1.gs at y0
   unfold Kit1.hs at y2
   have hI0:RunAt V wr A L 0 (zy A.ng (fun _=>0) fun i=>(atG Ds i).start) (fun _=>0) none 0 []:=
    ⟨hT.out.1,hT.out.2,RowList.nil _ _,fun i hi=>by unfold zy;rw[if_pos hi];show (atG Ds i).start≤20;have:=HR.out.room i _ (HR.out.at_ hi);omega,fun i _=>Nat.zero_le _,rfl⟩
   have hG0:runOf Ds ls A.nh=⟨[]++(runG Ds ls (A.nh-0) 0 (zy A.ng (fun _=>0) fun i=>(atG Ds i).start) (fun _=>0)).left,(runG Ds ls (A.nh-0) 0 (zy A.ng (fun _=>0) fun i=>(atG Ds i).start) (fun _=>0)).stop,(runG Ds ls (A.nh-0) 0 (zy A.ng (fun _=>0) fun i=>(atG Ds i).start) (fun _=>0)).mel⟩:=by
    unfold runOf
    rw[HR.out.len]
    rfl
   have HI0:=Lib.hid hI0
   have HG0:=Lib.hid hG0
   clear hT e0 hI0 hG0 hlt hn
   go_wp2_with fail
   clear y0 y2
   go_loopw [37,6] (fun i lv wr=>∃ (n:Nat) (M:Option Addr) (c:Nat) (rows:List (List Int)) (now mel:Nat→Nat),n≤A.nh∧i=.int .i64 n∧lv=.slice M rows.length c∧Hid (RunAt V wr A L n now mel M c rows) ∧
    Hid (runOf Ds ls A.nh=⟨rows++(runG Ds ls (A.nh-n) n now mel).left,(runG Ds ls (A.nh-n) n now mel).stop,(runG Ds ls (A.nh-n) n now mel).mel⟩)) (fun i _ _=>A.nh-(intOf i).toNat)
   case atStart=>exact⟨0,none,0,[],_,_,Nat.zero_le _,rfl,rfl,HI0,HG0⟩
   case round =>
    obtain⟨n,M,c,rows,now,mel,hn,rfl,rfl,hT,hG⟩:=hrel
    clear HI0 HG0
    by_cases hlt:n<A.nh
    ·obtain⟨W1,hW1⟩:∃ W,W=wr.alloc (.cells #[.int .i64 n] 3):=⟨_,rfl⟩
     have hb1:But L V W1:=by rw[hW1];exact hT.out.but.trans ((Grown.alloc _ _).but L)
     have e9:W1.heap[wr.heap.size]?=some (.cells #[.int .i64 n] 3 (0,0)):=by rw[hW1];exact heap_alloc_new _ _
     have eL:W1.heap[L]?=some (.cells (qt A now mel) 125 (0,0)):=by rw[hW1];exact zt hT.out.row _
     have hvl:=zj HB6.out
     have cx:RunCx w W1 A ls lA lc S0 (S0+1) (S0+1+1) (L+1) wr.heap.size L n:=by
      have q5:=HLE.out
      have q6:=hT.out.but.size
      have k0:=hb1.block (b:=S0) (by omega) HB0.out
      have k1:=hb1.block (b:=S0+1) (by omega) HB1.out
      have k2:=hb1.block (b:=S0+1+1) (by omega) HB2.out
      have k3:=hb1.block (b:=L+1) (by omega) HB6.out
      exact⟨HGW0.out _ hb1,by rw[HS0.out];omega,za k0 0,za k0 1,za k0 2,za k1 0,za k2 0,za k3 0,za e9 0,by omega,by omega,by omega,by omega,by omega⟩
     have hc1:=do_load (fs:=fs) HR.out hng hlt cx eL hT.out.now
     have HC1:=Lib.hid hc1
     have HCX:=Lib.hid cx
     have HBW:=Lib.hid hb1
     have hW1':=hW1
     clear hc1 cx hb1 e9 eL hvl
     cases hf1:(List.range Ds.length).find? (barAt Ds ls n now) with
     | some i =>
      have hf2:=hf1
      rw[HR.out.len] at hf2
      have HC2:=Lib.hid (HC1.out.mono fun e w' d=>DoPost.stop d hf2)
      clear HC1 hf2
      rw[hW1] at HC2
      go_wp2_with (go_at_call 95;refine HC2.out.mono ?_;rintro e w2 ⟨hb2,rfl⟩)
      have hbV:=(HBW.out.trans (by rw[hW1'];exact hb2))
      have q8:=hbV.block (b:=S0+1+1+1+1) (by have:=HLE.out;omega) HB4.out
      have q7:=hbV.block (b:=S0+1+1+1) (by have:=HLE.out;omega) HB3.out
      refine leaves_cons (f:=94) (args:=#[.pointer (some ⟨S0+1+1+1+1,0,none⟩)]) (by simp) (inv94 _ _) ?_
      refine (zbq (S0+1+1+1+1) n i 9 _ _ _ [] _ q8).mono ?_
      rintro e u' w3 ⟨rfl,rfl,hb3,hc3⟩
      have q7':=hb3.block (b:=S0+1+1+1) (by omega) q7
      have x0:=za q7' 0
      have x1:=za q7' 1
      have x2:=za q7' 2
      have x3:=za hc3 0
      have x4:=za hc3 1
      have x5:=za hc3 2
      simp only[List.getElem?_toArray,List.getElem?_cons_succ,List.getElem?_cons_zero] at x0 x1 x2 x3 x4 x5
      have hfin:Grown w w3∧zac A (runOf Ds ls A.nh) (.returned (.tuple #[.slice M rows.length c,.agg #[.int .i64 0,.int .i64 0,.int .i64 0],.agg #[int n,int i,.int .i64 9]])) w3:=by
       refine⟨?_,.inl ⟨n,i,9,?_,_,_,_,rfl⟩⟩
       ·have g2:=HGW0.out _ hbV
        exact⟨Nat.le_trans g2.size hb3.size,fun x hx=>(hb3.same x (by rw[HS0.out] at hx;omega) (Nat.lt_of_lt_of_le hx g2.size)).trans (g2.same x hx),hb3.os.trans g2.os⟩
       ·rw[hG.out]
        have e9:A.nh-n=(A.nh-n-1)+1:=by omega
        rw[e9,zcW hf1]
      have HFIN:=Lib.hid hfin
      clear hfin hf1
      simp[Leaves,settle,results,Try.results67,go_sem,x0,x1,x2,x3,x4,x5]
      exact HFIN.out
     | none =>
      have hf2:=hf1
      rw[HR.out.len] at hf2
      have HC2:=Lib.hid (HC1.out.mono fun e w' d=>DoPost.go d hf2)
      clear HC1 hf2
      rw[hW1] at HC2
      have hx1:∀ i,i<A.ng→zy A.ng now (fun j=>now j+ldN ls n j) i≤255:=fun i hi=>by
       unfold zy
       rw[if_pos hi]
       obtain⟨_,_,_,h20⟩:=HR.out.ld (h:=n) hi hlt
       have:=hT.out.now i hi
       show now i+ldN ls n i≤255
       omega
      have hm1:∀ i,i<A.ng→mel i≤1000000:=fun i hi=>by
       have h5:=hT.out.mel i hi
       have h6:n*40≤16*40:=Nat.mul_le_mul_right _ (by omega)
       omega
      have hy1:∀ i,i<A.ng→zy A.ng (zy A.ng now fun j=>now j+ldN ls n j) (fun j=>(zy A.ng now (fun j=>now j+ldN ls n j)) j-melted (hlG (atG Ds j) n).hours (atG Ds j).melts ((zy A.ng now fun j=>now j+ldN ls n j) j)) i≤255:=fun i hi=>by
       have e:∀ f g:Nat→Nat,zy A.ng f g i=g i:=fun f g=>by unfold zy;rw[if_pos hi]
       rw[e]
       exact Nat.le_trans (Nat.sub_le _ _) (hx1 i hi)
      have hok:∀ i,i<A.ng→decide (((atG Ds i).reserve:Int)≤((zy A.ng (zy A.ng now fun j=>now j+ldN ls n j) (fun j=>(zy A.ng now (fun j=>now j+ldN ls n j)) j-melted (hlG (atG Ds j) n).hours (atG Ds j).melts ((zy A.ng now fun j=>now j+ldN ls n j) j)) i:Nat):Int)-(usN Ds n i:Nat))=!ZR Ds ls n now i:=fun i hi=>by
       have e:∀ f g:Nat→Nat,zy A.ng f g i=g i:=fun f g=>by unfold zy;rw[if_pos hi]
       rw[e]
       simp only[e]
       unfold ZR usN
       rw[ZM]
       by_cases h7:((atG Ds i).reserve:Int)≤((now i+ldN ls n i-melted (hlG (atG Ds i) n).hours (atG Ds i).melts (now i+ldN ls n i):Nat):Int)-(((hlG (atG Ds i) n).covers*(hlG (atG Ds i) n).need:Nat):Int)
       ·rw[decide_eq_true h7,decide_eq_false (by omega)];rfl
       ·rw[decide_eq_false h7,decide_eq_true (by omega)];rfl
      have HX1:=Lib.hid hx1
      have HM1:=Lib.hid hm1
      have HY1:=Lib.hid hy1
      have HOK:=Lib.hid hok
      have HW1:=Lib.hid hW1'.symm
      clear hW1 hW1' hx1 hm1 hy1 hok
      cases hs1:(List.range Ds.length).find? (ZR Ds ls n now) with
      | some i =>
       have hs2:=hs1
       rw[HR.out.len] at hs2
       go_wp2_with (first|(go_at_call 95;refine HC2.out.mono ?_;rintro e w2 ⟨hb2,rfl,hr2⟩;have HBa:=Lib.hid hb2;have HCX2:=Lib.hid (HCX.out.but (HW1.out▸hb2));have HC3:=Lib.hid ((zem (fs:=fs) HR.out hng hlt HCX2.out hr2 HX1.out HM1.out).mono fun e w' d=>DoPost.all d);clear hb2 hr2)|(go_at_call 95;refine HC3.out.mono ?_;rintro e w3 ⟨hb3,rfl,hr3⟩;have HBb:=Lib.hid hb3;have HCX3:=Lib.hid (HCX2.out.but hb3);have HC4:=Lib.hid ((zeE (fs:=fs) HR.out hng hlt HCX3.out hr3 HY1.out).mono fun e w' d=>DoPost.stop (DoPost.congr HOK.out d) hs2);clear hb3 hr3)|(go_at_call 95;refine HC4.out.mono ?_;rintro e w4 ⟨hb4,rfl⟩))
       have hbV:=(HBW.out.trans (HW1.out▸HBa.out)).trans (HBb.out.trans hb4)
       have q8:=hbV.block (b:=S0+1+1+1+1) (by have:=HLE.out;omega) HB4.out
       have q7:=hbV.block (b:=S0+1+1+1) (by have:=HLE.out;omega) HB3.out
       refine leaves_cons (f:=94) (args:=#[.pointer (some ⟨S0+1+1+1+1,0,none⟩)]) (by simp) (inv94 _ _) ?_
       refine (zbq (S0+1+1+1+1) n i 11 _ _ _ [] _ q8).mono ?_
       rintro e u' w5 ⟨rfl,rfl,hb5,hc5⟩
       have q7':=hb5.block (b:=S0+1+1+1) (by omega) q7
       have x0:=za q7' 0
       have x1:=za q7' 1
       have x2:=za q7' 2
       have x3:=za hc5 0
       have x4:=za hc5 1
       have x5:=za hc5 2
       simp only[List.getElem?_toArray,List.getElem?_cons_succ,List.getElem?_cons_zero] at x0 x1 x2 x3 x4 x5
       have hfin:Grown w w5∧zac A (runOf Ds ls A.nh) (.returned (.tuple #[.slice M rows.length c,.agg #[.int .i64 0,.int .i64 0,.int .i64 0],.agg #[int n,int i,.int .i64 11]])) w5:=by
        refine⟨?_,.inl ⟨n,i,11,?_,_,_,_,rfl⟩⟩
        ·have g2:=HGW0.out _ hbV
         exact⟨Nat.le_trans g2.size hb5.size,fun x hx=>(hb5.same x (by rw[HS0.out] at hx;omega) (Nat.lt_of_lt_of_le hx g2.size)).trans (g2.same x hx),hb5.os.trans g2.os⟩
        ·rw[hG.out]
         have e9:A.nh-n=(A.nh-n-1)+1:=by omega
         rw[e9,zam hf1 hs1]
       have HFIN:=Lib.hid hfin
       clear hfin hf1 hs1
       show Leaves _ _ _ _ [] FrameMode.returning w5
       clear HOK HX1 HY1 HM1 HCX HCX2 HCX3 HC2 HC3 HC4 HBa HBb HBW hG hT
       simp[Leaves,results,Try.results67,go_sem,x0,x1,x2,x3,x4,x5]
       exact HFIN.out
      | none =>
       have hs2:=hs1
       rw[HR.out.len] at hs2
       go_upto_region 15 with (first|(go_at_call 95;refine HC2.out.mono ?_;rintro e w2 ⟨hb2,rfl,hr2⟩;have HBa:=Lib.hid hb2;have HCX2:=Lib.hid (HCX.out.but (HW1.out▸hb2));have HC3:=Lib.hid ((zem (fs:=fs) HR.out hng hlt HCX2.out hr2 HX1.out HM1.out).mono fun e w' d=>DoPost.all d);clear hb2 hr2)|(go_at_call 95;refine HC3.out.mono ?_;rintro e w3 ⟨hb3,rfl,hr3⟩;have HBb:=Lib.hid hb3;have HCX3:=Lib.hid (HCX2.out.but hb3);have HC4:=Lib.hid ((zeE (fs:=fs) HR.out hng hlt HCX3.out hr3 HY1.out).mono fun e w' d=>DoPost.go (DoPost.congr HOK.out d) hs2);clear hb3 hr3)|(go_at_call 95;refine HC4.out.mono ?_;rintro e w4 ⟨hb4,rfl,hr4⟩))
       have hlar:qt A (zy A.ng (zy A.ng (zy A.ng now fun j=>now j+ldN ls n j) fun j=>(zy A.ng now (fun j=>now j+ldN ls n j)) j-melted (hlG (atG Ds j) n).hours (atG Ds j).melts ((zy A.ng now fun j=>now j+ldN ls n j) j)) fun j=>(((zy A.ng (zy A.ng now fun j=>now j+ldN ls n j) fun j=>(zy A.ng now (fun j=>now j+ldN ls n j)) j-melted (hlG (atG Ds j) n).hours (atG Ds j).melts ((zy A.ng now fun j=>now j+ldN ls n j) j)) j:Int)-(usN Ds n j:Nat)).toNat)
         (zy A.ng mel fun j=>mel j+melted (hlG (atG Ds j) n).hours (atG Ds j).melts ((zy A.ng now fun j=>now j+ldN ls n j) j))=qt A (zy A.ng now (nextN Ds ls n now)) (zy A.ng mel fun i=>mel i+Za Ds ls n now i):=by
        refine larderC_congr (fun i _=>?_) fun i _=>?_
        ·unfold zy
         by_cases hi:i<A.ng
         ·simp only[if_pos hi]
          unfold nextN
          rw[ZM]
          rfl
         ·simp only[if_neg hi]
        ·unfold zy
         by_cases hi:i<A.ng
         ·simp only[if_pos hi]
          rfl
         ·simp only[if_neg hi]
       rw[hlar] at hr4
       clear hlar
       have hbV:=(HBW.out.trans (HW1.out▸HBa.out)).trans (HBb.out.trans hb4)
       have e0:=hbV.block (b:=S0) (by have:=HLE.out;omega) HB0.out
       have e6:=hbV.block (b:=L+1) (by omega) HB6.out
       have hS:w4.drew.cell? ⟨L+1,0,none⟩=some (.pointer (some ⟨L,0,none⟩))∧w4.drew.cell? ⟨S0,0,none⟩=some (.slice (some ⟨A.gb,A.go,none⟩) A.ng A.cg):=⟨za e6 0,za e0 0⟩
       have HBV:=Lib.hid hbV
       have HBWR:=Lib.hid (((Grown.alloc wr (.cells #[.int .i64 n] 3)).but L).trans (HBa.out.trans (HBb.out.trans hb4)))
       have HR4:=Lib.hid hr4
       have hng3:(A.ng:Int)≤3:=by omega
       clear hbV e0 e6 hr4 hb4 HC2 HC3 HC4 HX1 HY1 HM1 HOK HCX HCX2 HCX3 HBa HBb
       refine qh (by kernel_rfl) (fun W=>W.cell? ⟨L+1,0,none⟩=some (.pointer (some ⟨L,0,none⟩))∧W.cell? ⟨S0,0,none⟩=some (.slice (some ⟨A.gb,A.go,none⟩) A.ng A.cg)) [] ?_
       refine zh 0 ?_ rfl ?_ ?_ (hQ:=fun _ _ _ h=>qA (by decide) h);case refine_2=>(intro w _;go_simp;try rfl)
       refine zx 1 ?_ rfl hS ?_ ?_ (hQ:=fun _ _ _ h=>qA (by decide) h);case refine_2=>(intro w hSw;(try dsimp only at hSw);go_simp;try rfl)
       refine zh 2 ?_ rfl ?_ ?_ (hQ:=fun _ _ _ h=>qA (by decide) h);case refine_2=>(intro w _;go_simp;try rfl)
       refine zh 3 ?_ rfl ?_ ?_ (hQ:=fun _ _ _ h=>qA (by decide) h);case refine_2=>(intro w _;go_simp;try rfl)
       refine zh 4 ?_ rfl ?_ ?_ (hQ:=fun _ _ _ h=>qA (by decide) h);case refine_2=>(intro w _;go_simp;try rfl)
       refine zx 5 ?_ rfl hS ?_ ?_ (hQ:=fun _ _ _ h=>qA (by decide) h);case refine_2=>(intro w hSw;(try dsimp only at hSw);go_simp;try rfl)
       refine zh 6 ?_ rfl ?_ ?_ (hQ:=fun _ _ _ h=>qA (by decide) h);case refine_2=>(intro w _;go_simp;try rfl)
       refine zh 7 ?_ rfl ?_ ?_ (hQ:=fun _ _ _ h=>qA (by decide) h);case refine_2=>(intro w _;go_simp;try rfl)
       refine zw (i:=8) rfl (by kernel_rfl) ?_
       intro Kq hKq
       go_simp
       obtain⟨ys,hys⟩:∃ ys,ys=(List.range A.ng).map fun i=>((nextN Ds ls n now i:Nat):Int):=⟨_,rfl⟩
       have hyl:ys.length=A.ng:=by rw[hys];simp
       have hI:Ints w4.drew (some ⟨L,3,none⟩) ys:=fun k x hk=>by
        rw[hys,List.getElem?_map,Option.map_eq_some_iff] at hk
        obtain⟨q,hq,rfl⟩:=hk
        have hkn:k<A.ng:=by have:=(List.getElem?_eq_some_iff.1 hq).1;simpa using this
        rw[List.getElem?_range hkn] at hq
        cases hq
        refine⟨L,3,rfl,(za (w:=w4.drew) HR4.out (3+k)).trans ((yB (by omega)).trans ?_)⟩
        unfold zy
        rw[if_pos hkn]
        rfl
       have hcl:=YB (fs:=fs) ys ⟨L,3,none⟩ 3 w4.drew hI (by omega)
       rw[hyl] at hcl
       refine hcl.mono ?_
       rintro e w5 ⟨A',c',rfl,hg5,ho5⟩
       have HB5':=Lib.hid ((HBV.out.drewN 1).trans (hg5.but L))
       have HR5:=Lib.hid (zf (w:=w4.drew) HR4.out hg5)
       have HO5:=Lib.hid ho5
       have HG5:=Lib.hid hg5
       have HYS:=Lib.hid hys
       have HYL:=Lib.hid hyl
       have hS:w5.cell? ⟨L+1,0,none⟩=some (.pointer (some ⟨L,0,none⟩))∧w5.cell? ⟨S0,0,none⟩=some (.slice (some ⟨A.gb,A.go,none⟩) A.ng A.cg):=⟨za (HB5'.out.block (b:=L+1) (by omega) HB6.out) 0,za (HB5'.out.block (b:=S0) (by have:=HLE.out;omega) HB0.out) 0⟩
       refine hKq.out _ _ hS (fun _=>?_)
       clear hKq Kq hcl hI hys hyl hg5 ho5
       refine zw (i:=9) rfl (by kernel_rfl) ?_
       intro Kq hKq
       go_simp
       have hS:(w5.alloc (.cells #[.slice A' A.ng c'] 22)).cell? ⟨L+1,0,none⟩=some (.pointer (some ⟨L,0,none⟩))∧(w5.alloc (.cells #[.slice A' A.ng c'] 22)).cell? ⟨S0,0,none⟩=some (.slice (some ⟨A.gb,A.go,none⟩) A.ng A.cg):=⟨cell_alloc _ hS.1,cell_alloc _ hS.2⟩
       refine hKq.out _ _ hS (fun _=>?_)
       clear hKq Kq
       try simp only[Act.put,List.setIfInBounds_toArray,List.set_cons_zero,List.set_cons_succ]
       have hsz5:=HB5'.out.size
       have hrl:RowList (w5.alloc (.cells #[.slice A' A.ng c'] 22)) V.heap.size M c rows:=by
        refine hT.out.left.keep fun b hb hl=>?_
        have hbL:b≠L:=by have:=zj HB6.out;omega
        have c1:=HBWR.out.size
        have c2:=HG5.out.size
        have c3:w4.drew.heap.size=w4.heap.size:=rfl
        rw[Below.heap_alloc _ _ _ (by omega),HG5.out.same b (by omega)]
        exact HBWR.out.same b hbL hl
       have hnb:(w5.alloc (.cells #[.slice A' A.ng c'] 22)).cell? ⟨w5.heap.size,0,none⟩=some (.slice A' ys.length c'):=by rw[HYL.out];exact za (heap_alloc_new w5 _) 0
       have hif:zbA (w5.alloc (.cells #[.slice A' A.ng c'] 22)) V.heap.size M A' ys:=fun k x hk=>by
        obtain⟨b,off,f1,f2,f3⟩:=HO5.out.ints k x hk
        have f4:=(zV HO5.out (k:=b) (by rw[qu,f1];rfl)).1
        have f5:=HBV.out.size
        have f6:=HBWR.out.size
        have f7:w4.drew.heap.size=w4.heap.size:=rfl
        refine⟨b,off,f1,by omega,fun e=>?_,cell_alloc _ f3⟩
        obtain⟨cells,g1,_⟩:=hT.out.left
        have g2:=(zV g1 (k:=b) (by rw[qu];exact e.symm)).2
        omega
       refine zw (i:=10) rfl (by kernel_rfl) ?_
       intro Kq hKq
       rw[if_pos (by rfl)]
       refine wp_app_row (.tmp 49) (.tmp 58) rfl V.heap.size ((like_under 32).trans Try.underlying32) inf22 rfl hrl (nb:=w5.heap.size) (m:=1) rfl hnb hif (by have:=HYL.out;omega) (by have:=hT.out.len;omega) (by simp;omega) ?_
       intro A2 c3 w7 hR7 hg7
       have hML:∀ k,(Value.slice M rows.length c).ownBlock=some k→V.heap.size≤k:=fun k hk=>by
        obtain⟨cells,g1,_⟩:=hT.out.left
        exact (zV g1 hk).1
       have hvl:=zj HB6.out
       have hle:=HLE.out
       have hS:w7.cell? ⟨L+1,0,none⟩=some (.pointer (some ⟨L,0,none⟩))∧w7.cell? ⟨S0,0,none⟩=some (.slice (some ⟨A.gb,A.go,none⟩) A.ng A.cg):=
        ⟨hg7.cell hS.1 (fun e=>by have:=hML _ e.symm;simp only at this;omega),hg7.cell hS.2 (fun e=>by have:=hML _ e.symm;simp only at this;omega)⟩
       have hN:RunAt V w7 A L (n+1) (zy A.ng now (nextN Ds ls n now)) (zy A.ng mel fun i=>mel i+Za Ds ls n now i) A2 c3 (rows++[ys]):=by
        have f5:=HB5'.out.size
        refine⟨⟨?_,fun b hb hl=>?_,?_⟩,?_,hR7,fun i hi=>?_,fun i hi=>?_,?_⟩
        ·have:=hg7.size;simp at this;omega
        ·rw[hg7.block b (by simp;omega) (fun e=>by have:=hML _ e.symm;omega),Below.heap_alloc _ _ _ (by omega)]
         exact HB5'.out.same b hb hl
        ·rw[hg7.os]
         exact HB5'.out.os
        ·rw[hg7.block L (by simp;omega) (fun e=>by have:=hML _ e.symm;omega),Below.heap_alloc _ _ _ (by omega)]
         exact HR5.out
        ·unfold zy
         rw[if_pos hi]
         have hf3:=hf1
         rw[HR.out.len] at hf3
         have hbar:=find_none hf3 i hi
         have hroom:=(HR.out.room i _ (HR.out.at_ hi)).1
         unfold barAt barB at hbar
         simp only[Bool.or_eq_false_iff,decide_eq_false_iff_not] at hbar
         have hal:=after_le (atG Ds i) (hlG (atG Ds i) n) (now i+ldN ls n i)
         unfold nextN
         omega
        ·unfold zy
         rw[if_pos hi]
         obtain⟨_,_,_,h20⟩:=HR.out.ld (h:=n) hi hlt
         have h21:=hT.out.now i hi
         have h22:=hT.out.mel i hi
         have h23:Za Ds ls n now i≤now i+ldN ls n i:=zbV _ _ _
         have h24:(n+1)*40=n*40+40:=Nat.succ_mul _ _
         show mel i+Za Ds ls n now i≤_
         omega
        ·rw[List.length_append,hT.out.len];rfl
       have hG2:runOf Ds ls A.nh=⟨(rows++[ys])++(runG Ds ls (A.nh-(n+1)) (n+1) (zy A.ng now (nextN Ds ls n now)) (zy A.ng mel fun i=>mel i+Za Ds ls n now i)).left,(runG Ds ls (A.nh-(n+1)) (n+1) (zy A.ng now (nextN Ds ls n now)) (zy A.ng mel fun i=>mel i+Za Ds ls n now i)).stop,
         (runG Ds ls (A.nh-(n+1)) (n+1) (zy A.ng now (nextN Ds ls n now)) (zy A.ng mel fun i=>mel i+Za Ds ls n now i)).mel⟩:=by
        rw[hG.out]
        have e9:A.nh-n=(A.nh-(n+1))+1:=by omega
        rw[e9,zbM hf1 hs1,HR.out.len,← HYS.out]
        simp
       have HN:=Lib.hid hN
       have HG2:=Lib.hid hG2
       refine hKq.out _ _ hS (fun _=>?_)
       clear hKq Kq hN hG2 hg7 hR7 hML hrl hnb hif hf1 hs1 hs2 hT hG
       try simp only[Act.put,List.getElem_toArray,List.getElem_cons_succ,List.getElem_cons_zero,List.setIfInBounds_toArray,List.set_cons_zero,List.set_cons_succ]
       refine zw (i:=11) rfl (by kernel_rfl) ?_
       intro Kq hKq
       go_simp
       refine hKq.out _ _ hS (fun _=>?_)
       clear hKq Kq
       refine qd (by kernel_rfl) ?_
       try simp only[Act.put,List.getElem_toArray,List.getElem_cons_succ,List.getElem_cons_zero,List.setIfInBounds_toArray,List.set_cons_zero,List.set_cons_succ]
       go_wp2_with fail
       go_roundw
       case rel=>exact⟨n+1,A2,c3,rows++[ys],_,_,by omega,by go_num,by simp,HN,HG2⟩
       case measure=>simp[intOf];omega
    ·obtain rfl:n=A.nh:=by omega
     have hvl:=zj HB6.out
     have hle:=HLE.out
     have e7:=hT.out.but.block (b:=S0+1+1+1) (by omega) HB3.out
     have e8:=hT.out.but.block (b:=S0+1+1+1+1) (by omega) HB4.out
     have e6:=hT.out.but.block (b:=L+1) (by omega) HB6.out
     have eL:=hT.out.row
     have hS:wr.drew.cell? ⟨L+1,0,none⟩=some (.pointer (some ⟨L,0,none⟩))∧wr.drew.cell? ⟨L,6,none⟩=some (.int .i64 (mel 0))∧wr.drew.cell? ⟨L,7,none⟩=some (.int .i64 (mel 1))∧wr.drew.cell? ⟨L,8,none⟩=some (.int .i64 (mel 2)):=
      ⟨za (w:=wr) e6 0,za (w:=wr) eL 6,za (w:=wr) eL 7,za (w:=wr) eL 8⟩
     have y0:=za (w:=wr.drew) e7 0
     have y1:=za (w:=wr.drew) e7 1
     have y2:=za (w:=wr.drew) e7 2
     have y3:=za (w:=wr.drew) e8 0
     have y4:=za (w:=wr.drew) e8 1
     have y5:=za (w:=wr.drew) e8 2
     have f0:=zk (w:=wr.drew) e7 0
     have f1:=zk (w:=wr.drew) e7 1
     have f2:=zk (w:=wr.drew) e7 2
     have f3:=zk (w:=wr.drew) e8 0
     have f4:=zk (w:=wr.drew) e8 1
     have f5:=zk (w:=wr.drew) e8 2
     have y0':=za (w:=wr) e7 0
     have f0':=zk (w:=wr) e7 0
     have y1':=za (w:=wr) e7 1
     have f1':=zk (w:=wr) e7 1
     have y2':=za (w:=wr) e7 2
     have f2':=zk (w:=wr) e7 2
     have y3':=za (w:=wr) e8 0
     have f3':=zk (w:=wr) e8 0
     have y4':=za (w:=wr) e8 1
     have f4':=zk (w:=wr) e8 1
     have y5':=za (w:=wr) e8 2
     have f5':=zk (w:=wr) e8 2
     simp only[List.getElem?_toArray,List.getElem?_cons_succ,List.getElem?_cons_zero] at y0 y1 y2 y3 y4 y5 y0' y1' y2' y3' y4' y5'
     have HE7:=Lib.hid e7
     have HE8:=Lib.hid e8
     clear e7 e8 e6 eL
     go_upto_region 17 with fail
     refine qh (by kernel_rfl) (fun W=>W.cell? ⟨L+1,0,none⟩=some (.pointer (some ⟨L,0,none⟩))∧W.cell? ⟨L,6,none⟩=some (.int .i64 (mel 0))∧W.cell? ⟨L,7,none⟩=some (.int .i64 (mel 1))∧W.cell? ⟨L,8,none⟩=some (.int .i64 (mel 2))) [7,8] ?_
     refine zh 0 ?_ rfl ?_ ?_ (hQ:=fun _ _ _ h=>qA (by decide) h);case refine_2=>(intro w _;go_simp;try rfl)
     refine zx 1 ?_ rfl hS ?_ ?_ (hQ:=fun _ _ _ h=>qA (by decide) h);case refine_2=>(intro w hSw;(try dsimp only at hSw);go_simp;try rfl)
     refine zh 2 ?_ rfl ?_ ?_ (hQ:=fun _ _ _ h=>qA (by decide) h);case refine_2=>(intro w _;go_simp;try rfl)
     refine zh 3 ?_ rfl ?_ ?_ (hQ:=fun _ _ _ h=>qA (by decide) h);case refine_2=>(intro w _;go_simp;try rfl)
     refine zx 4 ?_ rfl hS ?_ ?_ (hQ:=fun _ _ _ h=>qA (by decide) h);case refine_2=>(intro w hSw;(try dsimp only at hSw);go_simp;try rfl)
     refine zh 5 ?_ rfl ?_ ?_ (hQ:=fun _ _ _ h=>qA (by decide) h);case refine_2=>(intro w _;go_simp;try rfl)
     refine zw (i:=6) rfl (by kernel_rfl) ?_
     intro Kq hKq
     go_simp
     refine hKq.out _ _ hS (fun _=>?_)
     clear hKq Kq
     refine qx (i:=7) rfl (by kernel_rfl) (by rfl) ?_
     intro Kq hKq
     go_simp
     refine hKq.out _ _ ?_
     clear hKq Kq
     refine qx (i:=8) rfl (by kernel_rfl) (by rfl) ?_
     intro Kq hKq
     go_simp
     refine hKq.out _ _ ?_
     clear hKq Kq
     refine qd (by kernel_rfl) ?_
     try simp only[Act.put,List.getElem_toArray,List.getElem_cons_succ,List.getElem_cons_zero,List.setIfInBounds_toArray,List.set_cons_zero,List.set_cons_succ]
     go_wp2_with fail
     obtain⟨W9,hW9⟩:∃ W,W=(((((wr.setCell ⟨S0+1+1+1,0,none⟩ (.int .i64 (mel 0))).setCell ⟨S0+1+1+1,1,none⟩ (.int .i64 (mel 1))).setCell ⟨S0+1+1+1,2,none⟩ (.int .i64 (mel 2))).setCell ⟨S0+1+1+1+1,0,none⟩ (.int .i64 (-1))).setCell ⟨S0+1+1+1+1,1,none⟩ (.int .i64 (-1))).setCell ⟨S0+1+1+1+1,2,none⟩ (.int .i64 0):=⟨_,rfl⟩
     rw[← hW9]
     have n78:S0+1+1+1≠S0+1+1+1+1:=by omega
     have n87:S0+1+1+1+1≠S0+1+1+1:=by omega
     have g7:W9.heap[S0+1+1+1]?=some (.cells #[.int .i64 (mel 0),.int .i64 (mel 1),.int .i64 (mel 2)] 97 (0,0)):=by
      rw[hW9,Below.heap_setCell _ _ _ _ n78,Below.heap_setCell _ _ _ _ n78,Below.heap_setCell _ _ _ _ n78]
      exact qP HE7.out _ _ _
     have g8:W9.heap[S0+1+1+1+1]?=some (.cells #[.int .i64 (-1),.int .i64 (-1),.int .i64 0] 99 (0,0)):=by
      rw[hW9]
      refine qP (x:=.int .i64 0) (y:=.int .i64 0) (z:=.int .i64 0) ?_ _ _ _
      rw[Below.heap_setCell _ _ _ _ n87,Below.heap_setCell _ _ _ _ n87,Below.heap_setCell _ _ _ _ n87]
      exact HE8.out
     have gk:∀ b,b≠S0+1+1+1→b≠S0+1+1+1+1→W9.heap[b]?=wr.heap[b]?:=fun b q1 q2=>by
      rw[hW9,Below.heap_setCell _ _ _ _ q2,Below.heap_setCell _ _ _ _ q2,Below.heap_setCell _ _ _ _ q2,Below.heap_setCell _ _ _ _ q1,Below.heap_setCell _ _ _ _ q1,Below.heap_setCell _ _ _ _ q1]
     have gs:W9.heap.size=wr.heap.size:=by rw[hW9];simp only[zv]
     have go_:W9.os=wr.os:=by rw[hW9];rfl
     have hfin:Grown w W9.drew∧zac A (runOf Ds ls A.nh) (.returned (.tuple #[.slice M rows.length c,.agg #[.int .i64 (mel 0),.int .i64 (mel 1),.int .i64 (mel 2)],.agg #[.int .i64 (-1),.int .i64 (-1),.int .i64 0]])) W9.drew:=by
      have g2:=HGW0.out _ hT.out.but
      have hr0:runOf Ds ls A.nh=⟨rows,none,mel⟩:=by
       rw[hG.out,Nat.sub_self]
       simp[runG]
      refine⟨⟨by show w.heap.size≤W9.heap.size;rw[gs];exact g2.size,fun b hb=>?_,go_.trans g2.os⟩,.inr ⟨by rw[hr0],M,c,by rw[hr0];rfl,?_⟩⟩
      ·rw[HS0.out] at hb
       exact (gk b (by omega) (by omega)).trans (g2.same b (by rw[HS0.out];exact hb))
      ·rw[hr0]
       exact (hT.out.left.keep (w':=W9.drew) fun b hb hl=>gk b (by omega) (by omega)).dishes
     have HFIN:=Lib.hid hfin
     have x0:=za (w:=W9.drew) g7 0
     have x1:=za (w:=W9.drew) g7 1
     have x2:=za (w:=W9.drew) g7 2
     have x3:=za (w:=W9.drew) g8 0
     have x4:=za (w:=W9.drew) g8 1
     have x5:=za (w:=W9.drew) g8 2
     have x0':=za g7 0
     have x1':=za g7 1
     have x2':=za g7 2
     have x3':=za g8 0
     have x4':=za g8 1
     have x5':=za g8 2
     simp only[List.getElem?_toArray,List.getElem?_cons_succ,List.getElem?_cons_zero] at x0 x1 x2 x3 x4 x5 x0' x1' x2' x3' x4' x5'
     clear hW9 g7 g8 gk gs go_ hfin hT hG hS
     refine leaves_cons (f:=94) (args:=#[.pointer (some ⟨S0+1+1+1+1,0,none⟩)]) (by simp) (inv94 _ _) ?_
     refine (catch_idle (S0+1+1+1+1) _).mono ?_
     rintro e u' w3 ⟨rfl,rfl,rfl⟩
     simp[Leaves,settle,results,Try.results67,go_sem,x0,x1,x2,x3,x4,x5]
     exact HFIN.out
end
end Go.Gal
