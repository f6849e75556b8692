/- Walks: Runs, Out. Walks: Runs, Out. Walks: slices.Clone of hauls, and of goods. Walks: with. -/
import Derived.Test.YtlgiofglcgbjgaaM32
namespace Go.Gal
open Go Go.Par Go.Proofs Go.RowKit
section
def runK (K:Kt) (xs:List Int) (ls:List (List Int)):Ran:=runOf (dsOf K xs) ls K.hauls.length
theorem Yr {Ds:List Good1} {ls:List (List Int)} : ∀ {r h:Nat} {now mel:Nat→Nat} {h' i:Nat} {er:Int},(runG Ds ls r h now mel).stop=some (h',i,er)→h≤h'∧h'<h+r∧i<Ds.length∧(er=9∨er=11)
 | 0,h,now,mel,h',i,er,e=>by simp[runG] at e
 | r+1,h,now,mel,h',i,er,e=>by
  cases hf:(List.range Ds.length).find? (barAt Ds ls h now) with
  | some j =>
   rw[zcW hf] at e
   simp only[Option.some.injEq,Prod.mk.injEq] at e
   obtain⟨rfl,rfl,rfl⟩:=e
   exact⟨Nat.le_refl _,by omega,(Yz hf).1,.inl rfl⟩
  | none =>
   cases hs:(List.range Ds.length).find? (ZR Ds ls h now) with
   | some j =>
    rw[zam hf hs] at e
    simp only[Option.some.injEq,Prod.mk.injEq] at e
    obtain⟨rfl,rfl,rfl⟩:=e
    exact⟨Nat.le_refl _,by omega,(Yz hs).1,.inr rfl⟩
   | none =>
    rw[zbM hf hs] at e
    obtain⟨h1,h2,h3,h4⟩:=Yr e
    exact⟨by omega,by omega,h3,h4⟩
theorem givenE_zero {K:Kt} {xs:List Int} {ls:List (List Int)} (h:qm K xs ls=0):zW K xs=0∧jb K ls=0:=by
 unfold qm at h
 split at h
 ·rename_i h1;exact absurd h h1
 ·rename_i h1
  exact⟨Decidable.not_not.1 h1,h⟩
theorem loadedE_zero {K:Kt} {ls:List (List Int)} (h:jb K ls=0):ls.length=K.hauls.length∧∀ l∈ls,l.length=K.goods.length∧∀ x∈l,0≤x∧x≤20:=by
 unfold jb at h
 split at h
 ·rename_i h1;exact absurd h h1
 ·rename_i h1
  have h2:=Decidable.not_not.1 h1
  have h3:=jN h2
  refine⟨by omega,fun l hl=>?_⟩
  have h4:=JB (Zp h l hl)
  exact⟨by omega,h4.2⟩
theorem zcV {w:World} {K:Kt} {gA dA hA mA:Option Addr} {xs:List Int} (gc dc hc mc:Nat) {ls:List (List Int)} {lA:Option Addr} (k:KtAt w K gA dA hA) (m:Ints w mA xs) (hl:DishesAt w lA ls) (hG:qm K xs ls=0) :
  ∃ A:Kit1,A.k=ktV K gA dA hA gc dc hc∧A.m=.slice mA xs.length mc∧RunIn w A (dsOf K xs) ls lA∧1≤A.ng∧A.ng≤3∧A.nh≤16∧A.nh=K.hauls.length:=by
 obtain⟨hA1,hL⟩:=givenE_zero hG
 obtain⟨hC,hR⟩:=jU hA1
 obtain⟨A,eA,eM,hkit⟩:=zaU gc dc hc mc k m hC hR
 obtain⟨c1,c2,c3⟩:=qK hC
 obtain⟨g1,g2,g3⟩:=yD c1
 obtain⟨h1,h2,h3⟩:=qH c3
 obtain⟨l1,l2⟩:=loadedE_zero hL
 have eng:A.ng=K.goods.length:=by
  unfold Kit1.k Kit1.gs ktV at eA
  injection eA with eA
  injection eA with eA
  injection eA with e1 e2
  injection e1
 have enh:A.nh=K.hauls.length:=by
  unfold Kit1.k Kit1.hs ktV at eA
  injection eA with eA
  injection eA with eA
  injection eA with e1 e2
  injection e2 with e2 e3
  injection e3 with e3 e4
  injection e3
 refine⟨A,eA,eM,⟨by rw[zdp,eng],fun i D hD=>?_,hl,by rw[l1,enh],fun h l hh=>?_,fun i D hD=>?_⟩,by omega,by omega,by omega,enh⟩
 ·rw[QE,Option.map_eq_some_iff] at hD
  obtain⟨x,hx,rfl⟩:=hD
  exact hkit i x hx
 ·rw[eng];exact l2 l (List.mem_of_getElem? hh)
 ·rw[QE,Option.map_eq_some_iff] at hD
  obtain⟨x,hx,rfl⟩:=hD
  obtain⟨b1,b2,b3,b4,b5,b6,b7,b8⟩:=Zz (g3 x (List.mem_of_getElem? hx))
  exact⟨by show x.room.toNat≤20;omega,by show x.start.toNat≤x.room.toNat;omega⟩
section
variable {fs:Array Func} [LikeS fs]
theorem Yq (K:Kt) (gA dA hA:Option Addr) (gc dc hc:Nat) (xs:List Int) (mA:Option Addr) (mc:Nat) (ls:List (List Int)) (lA:Option Addr) (lc:Nat) (w:World) (k:KtAt w K gA dA hA) (m:Ints w mA xs) (hl:DishesAt w lA ls) (hG:qm K xs ls=0) {h i:Nat} {er:Int} (hs:(runK K xs ls).stop=some (h,i,er)) :
  Calls (Pf fs) 67 #[ktV K gA dA hA gc dc hc,.slice mA xs.length mc,.slice lA ls.length lc] w fun e w'=>(∃ M n c,e=.returned (.tuple #[.slice M n c,.agg #[.int .i64 0,.int .i64 0,.int .i64 0],.agg #[.int .i64 h,.int .i64 i,.int .i64 er]]))∧Grown w w':=by
 obtain⟨A,eA,eM,R,h1,h2,h3,h4⟩:=zcV gc dc hc mc k m hl hG
 rw[← eA,← eM]
 refine (zdT A _ ls lA lc w R h1 h2 h3).mono fun e w' ⟨g,p⟩=>?_
 unfold runK at hs
 rw[h4] at p
 rcases p with ⟨h',i',er',q1,M,n,c,q2⟩|⟨q1,_⟩
 ·rw[hs] at q1
  injection q1 with q1
  injection q1 with q1 q3
  injection q3 with q3 q4
  subst q1 q3 q4
  exact⟨⟨M,n,c,q2⟩,g⟩
 ·rw[hs] at q1;cases q1
theorem zbK (K:Kt) (gA dA hA:Option Addr) (gc dc hc:Nat) (xs:List Int) (mA:Option Addr) (mc:Nat) (ls:List (List Int)) (lA:Option Addr) (lc:Nat) (w:World) (k:KtAt w K gA dA hA) (m:Ints w mA xs) (hl:DishesAt w lA ls) (hG:qm K xs ls=0) (hs:(runK K xs ls).stop=none) :
  Calls (Pf fs) 67 #[ktV K gA dA hA gc dc hc,.slice mA xs.length mc,.slice lA ls.length lc] w fun e w'=>(∃ M c,e=.returned (.tuple #[.slice M (runK K xs ls).left.length c,.agg #[.int .i64 ((runK K xs ls).mel 0),.int .i64 ((runK K xs ls).mel 1),.int .i64 ((runK K xs ls).mel 2)],.agg #[.int .i64 (-1),.int .i64 (-1),.int .i64 0]])∧DishesAt w' M (runK K xs ls).left)∧Grown w w':=by
 obtain⟨A,eA,eM,R,h1,h2,h3,h4⟩:=zcV gc dc hc mc k m hl hG
 rw[← eA,← eM]
 refine (zdT A _ ls lA lc w R h1 h2 h3).mono fun e w' ⟨g,p⟩=>?_
 rw[h4] at p
 rcases p with ⟨h',i',er',q1,_⟩|⟨_,M,c,q2,q3⟩
 ·exact absurd (q1.symm.trans hs) (by simp)
 ·exact⟨⟨M,c,q2,q3⟩,g⟩
inductive RunsAt (K:Kt) (xs:List Int) (ls:List (List Int)) (w:World):Value→Prop
 | given:qm K xs ls≠0→RunsAt K xs ls w (.tuple #[.slice none 0 0,.int .i64 (qm K xs ls)])
 | stop (h i:Nat) (er:Int):qm K xs ls=0→(runK K xs ls).stop=some (h,i,er)→RunsAt K xs ls w (.tuple #[.slice none 0 0,.int .i64 er])
 | good (M:Option Addr) (c:Nat):qm K xs ls=0→(runK K xs ls).stop=none→DishesAt w M (runK K xs ls).left→RunsAt K xs ls w (.tuple #[.slice M (runK K xs ls).left.length c,.int .i64 0])
inductive OutAt (K:Kt) (xs:List Int) (ls:List (List Int)):Value→Prop
 | given:qm K xs ls≠0→OutAt K xs ls (.tuple #[.int .i64 0,.int .i64 0,.int .i64 (qm K xs ls)])
 | bar (h i:Nat):qm K xs ls=0→(runK K xs ls).stop=some (h,i,9)→OutAt K xs ls (.tuple #[.int .i64 0,.int .i64 0,.int .i64 9])
 | short (h i:Nat):qm K xs ls=0→(runK K xs ls).stop=some (h,i,11)→OutAt K xs ls (.tuple #[.int .i64 h,.int .i64 i,.int .i64 0])
 | good:qm K xs ls=0→(runK K xs ls).stop=none→OutAt K xs ls (.tuple #[.int .i64 (-1),.int .i64 (-1),.int .i64 0])
end
end
section
section
variable {fs:Array Func} [LikeS fs]
set_option maxRecDepth 20000 in
set_option maxHeartbeats 1000000 in
theorem runs_any (K:Kt) (gA dA hA:Option Addr) (gc dc hc:Nat) (xs:List Int) (mA:Option Addr) (mc:Nat) (ls:List (List Int)) (lA:Option Addr) (lc:Nat) (w:World) (k:KtAt w K gA dA hA) (m:Ints w mA xs) (hlen:xs.length≤1000) (hl:DishesAt w lA ls) (hll:ls.length≤1000) :
  Calls (Pf fs) 24 #[ktV K gA dA hA gc dc hc,.slice mA xs.length mc,.slice lA ls.length lc] w fun e w'=>∃ v,e=.returned v∧Grown w w'∧RunsAt K xs ls w' v:=by
 have HGB:=Lib.hid (Grown.alloc w (.cells #[.slice gA K.goods.length gc,.slice dA K.dishes.length dc,.slice hA K.hauls.length hc] 29))
 have hC:=fun W (g:Grown w W)=>zce (fs:=fs) K gA dA hA gc dc hc xs mA mc ls lA lc W (k.grown g) (m.grown g) hlen (hl.grown g) hll
 have HC:=Lib.hid hC
 have HB:=Lib.hid (heap_alloc_new w (.cells #[.slice gA K.goods.length gc,.slice dA K.dishes.length dc,.slice hA K.hauls.length hc] 29))
 have hY:∀ W,Grown (w.alloc (.cells #[.slice gA K.goods.length gc,.slice dA K.dishes.length dc,.slice hA K.hauls.length hc] 29)) W→W.cell? ⟨w.heap.size,0,none⟩=some (.slice gA K.goods.length gc)∧W.cell? ⟨w.heap.size,1,none⟩=some (.slice dA K.dishes.length dc)∧W.cell? ⟨w.heap.size,2,none⟩=some (.slice hA K.hauls.length hc):=fun W g =>
  ⟨za (zf HB.out g) 0,za (zf HB.out g) 1,za (zf HB.out g) 2⟩
 have HY:=Lib.hid hY
 clear hY hC
 by_cases h1:qm K xs ls=0
 ·have H1:=Lib.hid h1
  rw[h1] at HC
  cases hs:(runK K xs ls).stop with
  | some p =>
   obtain⟨h,i,er⟩:=p
   have hne:¬ er=0:=by
    obtain⟨_,_,_,q⟩:=Yr hs
    omega
   have hA:=fun W (g:Grown w W)=>Yq (fs:=fs) K gA dA hA gc dc hc xs mA mc ls lA lc W (k.grown g) (m.grown g) (hl.grown g) h1 hs
   have HA:=Lib.hid hA
   have HF:Hid (∀ W,RunsAt K xs ls W (.tuple #[.slice none 0 0,.int .i64 er])):=fun W=>.stop h i er h1 hs
   clear hA k m hl hs h1
   unfold ktV at *
   go_enter LK.func24,Try.ntmps24
   go_wp2_with (first|(go_at_call 66;refine (HC.out _ HGB.out).mono ?_;rintro e w1 ⟨rfl,hg1⟩;have hy:=HY.out w1 hg1;have HG1:=Lib.hid (HGB.out.trans hg1);clear hg1)|(go_at_call 67;refine (HA.out _ HG1.out).mono ?_;rintro e w2 ⟨⟨M,n,c,rfl⟩,hg2⟩;have HG2:=Lib.hid (HG1.out.trans hg2);clear hg2))
   go_quiet (fail)
   go_wp2_with fail
   refine bodyPost_ret (v:=.tuple #[.slice none 0 0,.int .i64 er]) (by simp[results,Try.results24,go_sem]) rfl ⟨_,rfl,?_,HF.out _⟩
   exact ((HG2.out.trans (.alloc _ _)).trans (.alloc _ _)).drewN _
  | none =>
   have hA:=fun W (g:Grown w W)=>zbK (fs:=fs) K gA dA hA gc dc hc xs mA mc ls lA lc W (k.grown g) (m.grown g) (hl.grown g) h1 hs
   have HA:=Lib.hid hA
   have HF:Hid (∀ W M c,DishesAt W M (runK K xs ls).left→RunsAt K xs ls W (.tuple #[.slice M (runK K xs ls).left.length c,.int .i64 0])):=fun W M c hd=>.good M c h1 hs hd
   clear hA k m hl hs h1
   unfold ktV at *
   go_enter LK.func24,Try.ntmps24
   go_wp2_with (first|(go_at_call 66;refine (HC.out _ HGB.out).mono ?_;rintro e w1 ⟨rfl,hg1⟩;have hy:=HY.out w1 hg1;have HG1:=Lib.hid (HGB.out.trans hg1);clear hg1)|(go_at_call 67;refine (HA.out _ HG1.out).mono ?_;rintro e w2 ⟨⟨M,c,rfl,hd⟩,hg2⟩;have HG2:=Lib.hid (HG1.out.trans hg2);have HD:=Lib.hid hd;clear hg2 hd))
   refine bodyPost_ret (v:=.tuple #[.slice M (runK K xs ls).left.length c,.int .i64 0]) (by simp[results,Try.results24,go_sem]) rfl ⟨_,rfl,?_,HF.out _ _ _ ((HD.out.grown (.alloc _ _)).grown (.alloc _ _))⟩
   exact (HG2.out.trans (.alloc _ _)).trans (.alloc _ _)
 ·have hE:Hid (∀ W,RunsAt K xs ls W (.tuple #[.slice none 0 0,.int .i64 (qm K xs ls)])):=fun W=>.given h1
  generalize qm K xs ls=q at h1 HC hE
  clear k m hl
  unfold ktV at *
  go_enter LK.func24,Try.ntmps24
  go_wp2_with (go_at_call 66;refine (HC.out _ HGB.out).mono ?_;rintro e w1 ⟨rfl,hg1⟩)
  refine bodyPost_ret (v:=.tuple #[.slice none 0 0,.int .i64 q]) (by simp[results,Try.results24,go_sem]) rfl ⟨_,rfl,HGB.out.trans hg1,hE.out _⟩
set_option maxRecDepth 20000 in
set_option maxHeartbeats 1000000 in
theorem out_run (K:Kt) (gA dA hA:Option Addr) (gc dc hc:Nat) (xs:List Int) (mA:Option Addr) (mc:Nat) (ls:List (List Int)) (lA:Option Addr) (lc:Nat) (w:World) (k:KtAt w K gA dA hA) (m:Ints w mA xs) (hlen:xs.length≤1000) (hl:DishesAt w lA ls) (hll:ls.length≤1000) :
  Calls (Pf fs) 23 #[ktV K gA dA hA gc dc hc,.slice mA xs.length mc,.slice lA ls.length lc] w fun e w'=>∃ v,e=.returned v∧Grown w w'∧OutAt K xs ls v:=by
 have HGB:=Lib.hid (Grown.alloc w (.cells #[.slice gA K.goods.length gc,.slice dA K.dishes.length dc,.slice hA K.hauls.length hc] 29))
 have hC:=fun W (g:Grown w W)=>zce (fs:=fs) K gA dA hA gc dc hc xs mA mc ls lA lc W (k.grown g) (m.grown g) hlen (hl.grown g) hll
 have HC:=Lib.hid hC
 have HB:=Lib.hid (heap_alloc_new w (.cells #[.slice gA K.goods.length gc,.slice dA K.dishes.length dc,.slice hA K.hauls.length hc] 29))
 have hY:∀ W,Grown (w.alloc (.cells #[.slice gA K.goods.length gc,.slice dA K.dishes.length dc,.slice hA K.hauls.length hc] 29)) W→W.cell? ⟨w.heap.size,0,none⟩=some (.slice gA K.goods.length gc)∧W.cell? ⟨w.heap.size,1,none⟩=some (.slice dA K.dishes.length dc)∧W.cell? ⟨w.heap.size,2,none⟩=some (.slice hA K.hauls.length hc):=fun W g =>
  ⟨za (zf HB.out g) 0,za (zf HB.out g) 1,za (zf HB.out g) 2⟩
 have HY:=Lib.hid hY
 clear hY hC
 by_cases h1:qm K xs ls=0
 ·have H1:=Lib.hid h1
  rw[h1] at HC
  cases hs:(runK K xs ls).stop with
  | some p =>
   obtain⟨h,i,er⟩:=p
   obtain rfl|rfl:er=9∨er=11:=(Yr hs).2.2.2
   ·have hA:=fun W (g:Grown w W)=>Yq (fs:=fs) K gA dA hA gc dc hc xs mA mc ls lA lc W (k.grown g) (m.grown g) (hl.grown g) h1 hs
    have HA:=Lib.hid hA
    have HF:Hid (OutAt K xs ls (.tuple #[.int .i64 0,.int .i64 0,.int .i64 9])):=.bar h i h1 hs
    clear hA k m hl hs h1
    unfold ktV at *
    go_enter LK.func23,Try.ntmps23
    go_wp2_with (first|(go_at_call 66;refine (HC.out _ HGB.out).mono ?_;rintro e w1 ⟨rfl,hg1⟩;have hy:=HY.out w1 hg1;have HG1:=Lib.hid (HGB.out.trans hg1);clear hg1)|(go_at_call 67;refine (HA.out _ HG1.out).mono ?_;rintro e w2 ⟨⟨M,n,c,rfl⟩,hg2⟩;have HG2:=Lib.hid (HG1.out.trans hg2);clear hg2))
    go_quiet (fail)
    go_wp2_with fail
    refine bodyPost_ret (v:=.tuple #[.int .i64 0,.int .i64 0,.int .i64 9]) (by simp[results,Try.results23,go_sem]) rfl ⟨_,rfl,?_,HF.out⟩
    exact ((HG2.out.trans (.alloc _ _)).trans (.alloc _ _)).drewN _
   ·have hA:=fun W (g:Grown w W)=>Yq (fs:=fs) K gA dA hA gc dc hc xs mA mc ls lA lc W (k.grown g) (m.grown g) (hl.grown g) h1 hs
    have HA:=Lib.hid hA
    have HF:Hid (OutAt K xs ls (.tuple #[.int .i64 h,.int .i64 i,.int .i64 0])):=.short h i h1 hs
    clear hA k m hl hs h1
    unfold ktV at *
    go_enter LK.func23,Try.ntmps23
    go_wp2_with (first|(go_at_call 66;refine (HC.out _ HGB.out).mono ?_;rintro e w1 ⟨rfl,hg1⟩;have hy:=HY.out w1 hg1;have HG1:=Lib.hid (HGB.out.trans hg1);clear hg1)|(go_at_call 67;refine (HA.out _ HG1.out).mono ?_;rintro e w2 ⟨⟨M,n,c,rfl⟩,hg2⟩;have HG2:=Lib.hid (HG1.out.trans hg2);clear hg2))
    go_quiet (fail)
    go_wp2_with fail
    refine bodyPost_ret (v:=.tuple #[.int .i64 h,.int .i64 i,.int .i64 0]) (by simp[results,Try.results23,go_sem]) rfl ⟨_,rfl,?_,HF.out⟩
    exact ((HG2.out.trans (.alloc _ _)).trans (.alloc _ _)).drewN _
  | none =>
   have hA:=fun W (g:Grown w W)=>zbK (fs:=fs) K gA dA hA gc dc hc xs mA mc ls lA lc W (k.grown g) (m.grown g) (hl.grown g) h1 hs
   have HA:=Lib.hid hA
   have HF:Hid (OutAt K xs ls (.tuple #[.int .i64 (-1),.int .i64 (-1),.int .i64 0])):=.good h1 hs
   clear hA k m hl hs h1
   unfold ktV at *
   go_enter LK.func23,Try.ntmps23
   go_wp2_with (first|(go_at_call 66;refine (HC.out _ HGB.out).mono ?_;rintro e w1 ⟨rfl,hg1⟩;have hy:=HY.out w1 hg1;have HG1:=Lib.hid (HGB.out.trans hg1);clear hg1)|(go_at_call 67;refine (HA.out _ HG1.out).mono ?_;rintro e w2 ⟨⟨M,c,rfl,hd⟩,hg2⟩;have HG2:=Lib.hid (HG1.out.trans hg2);clear hg2 hd))
   go_quiet (fail)
   go_wp2_with fail
   refine bodyPost_ret (v:=.tuple #[.int .i64 (-1),.int .i64 (-1),.int .i64 0]) (by simp[results,Try.results23,go_sem]) rfl ⟨_,rfl,?_,HF.out⟩
   exact ((HG2.out.trans (.alloc _ _)).trans (.alloc _ _)).drewN _
 ·have hE:Hid (OutAt K xs ls (.tuple #[.int .i64 0,.int .i64 0,.int .i64 (qm K xs ls)])):=.given h1
  generalize qm K xs ls=q at h1 HC hE
  clear k m hl
  unfold ktV at *
  go_enter LK.func23,Try.ntmps23
  go_wp2_with (go_at_call 66;refine (HC.out _ HGB.out).mono ?_;rintro e w1 ⟨rfl,hg1⟩)
  refine bodyPost_ret (v:=.tuple #[.int .i64 0,.int .i64 0,.int .i64 q]) (by simp[results,Try.results23,go_sem]) rfl ⟨_,rfl,HGB.out.trans hg1,hE.out⟩
end
end
section
theorem inf46:(Try.prog.info? 46).map (fun i=>(i.zero,i.size,i.bytes))=some (some (.agg #[.int .i64 0,.int .i64 0,.slice none 0 0]),3,40):=by kernel_rfl
theorem inf42:(Try.prog.info? 42).map (fun i=>(i.zero,i.size,i.bytes))=some (some (.agg #[.int .i64 0,.int .i64 0,.int .i64 0,.int .i64 0]),4,32):=by kernel_rfl
def HlCells (w:World) (hs:List Hl) (cells:List Value):Prop:=cells.length=hs.length*3∧∀ (j:Nat) (h:Hl),hs[j]?=some h→cells[j*3]?=some (.int .i64 h.hours)∧cells[j*3+1]?=some (.int .i64 h.covers) ∧
 ∃ pA pc,cells[j*3+2]?=some (.slice pA h.prices.length pc)∧Ints w pA h.prices∧h.prices.length≤1000
theorem HlCells.grown {w w':World} {hs:List Hl} {cells:List Value} (k:HlCells w hs cells) (g:Grown w w'):HlCells w' hs cells:=⟨k.1,fun j h hj=>by
 obtain⟨a,b,pA,pc,c,d,e⟩:=k.2 j h hj
 exact⟨a,b,pA,pc,c,d.grown g,e⟩⟩
theorem HlsAt.cells {w:World} {b off:Nat} {hs:List Hl} (k:HlsAt w (some ⟨b,off,none⟩) hs) (hb:b<w.heap.size):∃ cells,HlCells w hs cells∧L.Reads w w.heap.size 3 (some ⟨b,off,none⟩) hs.length cells∧∀ u∈cells,u.oneCell'=true:=by
 have key:∀ q,q<hs.length*3→∃ v,w.cell? ⟨b,off+q,none⟩=some v∧v.oneCell'=true:=fun q hq=>by
  have hj:q / 3<hs.length:=by omega
  obtain⟨b',o',e,pA,pc,c1,c2,c3,_,_⟩:=k (q / 3) _ (List.getElem?_eq_getElem hj)
  cases e
  have hr:q=q / 3*3∨q=q / 3*3+1∨q=q / 3*3+2:=by omega
  rcases hr with e|e|e
  ·rw[e];exact⟨_,c1,rfl⟩
  ·rw[e,← Nat.add_assoc];exact⟨_,c2,rfl⟩
  ·rw[e,← Nat.add_assoc];exact⟨_,c3,rfl⟩
 have get:∀ q,q<hs.length*3→((List.range (hs.length*3)).map fun q=>(w.cell? ⟨b,off+q,none⟩).getD undef)[q]?=w.cell? ⟨b,off+q,none⟩:=fun q hq=>by
  obtain⟨v,hv,_⟩:=key q hq
  rw[List.getElem?_map,List.getElem?_range hq]
  simp[hv]
 refine⟨(List.range (hs.length*3)).map fun q=>(w.cell? ⟨b,off+q,none⟩).getD undef,⟨by simp,fun j h hj=>?_⟩,⟨by simp,fun _=>⟨_,rfl,hb,fun q u hu=>?_⟩⟩,fun u hu=>?_⟩
 ·have hjl:j<hs.length:=(List.getElem?_eq_some_iff.1 hj).1
  obtain⟨b',o',e,pA,pc,c1,c2,c3,c4,c5⟩:=k j h hj
  cases e
  refine⟨(get _ (by omega)).trans c1,(get _ (by omega)).trans (by rw[← Nat.add_assoc];exact c2),pA,pc,(get _ (by omega)).trans (by rw[← Nat.add_assoc];exact c3),c4,c5⟩
 ·have hq:q<hs.length*3:=by have:=(List.getElem?_eq_some_iff.1 hu).1;simpa using this
  rw[get q hq] at hu
  rw[qz]
  exact hu
 ·obtain⟨q,hq,rfl⟩:=List.mem_map.1 hu
  obtain⟨v,hv,h1⟩:=key q (by simpa using hq)
  rw[hv]
  exact h1
def OwnHls (w:World) (base:Nat) (g:Nat) (n cap:Nat) (cells:List Value):Prop:=w.ownsRow base 46 3 (.slice (some ⟨g,0,none⟩) n cap) n cells
theorem OwnHls.row {w:World} {base g n cap:Nat} {cells:List Value} (h:OwnHls w base g n cap cells):∃ cur:Array Value,w.heap[g]?=some (.cells cur 46 (0,0))∧base≤g∧cells.length=n*3∧∀ (q:Nat) v,cells[q]?=some v→cur[q]?=some v:=by
 rcases h.2 with ⟨e,_⟩|⟨g',cap',cur,e,hg,hh,hn,hm,hsz,htk⟩
 ·cases e
 ·cases e
  refine⟨cur,hh,hg,h.1,fun q v hv=>?_⟩
  rw[← htk,List.getElem?_take] at hv
  split at hv
  ·rw[← Array.getElem?_toList];exact hv
  ·cases hv
section
variable {fs:Array Func} [Like fs]
set_option maxRecDepth 20000 in
theorem cloneHls_any (n:Nat) (b off c:Nat) (cells:List Value) (w:World) (hr:L.Reads w w.heap.size 3 (some ⟨b,off,none⟩) n cells) (h1:∀ u∈cells,u.oneCell'=true) (hn0 : 1≤n) (hlen:n≤1000) :
  Calls (Pf fs) 103 #[.slice (some ⟨b,off,none⟩) n c] w fun e w'=>∃ g c',e=.returned (.slice (some ⟨g,0,none⟩) n c')∧Grown w w'∧OwnHls w' w.heap.size g n c' cells:=by
 have q14:=fun a n m W=>Qw (fs:=fs) Try.underlying27 a n m W
 have HI:=Lib.hid hr
 have H1:=Lib.hid h1
 obtain⟨i,e1,e2,e3,e4⟩:=info_parts inf46
 clear hr h1
 go_enter LK.func103,Try.ntmps103
 go_wp2_with (at_builtin;go_loud (refine L.wpList_append_any _ rfl (.tmp 5) (.tmp 6) 27 rfl w.heap.size 46 i _ 3 40 ((like_under 27).trans Try.underlying27) ((QV (fs:=fs) 46).trans e1) e2 e3 e4 rfl (by omega) (.slice (some ⟨w.heap.size,0,none⟩) 0 0) 0 [] rfl (World.ownsRow_lit w #[] 0 (Nat.le_refl _) (by decide) (by simp)) w.heap.size (some ⟨b,off,none⟩) n c cells rfl ((HI.out.keep fun p hp=>World.cell?_alloc_lt w _ p hp)) H1.out (by simp only[maxLen];omega) (by omega) (by simp) ?_;intro v' w4 hown hg4 hat;have HO:=Lib.hid hown;have HG:=Lib.hid (Grown.by hg4 w (Grown.alloc _ _) (fun k hk=>by cases hk;exact Nat.le_refl _));clear hown hg4 hat))
 go_ret
 have ho:=HO.out
 rw[Nat.zero_add,List.nil_append] at ho
 rcases ho.2 with ⟨_,e⟩|⟨g,cap,cur,rfl,r⟩
 ·omega
 ·exact⟨g,cap,rfl,HG.out,ho⟩
end
end
section
structure Changed (W W':World) (g haul:Nat) (pA:Option Addr) (cur:Array Value) (h':Hl):Prop where
 size:W.heap.size≤W'.heap.size
 os:W'.os=W.os
 same:∀ b,b<W.heap.size→b≠g→some b≠pA.map (·.block)→W'.heap[b]?=W.heap[b]?
 row:∃ cur':Array Value,W'.heap[g]?=some (.cells cur' 46 (0,0))∧(∀ q,q≠haul*3→q≠haul*3+1→q≠haul*3+2→cur'[q]?=cur[q]?)∧cur'[haul*3]?=some (.int .i64 h'.hours)∧cur'[haul*3+1]?=some (.int .i64 h'.covers) ∧
  ∃ pA' pc',cur'[haul*3+2]?=some (.slice pA' h'.prices.length pc')∧Ints W' pA' h'.prices
def zes (P:Program) (F:FuncId) (cap:Array Value) (w:World) (haul:Nat) (h h':Hl):Prop:=
 ∀ W g cur pA pc,Grown w W→w.heap.size≤g→W.heap[g]?=some (.cells cur 46 (0,0))→cur[haul*3]?=some (.int .i64 h.hours)→cur[haul*3+1]?=some (.int .i64 h.covers)→cur[haul*3+2]?=some (.slice pA h.prices.length pc) →
  L.OwnInts W w.heap.size pA pc h.prices→pA.map (·.block)≠some g→Calls P F (#[.pointer (some ⟨g,haul*3,none⟩)]++cap) W fun e W'=>e=.returned (.tuple #[])∧Changed W W' g haul pA cur h'
section
variable {w w2 w3 w4 w5 w6:World} {kb r6 g c4 haul:Nat} {A1 A2 A3 pA A4:Option Addr} {n1 n2 n3 m1 m2 m3 pc:Nat} {o6:Obj} {cur:Array Value} {v:Value} {xs:List Int} {h h':Hl}
theorem wm1 (r0:w2.heap[kb]?=some (.cells #[.slice A1 n1 m1,.slice A2 n2 m2,.slice A3 n3 m3] 29 (0,0))) (q6:w2.heap[r6]?=some o6) (r1:w2.heap[g]?=some (.cells cur 46 (0,0))) (hkg:kb≠g) (hk6:kb≠r6) (hw3:w3=w2.setCell ⟨kb,2,none⟩ v) (hI:Ints w2 pA xs) :
  w3.heap[kb]?=some (.cells #[.slice A1 n1 m1,.slice A2 n2 m2,v] 29 (0,0))∧w3.heap[r6]?=some o6∧w3.heap[g]?=some (.cells cur 46 (0,0))∧Ints w3 pA xs∧(∀ b,b≠kb→w3.heap[b]?=w2.heap[b]?)∧w3.heap.size=w2.heap.size∧w3.os=w2.os:=by
 have same:∀ b,b≠kb→w3.heap[b]?=w2.heap[b]?:=fun b hb=>by rw[hw3];exact Below.heap_setCell _ _ _ _ hb
 refine⟨by rw[hw3,zR r0];rfl,(same _ hk6.symm).trans q6,(same _ hkg.symm).trans r1,fun k x hx=>?_,same,by rw[hw3,zv],by rw[hw3];rfl⟩
 obtain⟨b,off,e,hc⟩:=hI k x hx
 have hb:b≠kb:=by
  rintro rfl
  have h2:=za r0 (off+k)
  rw[hc] at h2
  rcases hq:off+k with _|_|_|q<;>rw[hq] at h2<;>simp at h2
 exact⟨b,off,e,(World.cell?_of_block (a:=⟨b,off+k,none⟩) (same b hb)).trans hc⟩
theorem wm2 (hg:Grown w3 w4) (k0:w3.heap[kb]?=some (.cells #[.slice A1 n1 m1,.slice A2 n2 m2,v] 29 (0,0))) (k6:w3.heap[r6]?=some o6) (k1:w3.heap[g]?=some (.cells cur 46 (0,0))) (hkg:kb≠g) (h6g:r6≠g) (ho:L.OwnInts w4 w3.heap.size A4 c4 xs) (hw5:w5=w4.setCell ⟨g,haul*3+2,none⟩ (.slice A4 xs.length c4)) :
  w5.heap[kb]?=some (.cells #[.slice A1 n1 m1,.slice A2 n2 m2,v] 29 (0,0))∧w5.heap[r6]?=some o6∧w5.heap[g]?=some (.cells (cur.setIfInBounds (haul*3+2) (.slice A4 xs.length c4)) 46 (0,0))∧L.OwnInts w5 w3.heap.size A4 c4 xs∧A4.map (·.block)≠some g∧A4.map (·.block)≠some kb∧A4.map (·.block)≠some r6 ∧
   (∀ b,b≠g→b<w3.heap.size→w5.heap[b]?=w3.heap[b]?)∧w3.heap.size≤w5.heap.size∧w5.os=w3.os:=by
 have same:∀ b,b≠g→w5.heap[b]?=w4.heap[b]?:=fun b hb=>by rw[hw5];exact Below.heap_setCell _ _ _ _ hb
 have low:∀ k,A4.map (·.block)=some k→w3.heap.size≤k:=fun k hk=>(zV ho (by rw[qu];exact hk)).1
 have lg:=zj k1
 have lk:=zj k0
 have l6:=zj k6
 refine⟨(same _ hkg).trans (zf k0 hg),(same _ h6g).trans (zf k6 hg),by rw[hw5];exact zR (zf k1 hg) _,jc ho fun k hk _=>same k ?_,?_,?_,?_,fun b hb hl=>(same b hb).trans (hg.same b hl),by rw[hw5,zv];exact hg.size,by rw[hw5];exact hg.os⟩
 ·rw[qu] at hk;have:=low k hk;omega
 ·intro e;have:=low _ e;omega
 ·intro e;have:=low _ e;omega
 ·intro e;have:=low _ e;omega
end
theorem qS {w:World} {base base' size n:Nat} {e:TypeId} {v:Value} {xs:List Value} (h:w.ownsRow base e size v n xs) (hb:base'≤base):w.ownsRow base' e size v n xs:=by
 refine⟨h.1,?_⟩
 rcases h.2 with h2|⟨b,cap,cur,hv,hg,r⟩
 ·exact .inl h2
 ·exact .inr ⟨b,cap,cur,hv,Nat.le_trans hb hg,r⟩
theorem ints_off {w w':World} {A:Option Addr} {xs:List Int} {A1 A2 A3:Option Addr} {n1 n2 n3 m1 m2 m3 r:Nat} {t:TypeId} (h:Ints w A xs) (hr:w.heap[r]?=some (.cells #[.slice A1 n1 m1,.slice A2 n2 m2,.slice A3 n3 m3] t (0,0))) (hs:∀ b,b<w.heap.size→b≠r→w'.heap[b]?=w.heap[b]?):Ints w' A xs:=fun k x hx=>by
 obtain⟨b,off,e,hc⟩:=h k x hx
 have hb:b≠r:=by
  rintro rfl
  have h2:=za hr (off+k)
  rw[hc] at h2
  rcases hq:off+k with _|_|_|q<;>rw[hq] at h2<;>simp at h2
 exact⟨b,off,e,(World.cell?_of_block (a:=⟨b,off+k,none⟩) (hs b (qw hc) hb)).trans hc⟩
theorem wm3 {V w7:World} {kb r6 g haul:Nat} {hs:List Hl} {cells:List Value} {cur cur':Array Value} {v:Value} {h':Hl} {A1 A2 A3 pA':Option Addr} {n1 n2 n3 m1 m2 m3 pc':Nat} {B1 B2 B3:Option Addr} {i1 i2 i3 j1 j2 j3:Nat} (hcl:HlCells V hs cells) (v0:V.heap[kb]?=some (.cells #[.slice A1 n1 m1,.slice A2 n2 m2,.slice A3 n3 m3] 29 (0,0))) (v1:V.heap[r6]?=some (.cells #[.slice B1 i1 j1,.slice B2 i2 j2,.slice B3 i3 j3] 29 (0,0)))
  (hsame:∀ b,b<V.heap.size→b≠kb→b≠r6→w7.heap[b]?=V.heap[b]?) (r4:∀ (q:Nat) u,cells[q]?=some u→cur[q]?=some u) (hg:w7.heap[g]?=some (.cells cur' 46 (0,0))) (hcur:∀ q,q≠haul*3→q≠haul*3+1→q≠haul*3+2→cur'[q]?=(cur.setIfInBounds (haul*3+2) v)[q]?)
  (e0:cur'[haul*3]?=some (.int .i64 h'.hours)) (e1:cur'[haul*3+1]?=some (.int .i64 h'.covers)) (e2:cur'[haul*3+2]?=some (.slice pA' h'.prices.length pc')) (hI:Ints w7 pA' h'.prices) (hl:h'.prices.length≤1000):HlsAt w7 (some ⟨g,0,none⟩) (hs.set haul h'):=by
 intro j x hj
 refine⟨g,0,rfl,?_⟩
 by_cases hjh:j=haul
 ·subst hjh
  have hjl:j<hs.length:=by have:=(List.getElem?_eq_some_iff.1 hj).1;simpa using this
  rw[List.getElem?_set_self hjl] at hj
  cases hj
  exact⟨pA',pc',by rw[Nat.zero_add];exact (za hg _).trans e0,by rw[Nat.zero_add];exact (za hg _).trans e1,by rw[Nat.zero_add];exact (za hg _).trans e2,hI,hl⟩
 ·rw[List.getElem?_set_ne (fun q=>hjh q.symm)] at hj
  obtain⟨k1,k2,pA,pc,k3,k4,k5⟩:=hcl.2 j x hj
  have get:∀ q,q≠haul*3→q≠haul*3+1→q≠haul*3+2→∀ u,cells[q]?=some u→w7.cell? ⟨g,q,none⟩=some u:=fun q a b c u hu=>by
   rw[za hg,hcur q a b c,Array.getElem?_setIfInBounds_ne (fun e=>c e.symm)]
   exact r4 q u hu
  refine⟨pA,pc,by rw[Nat.zero_add];exact get _ (by omega) (by omega) (by omega) _ k1,by rw[Nat.zero_add];exact get _ (by omega) (by omega) (by omega) _ k2,by rw[Nat.zero_add];exact get _ (by omega) (by omega) (by omega) _ k3,fun k y hy=>?_,k5⟩
  obtain⟨b,off,e,hc⟩:=k4 k y hy
  have nk:b≠kb:=by
   rintro rfl
   have h2:=za v0 (off+k)
   rw[hc] at h2
   rcases hq:off+k with _|_|_|q<;>rw[hq] at h2<;>simp at h2
  have n6:b≠r6:=by
   rintro rfl
   have h2:=za v1 (off+k)
   rw[hc] at h2
   rcases hq:off+k with _|_|_|q<;>rw[hq] at h2<;>simp at h2
  exact⟨b,off,e,(World.cell?_of_block (a:=⟨b,off+k,none⟩) (hsame b (qw hc) nk n6)).trans hc⟩
section
variable {fs:Array Func} [Like fs]
set_option maxRecDepth 20000 in
set_option maxHeartbeats 2000000 in
theorem with_any (F:FuncId) (cap:Array Value) (hF:∀ args wr,(callFunc F args).run (Pf fs) wr=.ok (.enter F args) wr) (K:Kt) (gA dA:Option Addr) (hb ho gc dc hc haul:Nat) (h h':Hl) (w:World) (k:KtAt w K gA dA (some ⟨hb,ho,none⟩)) (hh:K.hauls[haul]?=some h) (hp : 1≤h.prices.length) (hl':h'.prices.length≤1000)
  (hch:zes (Pf fs) F cap w haul h h') :
  Calls (Pf fs) 72 #[ktV K gA dA (some ⟨hb,ho,none⟩) gc dc hc,.int .i64 haul,.func (.func F) #[] cap] w fun e w'=>∃ g c',e=.returned (.agg #[.slice gA K.goods.length gc,.slice dA K.dishes.length dc,.slice (some ⟨g,0,none⟩) K.hauls.length c'])∧Grown w w'∧HlsAt w' (some ⟨g,0,none⟩) (K.hauls.set haul h'):=by
 have hhl:haul<K.hauls.length:=(List.getElem?_eq_some_iff.1 hh).1
 have hhb:hb<w.heap.size:=by
  obtain⟨b',o',e,_,_,c1,_⟩:=k.hauls haul h hh
  cases e
  exact qw c1
 have hnh:=k.nh
 obtain⟨V,hV⟩:∃ V,V=(w.alloc (.cells #[.slice gA K.goods.length gc,.slice dA K.dishes.length dc,.slice (some ⟨hb,ho,none⟩) K.hauls.length hc] 29)).alloc (.cells #[.slice none 0 0,.slice none 0 0,.slice none 0 0] 29):=⟨_,rfl⟩
 have v0:V.heap[w.heap.size]?=some (.cells #[.slice gA K.goods.length gc,.slice dA K.dishes.length dc,.slice (some ⟨hb,ho,none⟩) K.hauls.length hc] 29 (0,0)):=by rw[hV];exact zt (heap_alloc_new w _) _
 have v1:V.heap[w.heap.size+1]?=some (.cells #[.slice none 0 0,.slice none 0 0,.slice none 0 0] 29 (0,0)):=by
  rw[hV]
  have:=heap_alloc_new (w.alloc (.cells #[.slice gA K.goods.length gc,.slice dA K.dishes.length dc,.slice (some ⟨hb,ho,none⟩) K.hauls.length hc] 29)) (.cells #[.slice none 0 0,.slice none 0 0,.slice none 0 0] 29)
  simpa using this
 have vs:V.heap.size=w.heap.size+2:=by rw[hV];simp
 have vg:Grown w V:=by rw[hV];exact (Grown.alloc _ _).trans (.alloc _ _)
 obtain⟨cells,hcl,hrd,hone⟩:=(k.grown vg).hauls.cells (by omega)
 have hc1:=cloneHls_any (fs:=fs) K.hauls.length hb ho hc cells V hrd hone (by omega) (by omega)
 have HC1:=Lib.hid hc1
 have HCL:=Lib.hid hcl
 have HV0:=Lib.hid v0
 have HV1:=Lib.hid v1
 have HVS:=Lib.hid vs
 have HVG:=Lib.hid vg
 have HCH:=Lib.hid hch
 have HHH:=Lib.hid hh
 have hki:(haul:Int)<(K.hauls.length:Int):=by omega
 rw[hV] at HC1
 have HVE:=Lib.hid hV
 clear k hcl hrd hone hc1 v0 v1 vs vg hch hV hh
 unfold ktV
 go_enter LK.func72,Try.ntmps72
 go_wp2_with (first|(go_at_call 103;refine HC1.out.mono ?_;rintro e w2 ⟨g,c',rfl,hg2,ho2⟩;have hv:=HVE.out;rw[← hv] at hg2 ho2;clear hv;obtain⟨cur,r1,r2,r3,r4⟩:=ho2.row;have r0:=zf HV0.out hg2;have y0:=za r0 2;have y1:=zk r0 2;have hvs:=HVS.out;have hne:w.heap.size≠g:=(by omega);have hne':g≠w.heap.size:=(by omega);obtain⟨s1,s2,pA,pc,s3,s4,s5⟩:=(HCL.out.grown hg2).2 haul h HHH.out;have z2:=(za r1 (haul*3+2)).trans (r4 _ _ s3);have z2f:=zk r1 (haul*3+2);obtain⟨pa,rfl⟩:∃ a,pA=some a:=(by obtain⟨b',o',e',_⟩:=s4 0 _ (List.getElem?_eq_getElem (by omega));exact⟨_,e'⟩);have R0:=Lib.hid r0;have R1:=Lib.hid r1;have R4:=Lib.hid r4;have S1:=Lib.hid s1;have S2:=Lib.hid s2;have S4:=Lib.hid s4;have HSX:=Lib.hid s3;have HG2:=Lib.hid hg2;have HGB:=Lib.hid r2;clear r0 r1 r2 r3 r4 s1 s2 s3 s4 hg2 ho2 hvs;simp only[List.getElem?_toArray,List.getElem?_cons_succ,List.getElem?_cons_zero] at y0)|(go_at_call 93;obtain⟨w3,hw3⟩:∃ W,W=w2.setCell ⟨w.heap.size,2,none⟩ (.slice (some ⟨g,0,none⟩) K.hauls.length c'):=⟨_,rfl⟩;rw[← hw3];have q6:=zf HV1.out HG2.out;have hk6:w.heap.size≠w.heap.size+1:=(by omega);obtain⟨a0,a1,a2,a3,a4,a5,a6⟩:=wm1 R0.out q6 R1.out hne hk6 hw3 S4.out;refine (YB (fs:=fs) h.prices pa pc w3 a3 s5).mono ?_;rintro e w4 ⟨A4,c4,rfl,hg4,ho4⟩;have b1:=za (zf a2 hg4) (haul*3+2);have b2:=zk (zf a2 hg4) (haul*3+2);obtain⟨vb,hvb⟩:∃ v,cur[haul*3+2]?=some v:=(by have:=za R1.out (haul*3+2);rw[z2] at this;exact⟨_,this.symm⟩);rw[hvb] at b1;have AA0:=Lib.hid a0;have AA1:=Lib.hid a1;have AA2:=Lib.hid a2;have AA4:=Lib.hid a4;have AA5:=Lib.hid a5;have AA6:=Lib.hid a6;have HG4:=Lib.hid hg4;have HO4:=Lib.hid ho4;clear a0 a1 a2 a3 a4 a5 a6 hg4 ho4 hvb q6 y0 y1 z2 z2f hw3)|(obtain⟨w5,hw5⟩:∃ W,W=w4.setCell ⟨g,haul*3+2,none⟩ (.slice A4 h.prices.length c4):=⟨_,rfl⟩;rw[← hw5];have n6g:w.heap.size+1≠g:=(by have:=HVS.out;have:=HGB.out;omega);obtain⟨d0,d1,d2,d3,d4,d5,d6,d7,d8,d9⟩:=wm2 HG4.out AA0.out AA1.out AA2.out hne n6g HO4.out hw5;have gV:=HVS.out;have gg:=HGB.out;have sz2:=HG2.out.size;have sz3:=AA5.out;have same5:(∀ b,b<V.heap.size→b≠w.heap.size→w5.heap[b]?=V.heap[b]?):=(fun b hb hn=>(d7 b (by omega) (by omega)).trans ((AA4.out b hn).trans (HG2.out.same b hb)));have hG5:Grown w w5:=⟨by have:=HVG.out.size;omega,fun b hb=>(same5 b (by omega) (by omega)).trans (HVG.out.same b hb),d9.trans (AA6.out.trans (HG2.out.os.trans HVG.out.os))⟩;have hsz:haul*3+2<cur.size:=(Array.getElem?_eq_some_iff.1 ((za R1.out (haul*3+2)).symm.trans ((za R1.out (haul*3+2)).trans (R4.out _ _ (HSX.out))))).1;have hcr:=HCH.out w5 g _ A4 c4 hG5 (by omega) d2 (by rw[Array.getElem?_setIfInBounds_ne (by omega)];exact R4.out _ _ S1.out) (by rw[Array.getElem?_setIfInBounds_ne (by omega)];exact R4.out _ _ S2.out) (Array.getElem?_setIfInBounds_self_of_lt hsz) (qS d3 (by omega)) d4;refine hcr.mono ?_;rintro e w6 ⟨rfl,hc6⟩;have k6:=(hc6.same _ (zj d0) hne (fun e=>d5 e.symm)).trans d0;have l6:=(hc6.same _ (zj d1) n6g (fun e=>d6 e.symm)).trans d1;have x0:=za k6 0;have x1:=za k6 1;have x2:=za k6 2;have u0:=za l6 0;have u1:=za l6 1;have u2:=za l6 2;have t0:=zk l6 0;have t1:=zk l6 1;have t2:=zk l6 2;simp only[List.getElem?_toArray,List.getElem?_cons_succ,List.getElem?_cons_zero] at x0 x1 x2 u0 u1 u2;have HC6:=Lib.hid hc6;have HL6:=Lib.hid l6;have HS5:=Lib.hid same5;have HG5:=Lib.hid hG5;have HD4:=Lib.hid d4;have HD3:=Lib.hid d3;have HD8:=Lib.hid d8;clear hcr hc6 k6 l6 same5 hG5 d0 d1 d2 d3 d4 d5 d6 d7 d8 d9 hw5 gV gg sz2 sz3 hsz b1 b2))
 obtain⟨w7,hw7⟩:∃ W,W=((w6.setCell ⟨w.heap.size+1,0,none⟩ (.slice gA K.goods.length gc)).setCell ⟨w.heap.size+1,1,none⟩ (.slice dA K.dishes.length dc)).setCell ⟨w.heap.size+1,2,none⟩ (.slice (some ⟨g,0,none⟩) K.hauls.length c'):=⟨_,rfl⟩
 rw[← hw7]
 have h6:w7.heap[w.heap.size+1]?=some (.cells #[.slice gA K.goods.length gc,.slice dA K.dishes.length dc,.slice (some ⟨g,0,none⟩) K.hauls.length c'] 29 (0,0)):=by rw[hw7];exact qP HL6.out _ _ _
 have same7:∀ b,b≠w.heap.size+1→w7.heap[b]?=w6.heap[b]?:=fun b hb=>by rw[hw7,Below.heap_setCell _ _ _ _ hb,Below.heap_setCell _ _ _ _ hb,Below.heap_setCell _ _ _ _ hb]
 have sz7:w7.heap.size=w6.heap.size:=by rw[hw7];simp only[zv]
 have os7:w7.os=w6.os:=by rw[hw7];rfl
 have x0:=za h6 0
 have x1:=za h6 1
 have x2:=za h6 2
 simp only[List.getElem?_toArray,List.getElem?_cons_succ,List.getElem?_cons_zero] at x0 x1 x2
 have hfin:Grown w w7∧HlsAt w7 (some ⟨g,0,none⟩) (K.hauls.set haul h'):=by
  have gV:=HVS.out
  have gg:=HGB.out
  have sz2:=HG2.out.size
  have sz3:=AA5.out
  have sz5:=HD8.out
  have sz6:=HC6.out.size
  have low:∀ k,A4.map (·.block)=some k→w3.heap.size≤k:=fun k hk=>(zV HD3.out (by rw[qu];exact hk)).1
  have same6:∀ b,b<V.heap.size→b≠w.heap.size→b≠w.heap.size+1→w7.heap[b]?=V.heap[b]?:=fun b hb n1 n2=>by
   rw[same7 b n2,HC6.out.same b (by omega) (by omega) (fun e=>by have:=low b e.symm;omega)]
   exact HS5.out b hb n1
  obtain⟨cur',c1,c2,c3,c4',pA',pc',c5,c6⟩:=HC6.out.row
  refine⟨⟨by have:=HG5.out.size;omega,fun b hb=>?_,?_⟩,?_⟩
  ·rw[same6 b (by omega) (by omega) (by omega)]
   exact HVG.out.same b hb
  ·rw[os7,HC6.out.os]
   exact HG5.out.os
  ·exact wm3 HCL.out HV0.out HV1.out same6 R4.out ((same7 g (by omega)).trans c1) c2 c3 c4' c5 (ints_off c6 HL6.out fun b _ hb=>same7 b hb) hl'
 have HFIN:=Lib.hid hfin
 clear hfin h6 same7 hw7
 refine bodyPost_ret (v:=.agg #[.slice gA K.goods.length gc,.slice dA K.dishes.length dc,.slice (some ⟨g,0,none⟩) K.hauls.length c']) (by simp[results,Try.results72,go_sem,x0,x1,x2]) rfl ⟨g,c',rfl,HFIN.out.1,HFIN.out.2⟩
theorem n73_any (nv:Nat) (n:Int) (w:World) (haul:Nat) (h:Hl) (hn:w.heap[nv]?=some (.cells #[.int .i64 n] 3 (0,0))):zes (Pf fs) 73 #[.pointer (some ⟨nv,0,none⟩)] w haul h { h with covers:=n }:=by
 intro W g cur pA pc hg hgw hrow h0 h1 h2 ho hne
 have hnv:=zf hn hg
 have y0:=za hnv 0
 have z0:=(za hrow (haul*3+1)).trans h1
 have z1:=zk hrow (haul*3+1)
 simp only[List.getElem?_toArray,List.getElem?_cons_zero] at y0
 have hfin:Changed W (W.setCell ⟨g,haul*3+1,none⟩ (.int .i64 n)) g haul pA cur { h with covers:=n }:=by
  refine⟨by rw[zv];exact Nat.le_refl _,rfl,fun b _ hb _=>Below.heap_setCell _ _ _ _ hb,_,zR hrow _,fun q a b c=>by rw[Array.getElem?_setIfInBounds_ne (fun e=>b e.symm)],by rw[Array.getElem?_setIfInBounds_ne (by omega)];exact h0,Array.getElem?_setIfInBounds_self_of_lt (Array.getElem?_eq_some_iff.1 h1).1,pA,pc,by rw[Array.getElem?_setIfInBounds_ne (by omega)];exact h2,?_⟩
  intro k x hx
  obtain⟨b,off,e,hc⟩:=yC ho k x hx
  have hb:b≠g:=by
   intro q
   rw[e] at hne
   exact hne (by rw[← q];rfl)
  exact⟨b,off,e,(World.cell?_of_block (a:=⟨b,off+k,none⟩) (Below.heap_setCell _ _ _ _ hb)).trans hc⟩
 have HFIN:=Lib.hid hfin
 clear hfin h0 h1 h2 ho hrow hn hnv hne hg hgw
 show Calls (Pf fs) 73 #[.pointer (some ⟨g,haul*3,none⟩),.pointer (some ⟨nv,0,none⟩)] W _
 go_enter LK.func73,Try.ntmps73
 go_wp2_with fail
 go_end0
 exact⟨rfl,HFIN.out⟩
end
end
end Go.Gal
