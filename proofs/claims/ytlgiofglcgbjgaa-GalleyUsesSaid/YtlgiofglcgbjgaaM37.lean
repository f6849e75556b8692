/- Walks: galleys, loads, single, shaped. Walks: served. Walks: the bag that deals numbers (turned from the texts for the Line by gen_bag.py). -/
import Derived.Test.YtlgiofglcgbjgaaM36
namespace Go.Gal
open Go Go.Par Go.Proofs Go.RowKit
section
def allocs (w:World) (os:List Obj):World:=os.foldl World.alloc w
theorem allocs_size:∀ (os:List Obj) (w:World),(allocs w os).heap.size=w.heap.size+os.length
 | [],w=>rfl
 | o::os,w=>by
  show (allocs (w.alloc o) os).heap.size=_
  rw[allocs_size os];simp;omega
theorem yd:∀ (os:List Obj) (w:World),Grown w (allocs w os)
 | [],_w=>Grown.refl _
 | o::os,w=>(Grown.alloc w o).trans (yd os (w.alloc o))
theorem yn:∀ (os:List Obj) (w:World) (i:Nat) (o:Obj),os[i]?=some o→(allocs w os).heap[w.heap.size+i]?=some o
 | [],w,i,o,h=>by simp at h
 | o1::os,w,0,o,h=>by
  injection h with h
  subst h
  show (allocs (w.alloc o1) os).heap[w.heap.size]?=some o1
  rw[(yd os (w.alloc o1)).same _ (by simp)]
  exact heap_alloc_new w o1
 | o1::os,w,i+1,o,h=>by
  have:=yn os (w.alloc o1) i o h
  rw[show (w.alloc o1).heap.size=w.heap.size+1 by simp] at this
  show (allocs (w.alloc o1) os).heap[w.heap.size+(i+1)]?=some o
  rw[show w.heap.size+(i+1)=w.heap.size+1+i by omega]
  exact this
theorem qn {w:World} {b:Nat} {t:TypeId} {xs:List Int} (h:w.heap[b]?=some (.cells (xs.map (Value.int .i64)).toArray t (0,0))):Ints w (some ⟨b,0,none⟩) xs:=fun k x hx =>
 ⟨b,0,rfl,by rw[Nat.zero_add,za h k,List.getElem?_toArray,List.getElem?_map,hx];rfl⟩
def galK:Kt:=⟨[⟨6,1,0,2⟩,⟨4,0,3,0⟩],[[1,0],[1,1]],[⟨4,2,[3,2]⟩,⟨7,1,[5,0]⟩,⟨3,2,[4,3]⟩]⟩
def galL (n:Int):List (List Int):=[[4,n],[0,0],[0,0]]
def row3 (xs:List Int):Obj:=.cells (xs.map (Value.int .i64)).toArray 3 (0,0)
def sl (b n:Nat):Value:=.slice (some ⟨b,0,none⟩) n n
def galO (H:Nat):List Obj:=[.cells #[sl (H+1) 2,sl (H+1+1+1+1) 2,sl (H+1+1+1+1+1+1+1+1) 3] 29 (0,0),
 .cells #[.int .i64 6,.int .i64 1,.int .i64 0,.int .i64 2,.int .i64 4,.int .i64 0,.int .i64 3,.int .i64 0] 42 (0,0),
 row3 [1,0],row3 [1,1],.cells #[sl (H+1+1) 2,sl (H+1+1+1) 2] 48 (0,0),row3 [3,2],row3 [5,0],row3 [4,3],
 .cells #[.int .i64 4,.int .i64 2,sl (H+1+1+1+1+1) 2,.int .i64 7,.int .i64 1,sl (H+1+1+1+1+1+1) 2,.int .i64 3,.int .i64 2,sl (H+1+1+1+1+1+1+1) 2] 46 (0,0)]
def loadO (H:Nat) (n:Int):List Obj:=[row3 [4,n],row3 [0,0],row3 [0,0],.cells #[sl H 2,sl (H+1) 2,sl (H+1+1) 2] 22 (0,0)]
section
variable {fs:Array Func} [Like fs]
set_option maxRecDepth 20000 in
set_option maxHeartbeats 1000000 in
theorem yE (w:World):Calls (Pf fs) 64 #[] w fun e w'=>∃ gA dA hA gc dc hc,e=.returned (ktV galK gA dA hA gc dc hc)∧KtAt w' galK gA dA hA∧Grown w w':=by
 have hA:=fun i o (h:(galO w.heap.size)[i]?=some o)=>yn (galO w.heap.size) w i o h
 have HG:=Lib.hid (yd (galO w.heap.size) w)
 have h0:=hA 0 _ rfl
 have HA:=Lib.hid hA
 clear hA
 have c0:(allocs w (galO w.heap.size)).cell? ⟨w.heap.size,0,none⟩=some (.slice (some ⟨w.heap.size+1,0,none⟩) 2 2):=za h0 0
 have c1:(allocs w (galO w.heap.size)).cell? ⟨w.heap.size,1,none⟩=some (.slice (some ⟨w.heap.size+1+1+1+1,0,none⟩) 2 2):=za h0 1
 have c2:(allocs w (galO w.heap.size)).cell? ⟨w.heap.size,2,none⟩=some (.slice (some ⟨w.heap.size+1+1+1+1+1+1+1+1,0,none⟩) 3 3):=za h0 2
 go_enter LK.func64,Try.ntmps64
 go_wp2_with fail
 show bodyPost _ _ _ _ _ (allocs w (galO w.heap.size))
 generalize allocs w (galO w.heap.size)=W at *
 generalize w.heap.size=H at *
 refine bodyPost_ret (v:=ktV galK (some ⟨H+1,0,none⟩) (some ⟨H+1+1+1+1,0,none⟩) (some ⟨H+1+1+1+1+1+1+1+1,0,none⟩) 2 2 3) (by simp[results,Try.results64,go_sem,c0,c1,c2,ktV,galK]) rfl ?_
 refine⟨some ⟨H+1,0,none⟩,some ⟨H+1+1+1+1,0,none⟩,some ⟨H+1+1+1+1+1+1+1+1,0,none⟩,2,2,3,rfl,?_,HG.out⟩
 have h1:=HA.out 1 _ rfl
 have h2:=HA.out 2 _ rfl
 have h3:=HA.out 3 _ rfl
 have h4:=HA.out 4 _ rfl
 have h5:=HA.out 5 _ rfl
 have h6:=HA.out 6 _ rfl
 have h7:=HA.out 7 _ rfl
 have h8:=HA.out 8 _ rfl
 refine⟨fun j g hj=>?_,fun j g hj=>?_,fun j g hj=>?_,by decide,by decide,by decide⟩
 ·refine⟨_,_,rfl,?_⟩
  match j,hj with
  | 0,hj=>cases hj;exact⟨za h1 0,za h1 1,za h1 2,za h1 3⟩
  | 1,hj=>cases hj;exact⟨za h1 4,za h1 5,za h1 6,za h1 7⟩
  | j+2,hj=>cases hj
 ·refine⟨_,_,rfl,?_⟩
  match j,hj with
  | 0,hj=>cases hj;exact⟨_,_,za h4 0,qn (xs:=[1,0]) h2,by decide⟩
  | 1,hj=>cases hj;exact⟨_,_,za h4 1,qn (xs:=[1,1]) h3,by decide⟩
  | j+2,hj=>cases hj
 ·refine⟨_,_,rfl,?_⟩
  match j,hj with
  | 0,hj=>cases hj;exact⟨_,_,za h8 0,za h8 1,za h8 2,qn (xs:=[3,2]) h5,by decide⟩
  | 1,hj=>cases hj;exact⟨_,_,za h8 3,za h8 4,za h8 5,qn (xs:=[5,0]) h6,by decide⟩
  | 2,hj=>cases hj;exact⟨_,_,za h8 6,za h8 7,za h8 8,qn (xs:=[4,3]) h7,by decide⟩
  | j+3,hj=>cases hj
set_option maxRecDepth 20000 in
set_option maxHeartbeats 1000000 in
theorem Yw (n:Int) (w:World):Calls (Pf fs) 65 #[.int .i64 n] w fun e w'=>∃ A c,e=.returned (.slice A 3 c)∧DishesAt w' A (galL n)∧Grown w w':=by
 have hA:=fun i o (h:(loadO w.heap.size n)[i]?=some o)=>yn (loadO w.heap.size n) w i o h
 have HG:=Lib.hid (yd (loadO w.heap.size n) w)
 have HA:=Lib.hid hA
 clear hA
 go_enter LK.func65,Try.ntmps65
 go_wp2_with fail
 show bodyPost _ _ _ _ _ (allocs w (loadO w.heap.size n))
 generalize allocs w (loadO w.heap.size n)=W at *
 generalize w.heap.size=H at *
 go_ret
 refine⟨_,_,rfl,?_,HG.out⟩
 have h0:=HA.out 0 _ rfl
 have h1:=HA.out 1 _ rfl
 have h2:=HA.out 2 _ rfl
 have h3:=HA.out 3 _ rfl
 intro j g hj
 refine⟨_,_,rfl,?_⟩
 match j,hj with
 | 0,hj=>cases hj;exact⟨_,_,za h3 0,qn (xs:=[4,n]) h0,by simp⟩
 | 1,hj=>cases hj;exact⟨_,_,za h3 1,qn (xs:=[0,0]) h1,by simp⟩
 | 2,hj=>cases hj;exact⟨_,_,za h3 2,qn (xs:=[0,0]) h2,by simp⟩
 | j+3,hj=>cases hj
end
end
section
def galM:List Int:=[0,1,0]
theorem zcf:zW galK galM=0:=by decide +kernel
theorem gal_some:noneB galK galM=false:=by decide +kernel
theorem gal_rows:zdD galK galM=galL 4:=by decide +kernel
theorem gal_cost:jw galK galM=20:=by decide +kernel
theorem gal_given4:qm galK galM (galL 4)=0:=by decide +kernel
theorem gal_given3:qm galK galM (galL 3)=0:=by decide +kernel
theorem gal_run4:(runK galK galM (galL 4)).stop=none∧(runK galK galM (galL 4)).left=[[4,3],[3,0],[1,0]]:=by decide +kernel
theorem zbe:(runK galK galM (galL 3)).stop=some (1,1,11):=by decide +kernel
theorem gal_most:yH galK galM 0 10=some 5:=by decide +kernel
theorem zdh:Jt galK=some (galM,20):=by decide +kernel
theorem gal_check:zC galK=0:=by decide +kernel
section
variable {fs:Array Func} [LikeS fs]
theorem ch_gal (gA dA hA:Option Addr) (gc dc hc:Nat) (mA:Option Addr) (mc:Nat) (w:World) (k:KtAt w galK gA dA hA) (m:Ints w mA galM) :
  Calls (Pf fs) 29 #[ktV galK gA dA hA gc dc hc,.slice mA 3 mc] w fun e w'=>∃ M,e=.returned (.tuple #[.slice M 3 3,.int .i64 20,.int .i64 0])∧Grown w w'∧DishesAt w' M (galL 4):=
 (cheapest_any galK gA dA hA gc dc hc galM mA mc w k m (by decide)).mono fun e w' ⟨v,e1,g,h⟩=>by
  cases h with
  | asked h1=>exact absurd zcf h1
  | bad _ h1=>rw[gal_some] at h1;cases h1
  | good _ _ M hM =>
   rw[gal_rows] at hM
   rw[gal_cost] at e1
   exact⟨_,e1,g,hM⟩
theorem runs_gal (gA dA hA:Option Addr) (gc dc hc:Nat) (mA:Option Addr) (mc:Nat) (lA:Option Addr) (lc:Nat) (w:World) (k:KtAt w galK gA dA hA) (m:Ints w mA galM) (l:DishesAt w lA (galL 4)) :
  Calls (Pf fs) 24 #[ktV galK gA dA hA gc dc hc,.slice mA 3 mc,.slice lA 3 lc] w fun e w'=>∃ M c,e=.returned (.tuple #[.slice M 3 c,.int .i64 0])∧Grown w w'∧DishesAt w' M [[4,3],[3,0],[1,0]]:=
 (runs_any galK gA dA hA gc dc hc galM mA mc (galL 4) lA lc w k m (by decide) l (by decide)).mono fun e w' ⟨v,e1,g,h⟩=>by
  cases h with
  | given h1=>exact absurd gal_given4 h1
  | stop a b c _ h1=>rw[gal_run4.1] at h1;cases h1
  | good M c _ _ hM =>
   rw[gal_run4.2] at hM e1
   exact⟨_,_,e1,g,hM⟩
theorem out_gal (gA dA hA:Option Addr) (gc dc hc:Nat) (mA:Option Addr) (mc:Nat) (lA:Option Addr) (lc:Nat) (w:World) (k:KtAt w galK gA dA hA) (m:Ints w mA galM) (l:DishesAt w lA (galL 3)) :
  Calls (Pf fs) 23 #[ktV galK gA dA hA gc dc hc,.slice mA 3 mc,.slice lA 3 lc] w fun e w'=>e=.returned (.tuple #[.int .i64 1,.int .i64 1,.int .i64 0])∧Grown w w':=
 (out_run galK gA dA hA gc dc hc galM mA mc (galL 3) lA lc w k m (by decide) l (by decide)).mono fun e w' ⟨v,e1,g,h⟩=>by
  cases h with
  | given h1=>exact absurd gal_given3 h1
  | bar a b _ h1=>rw[zbe] at h1;cases h1
  | short a b _ h1=>rw[zbe] at h1;cases h1;exact⟨e1,g⟩
  | good _ h1=>rw[zbe] at h1;cases h1
theorem most_gal (gA dA hA:Option Addr) (gc dc hc:Nat) (mA:Option Addr) (mc:Nat) (w:World) (k:KtAt w galK gA dA hA) (m:Ints w mA galM) :
  Calls (Pf fs) 28 #[ktV galK gA dA hA gc dc hc,.slice mA 3 mc,.int .i64 0] w fun e w'=>e=.returned (.tuple #[.int .i64 5,.int .i64 0])∧Grown w w':=by
 obtain⟨b,o,rfl,_⟩:=k.hauls 0 _ rfl
 have h:=most_any (fs:=fs) galK gA dA b o gc dc hc galM mA mc 0 w k m (by decide) zcf (by decide)
 rw[gal_most] at h
 exact h
theorem menu_gal (gA dA hA:Option Addr) (gc dc hc:Nat) (w:World) (k:KtAt w galK gA dA hA) :
  Calls (Pf fs) 53 #[ktV galK gA dA hA gc dc hc] w fun e w'=>∃ A c,e=.returned (.tuple #[.slice A 3 c,.int .i64 20,.int .i64 0])∧Grown w w'∧Ints w' A galM:=
 (menu_any galK gA dA hA gc dc hc w k gal_check).mono fun e w' ⟨v,e1,g,h⟩=>by
  rcases h with ⟨h1,_⟩|⟨m,c,A,cap,h1,h2,h3⟩
  ·rw[zdh] at h1;cases h1
  ·rw[zdh] at h1
   simp only[Option.some.injEq,Prod.mk.injEq] at h1
   obtain⟨rfl,rfl⟩:=h1
   exact⟨A,cap,by rw[e1,h2];rfl,g,h3⟩
theorem zbi (A B:Option Addr) (ca cb:Nat) (xs:List (List Int)) (hl:xs.length=3) (w:World) (hx:DishesAt w A xs) (hy:DishesAt w B xs) :
  Calls (Pf fs) 38 #[.slice A 3 ca,.slice B 3 cb] w fun e w'=>e=.returned (.bool true)∧Grown w w':=by
 have h:=Jh (fs:=fs) A B ca cb xs xs w hx hy (by omega) (by omega)
 rw[hl] at h
 refine h.mono fun e w' h1=>?_
 obtain⟨h1,q,rfl⟩:=h1
 exact⟨by rw[h1,decide_eq_true rfl],(Grown.refl w).drewN q⟩
theorem eqInts_gal (A B:Option Addr) (ca cb:Nat) (w:World) (hx:Ints w A galM) (hy:Ints w B galM) :
  Calls (Pf fs) 40 #[.slice A 3 ca,.slice B 3 cb] w fun e w'=>e=.returned (.bool true)∧Grown w w':=
 (yu (fs:=fs) A B ca cb galM galM w hx hy (by decide) (by decide)).mono fun e w' h1=>by
  obtain⟨h1,q,rfl⟩:=h1
  exact⟨h1,(Grown.refl w).drewN q⟩
def litO (H:Nat):List Obj:=[row3 [4,3],row3 [3,0],row3 [1,0],.cells #[sl H 2,sl (H+1) 2,sl (H+1+1) 2] 22 (0,0)]
theorem lit_grown (w:World):Grown w (((((w.alloc (.cells #[.int .i64 4,.int .i64 3] 3)).alloc (.cells #[.int .i64 3,.int .i64 0] 3)).alloc (.cells #[.int .i64 1,.int .i64 0] 3)).alloc
  (.cells #[.slice (some ⟨w.heap.size,0,none⟩) 2 2,.slice (some ⟨w.heap.size+1,0,none⟩) 2 2,.slice (some ⟨w.heap.size+1+1,0,none⟩) 2 2] 22))):=yd (litO w.heap.size) w
theorem lit_at (w:World):DishesAt (((((w.alloc (.cells #[.int .i64 4,.int .i64 3] 3)).alloc (.cells #[.int .i64 3,.int .i64 0] 3)).alloc (.cells #[.int .i64 1,.int .i64 0] 3)).alloc
  (.cells #[.slice (some ⟨w.heap.size,0,none⟩) 2 2,.slice (some ⟨w.heap.size+1,0,none⟩) 2 2,.slice (some ⟨w.heap.size+1+1,0,none⟩) 2 2] 22))) (some ⟨w.heap.size+1+1+1,0,none⟩) [[4,3],[3,0],[1,0]]:=by
 show DishesAt (allocs w (litO w.heap.size)) _ _
 have h0:=yn (litO w.heap.size) w 0 _ rfl
 have h1:=yn (litO w.heap.size) w 1 _ rfl
 have h2:=yn (litO w.heap.size) w 2 _ rfl
 have h3:=yn (litO w.heap.size) w 3 _ rfl
 generalize allocs w (litO w.heap.size)=W at *
 generalize w.heap.size=H at *
 intro j g hj
 refine⟨_,_,rfl,?_⟩
 match j,hj with
 | 0,hj=>cases hj;exact⟨_,_,za h3 0,qn (xs:=[4,3]) h0,by simp⟩
 | 1,hj=>cases hj;exact⟨_,_,za h3 1,qn (xs:=[3,0]) h1,by simp⟩
 | 2,hj=>cases hj;exact⟨_,_,za h3 2,qn (xs:=[1,0]) h2,by simp⟩
 | j+3,hj=>cases hj
set_option maxRecDepth 20000 in
set_option maxHeartbeats 4000000 in
theorem Jq (w:World):Calls (Pf fs) 22 #[] w fun e w'=>e=.returned (.bool true)∧Grown w w':=by
 have HGB:=Lib.hid (Grown.alloc w (row3 galM))
 have HM:=Lib.hid (fun W (g:Grown (w.alloc (row3 galM)) W)=>(qn (heap_alloc_new w (row3 galM))).grown g)
 go_enter LK.func22,Try.ntmps22
 go_wp2_with (go_at_call 64;refine (yE _).mono ?_;rintro e w1 ⟨gA1,dA1,hA1,gc1,dc1,hc1,rfl,k1,g1⟩;have K1:=Lib.hid k1;have G1:=Lib.hid g1;clear k1 g1)
 go_wp2_with (go_at_call 29;refine (ch_gal _ _ _ _ _ _ _ _ _ K1.out (HM.out _ G1.out)).mono ?_;rintro e w2 ⟨M2,rfl,g2,r2⟩;have G2:=Lib.hid (G1.out.trans g2);have R2:=Lib.hid r2;clear r2 g2 K1 G1)
 go_wp2_with (go_at_call 64;refine (yE _).mono ?_;rintro e w3 ⟨gA3,dA3,hA3,gc3,dc3,hc3,rfl,k3,g3⟩;have K3:=Lib.hid k3;have G3:=Lib.hid (G2.out.trans g3);have R3:=Lib.hid (R2.out.grown g3);clear k3 g3 G2 R2)
 go_wp2_with (go_at_call 65;refine (Yw _ _).mono ?_;rintro e w4 ⟨lA4,lc4,rfl,l4,g4⟩;have K4:=Lib.hid (K3.out.grown g4);have G4:=Lib.hid (G3.out.trans g4);have R4:=Lib.hid (R3.out.grown g4);have L4:=Lib.hid l4;clear l4 g4 G3 R3 K3)
 go_wp2_with (go_at_call 24;refine (runs_gal _ _ _ _ _ _ _ _ _ _ _ K4.out (HM.out _ G4.out) L4.out).mono ?_;rintro e w5 ⟨M5,c5,rfl,g5,r5⟩;have G5:=Lib.hid (G4.out.trans g5);have R5:=Lib.hid (R4.out.grown g5);have X5:=Lib.hid r5;clear r5 g5 K4 L4 G4 R4)
 go_wp2_with (go_at_call 64;refine (yE _).mono ?_;rintro e w6 ⟨gA6,dA6,hA6,gc6,dc6,hc6,rfl,k6,g6⟩;have K6:=Lib.hid k6;have G6:=Lib.hid (G5.out.trans g6);have R6:=Lib.hid (R5.out.grown g6);have X6:=Lib.hid (X5.out.grown g6);clear k6 g6 G5 R5 X5)
 go_wp2_with (go_at_call 65;refine (Yw _ _).mono ?_;rintro e w7 ⟨lA7,lc7,rfl,l7,g7⟩;have K7:=Lib.hid (K6.out.grown g7);have G7:=Lib.hid (G6.out.trans g7);have R7:=Lib.hid (R6.out.grown g7);have X7:=Lib.hid (X6.out.grown g7);have L7:=Lib.hid l7;clear l7 g7 G6 R6 X6 K6)
 go_wp2_with (go_at_call 23;refine (out_gal _ _ _ _ _ _ _ _ _ _ _ K7.out (HM.out _ G7.out) L7.out).mono ?_;rintro e w8 ⟨rfl,g8⟩;have G8:=Lib.hid (G7.out.trans g8);have R8:=Lib.hid (R7.out.grown g8);have X8:=Lib.hid (X7.out.grown g8);clear g8 K7 L7 G7 R7 X7)
 go_wp2_with (go_at_call 64;refine (yE _).mono ?_;rintro e w9 ⟨gA9,dA9,hA9,gc9,dc9,hc9,rfl,k9,g9⟩;have K9:=Lib.hid k9;have G9:=Lib.hid (G8.out.trans g9);have R9:=Lib.hid (R8.out.grown g9);have X9:=Lib.hid (X8.out.grown g9);clear k9 g9 G8 R8 X8)
 go_wp2_with (go_at_call 28;refine (most_gal _ _ _ _ _ _ _ _ _ K9.out (HM.out _ G9.out)).mono ?_;rintro e w10 ⟨rfl,g10⟩;have G10:=Lib.hid (G9.out.trans g10);have R10:=Lib.hid (R9.out.grown g10);have X10:=Lib.hid (X9.out.grown g10);clear g10 K9 G9 R9 X9)
 go_wp2_with (go_at_call 64;refine (yE _).mono ?_;rintro e w11 ⟨gA11,dA11,hA11,gc11,dc11,hc11,rfl,k11,g11⟩;have K11:=Lib.hid k11;have G11:=Lib.hid (G10.out.trans g11);have R11:=Lib.hid (R10.out.grown g11);have X11:=Lib.hid (X10.out.grown g11);clear k11 g11 G10 R10 X10)
 go_wp2_with (go_at_call 53;refine (menu_gal _ _ _ _ _ _ _ K11.out).mono ?_;rintro e w12 ⟨A12,c12,rfl,g12,i12⟩;have G12:=Lib.hid (G11.out.trans g12);have R12:=Lib.hid (R11.out.grown g12);have X12:=Lib.hid (X11.out.grown g12);have I12:=Lib.hid i12;clear i12 g12 K11 G11 R11 X11)
 go_wp2_with (go_at_call 65;refine (Yw _ _).mono ?_;rintro e w13 ⟨lA13,lc13,rfl,l13,g13⟩;have G13:=Lib.hid (G12.out.trans g13);have R13:=Lib.hid (R12.out.grown g13);have X13:=Lib.hid (X12.out.grown g13);have I13:=Lib.hid (I12.out.grown g13);have L13:=Lib.hid l13;clear l13 g13 G12 R12 X12 I12)
 go_wp2_with (go_at_call 38;refine (zbi _ _ _ _ _ rfl _ R13.out L13.out).mono ?_;rintro e w14 ⟨rfl,g14⟩;have G14:=Lib.hid (G13.out.trans g14);have X14:=Lib.hid (X13.out.grown g14);have I14:=Lib.hid (I13.out.grown g14);have B14:=Lib.hid (lit_at w14);have A14:=Lib.hid (lit_grown w14);clear g14 R13 L13 G13 X13 I13)
 go_wp2_with (go_at_call 38;refine (zbi _ _ _ _ _ rfl _ (X14.out.grown A14.out) B14.out).mono ?_;rintro e w15 ⟨rfl,g15⟩;have G15:=Lib.hid (G14.out.trans (A14.out.trans g15));have I15:=Lib.hid (I14.out.grown (A14.out.trans g15));clear g15 G14 X14 I14 B14 A14)
 go_wp2_with (go_at_call 40;refine (eqInts_gal _ _ _ _ _ I15.out (HM.out _ G15.out)).mono ?_;rintro e w16 ⟨rfl,g16⟩;have G16:=Lib.hid (G15.out.trans g16);clear g16 G15 I15)
 go_ret
 exact⟨rfl,HGB.out.trans G16.out⟩
end
end
section
theorem bits_nonneg (a b:Int) : 0≤bits .xor .u64 a b:=wrap_u64_nonneg _
section
variable {fs:Array Func} [Like fs]
set_option maxHeartbeats 400000 in
theorem next_any (a:Addr) (s:Int) (w:World) (hc:w.cell? a=some (.int .u64 s)) (hf:w.frozen? a=false) :
  Calls (Pf fs) 68 #[.pointer (some a)] w fun e w'=>∃ x s' n,e=.returned (.int .u64 x)∧0≤x∧w'=(w.setCell a (.int .u64 s')).drewN n:=by
 go_enter LK.func68,Try.ntmps68
 go_wp2
 go_quiet (fail)
 go_wp2
 go_ret
 exact⟨_,_,_,rfl,bits_nonneg _ _,rfl⟩
end
def BagAt (w:World) (g:Nat):Prop:=∃ s:Int,w.heap[g]?=some (.cells #[.int .u64 s] 91 (0,0))
def Bagged (g:Nat) (w w':World):Prop:=∃ (s:Int) (n:Nat),w'=(w.setCell ⟨g,0,none⟩ (.int .u64 s)).drewN n
section
variable {g:Nat} {w w':World}
theorem BagAt.lt (h:BagAt w g):g<w.heap.size:=by
 obtain⟨s,h⟩:=h
 rcases Nat.lt_or_ge g w.heap.size with hlt|hge
 ·exact hlt
 ·rw[Array.getElem?_eq_none hge] at h;cases h
theorem BagAt.cell (h:BagAt w g):∃ s:Int,w.cell? ⟨g,0,none⟩=some (.int .u64 s)∧w.frozen? ⟨g,0,none⟩=false:=by
 obtain⟨s,h⟩:=h
 exact⟨s,cell_of_row w g 0 _ 91 (0,0) h,by simp[World.frozen?,h]⟩
theorem BagAt.of_block (h:BagAt w g) (hb:w'.heap[g]?=w.heap[g]?):BagAt w' g:=by
 obtain⟨s,h⟩:=h
 exact⟨s,hb.trans h⟩
theorem BagAt.alloc (h:BagAt w g) (o:Obj):BagAt (w.alloc o) g:=h.of_block (Below.heap_alloc w o g h.lt)
theorem BagAt.setCell (h:BagAt w g) {p:Addr} (hp:g≠p.block) (u:Value):BagAt (w.setCell p u) g:=h.of_block (Below.heap_setCell w p u g hp)
theorem BagAt.drew (h:BagAt w g):BagAt w.drew g:=h
theorem Bagged.bag (h:Bagged g w w') (hb:BagAt w g):BagAt w' g:=by
 obtain⟨s,n,rfl⟩:=h
 obtain⟨s0,hb⟩:=hb
 refine⟨s,?_⟩
 show (w.setCell ⟨g,0,none⟩ (.int .u64 s)).heap[g]?=_
 simp[World.setCell,Array.getElem?_modify,hb]
theorem Bagged.size (h:Bagged g w w'):w'.heap.size=w.heap.size:=by obtain⟨s,n,rfl⟩:=h;simp[World.setCell,World.drewN]
theorem Bagged.block (h:Bagged g w w') {k:Nat} (hk:k≠g):w'.heap[k]?=w.heap[k]?:=by
 obtain⟨s,n,rfl⟩:=h
 exact Below.heap_setCell w ⟨g,0,none⟩ (.int .u64 s) k hk
theorem Bagged.cell (h:Bagged g w w') {p:Addr} (hp:p.block≠g):w'.cell? p=w.cell? p:=World.cell?_of_block (h.block hp)
theorem Bagged.grown (h:Bagged g w w'):w.grownBy w' (some g):=by
 have hs:=h.size
 have hb:=fun k (hk:k≠g)=>h.block hk
 obtain⟨s,n,rfl⟩:=h
 exact⟨rfl,rfl,rfl,by omega,fun k _ hk=>hb k (fun e=>hk (by rw[e]))⟩
end
def UpPost (g:Nat) (m:Int) (w:World) (e:Ending) (w':World):Prop:=∃ x:Int,e=.returned (.int .i64 x)∧0≤x∧(x≤m∨x≤0)∧Bagged g w w'
theorem Bagged.refl {g:Nat} {w:World} (h:BagAt w g):Bagged g w w:=by
 obtain⟨s,h⟩:=h
 refine⟨s,0,?_⟩
 have e:(w.setCell ⟨g,0,none⟩ (.int .u64 s)).heap=w.heap:=by
  apply Array.ext_getElem?
  intro i
  simp only[World.setCell,Array.getElem?_modify]
  by_cases hi:g=i
  ·subst hi;simp[h]
  ·simp[hi]
 have:(w.setCell ⟨g,0,none⟩ (.int .u64 s))=w:=by
  show { w with heap:=(w.setCell ⟨g,0,none⟩ (.int .u64 s)).heap }=w
  rw[e]
 rw[this];rfl
section
variable {fs:Array Func} [Like fs]
set_option maxHeartbeats 400000 in
theorem Jm (g:Nat) (m:Int) (w:World) (hb:BagAt w g) (hm:m≤1000000000):Calls (Pf fs) 27 #[.pointer (some ⟨g,0,none⟩),.int .i64 m] w (UpPost g m w):=by
 by_cases h1:m<1
 ·go_enter LK.func27,Try.ntmps27
  go_wp2
  go_ret
  exact⟨0,rfl,by omega,.inr (by omega),Bagged.refl hb⟩
 ·obtain⟨s,hc,hf⟩:=hb.cell
  go_enter LK.func27,Try.ntmps27
  go_wp2_with (go_at_call 68;refine (next_any _ s _ hc hf).mono ?_;rintro e w' ⟨x,s',n,rfl,hx,rfl⟩)
  go_ret
  have h2 : 0≤x / 8192 % (m+1):=Int.emod_nonneg _ (by omega)
  have h3:x / 8192 % (m+1)<m+1:=Int.emod_lt_of_pos _ (by omega)
  have h4:wrap64 (x / 8192 % (m+1))=x / 8192 % (m+1):=IntWalk.wrap64_in _ ⟨by omega,by omega⟩
  exact⟨wrap64 (x / 8192 % (m+1)),rfl,by omega,.inl (by omega),s',n,rfl⟩
def BFromPost (g:Nat) (a m:Int) (w:World) (e:Ending) (w':World):Prop:=∃ x:Int,e=.returned (.int .i64 x)∧a≤x∧(x≤m∨x≤a)∧Bagged g w w'
theorem ym (g:Nat) (a m:Int) (w:World) (hb:BagAt w g) (h0 : -1000000≤a) (h1:a≤1000000) (h2:m≤1000000) (h3 : -1000000≤m) :
  Calls (Pf fs) 51 #[.pointer (some ⟨g,0,none⟩),.int .i64 a,.int .i64 m] w (BFromPost g a m w):=by
 go_enter LK.func51,Try.ntmps51
 go_wp2_with (go_at_call 27;refine (Jm g _ _ hb (by omega)).mono ?_;rintro e w' ⟨x,rfl,hx0,hx1,hB⟩)
 go_ret
 exact⟨a+x,rfl,by omega,by omega,hB⟩
def OnePost (g:Nat) (xs:List Int) (w:World) (e:Ending) (w':World):Prop:=∃ x:Int,e=.returned (.int .i64 x)∧x∈xs∧Bagged g w w'
theorem one_any (g:Nat) (b off c:Nat) (xs:List Int) (w:World) (hb:BagAt w g) (hx:L.Ints w w.heap.size (some ⟨b,off,none⟩) xs) (hg:b≠g) (h0 : 0<xs.length) (h1:xs.length≤1000000) :
  Calls (Pf fs) 59 #[.pointer (some ⟨g,0,none⟩),.slice (some ⟨b,off,none⟩) xs.length c] w (OnePost g xs w):=by
 have hne:((xs.length:Int)==0)=false:=by rw[beq_eq_false_iff_ne];omega
 have hcell:∀ i (hi:i<xs.length),w.cell? ⟨b,off+i,none⟩=some (.int .i64 xs[i]):=fun i hi=>by
  obtain⟨b',off',h,_,hc⟩:=hx i _ (List.getElem?_eq_getElem hi)
  injection h with h;injection h with h1 h2;subst h1 h2;exact hc
 clear hx
 go_enter LK.func59,Try.ntmps59
 go_wp2_with fail
 refine (Jm g _ _ hb (by omega)).mono ?_
 rintro e w1 ⟨x,rfl,hx0,hx1,hB⟩
 obtain⟨i,rfl⟩:∃ i:Nat,x=i:=⟨x.toNat,by omega⟩
 have hi:i<xs.length:=by omega
 have hc:w1.cell? ⟨b,off+i,none⟩=some (.int .i64 xs[i]):=(hB.cell hg).trans (hcell i hi)
 clear hcell
 go_wp2
 go_ret
 exact⟨xs[i],rfl,List.getElem_mem hi,hB⟩
end
theorem BagAt.put {w:World} {g:Nat} (h:BagAt w g) (s:Int):BagAt (w.setCell ⟨g,0,none⟩ (.int .u64 s)) g:=by
 obtain⟨s0,hb⟩:=h
 refine⟨s,?_⟩
 simp[World.setCell,Array.getElem?_modify,hb]
def BagPost (w:World) (e:Ending) (w':World):Prop:=∃ g,e=.returned (.pointer (some ⟨g,0,none⟩))∧w.heap.size≤g∧BagAt w' g∧Below w.heap.size w w'
section
variable {fs:Array Func} [Like fs]
set_option maxRecDepth 20000 in
set_option maxHeartbeats 1000000 in
theorem newBag_any (A:Option Addr) (c:Nat) (xs:List Int) (w:World) (hx:L.Ints w w.heap.size A xs) (hl:xs.length≤9223372036854775807) :
  Calls (Pf fs) 17 #[.slice A xs.length c] w (BagPost w):=by
 have hX:=Lib.hid hx
 clear hx
 go_enter LK.func17,Try.ntmps17
 go_wp2_with fail
 go_loopw [4] (fun i wr=>∃ k:Nat,k≤xs.length∧i=.int .i64 k∧BagAt wr w.heap.size∧Below w.heap.size w wr) (fun i _=>xs.length-(intOf i).toNat)
 case atStart=>exact⟨0,by omega,rfl,⟨_,heap_alloc_new w _⟩,(Below.refl _ _).alloc (Nat.le_refl _) _⟩
 case round =>
  obtain⟨k,hk,rfl,hB,hb⟩:=hrel
  by_cases hlt:k<xs.length
  ·obtain⟨s,hcs,hcf⟩:=hB.cell
   obtain⟨b,off,hA,hbb,hcx⟩:=hX.out k xs[k] (List.getElem?_eq_getElem hlt)
   have hcx':=(hb.cell (p:=⟨b,off+k,none⟩) hbb).trans hcx
   have hki:(k:Int)<(xs.length:Int):=by omega
   have hne:b≠w.heap.size:=by omega
   generalize xs[k]=x at hcx hcx'
   clear hcx
   subst hA
   go_wp2_with fail
   refine wp_region_still_tail 14 (by kernel_rfl) (by kernel_rfl) ?_
   simp only[List.take_succ_cons,List.take_zero,List.drop_succ_cons,List.drop_zero]
   change wpStill _ _ (World.drew _) (fun a'=>wpList _ _ _ _ a' (World.drew _)) _ _
   repeat still_step
   refine wpStill_nil ?_
   go_wp2_with fail
   refine wp_region_still_tail 13 (by kernel_rfl) (by kernel_rfl) ?_
   simp only[List.take_succ_cons,List.take_zero,List.drop_succ_cons,List.drop_zero]
   change wpStill _ _ (World.drew _) (fun a'=>wpList _ _ _ _ a' (World.drew _)) _ _
   repeat still_step
   refine wpStill_nil ?_
   go_wp2_with fail
   exact⟨⟨k+1,by omega,by simp,(((hB.put _).put _).drew).drew,((((hb.setCell (p:=⟨w.heap.size,0,none⟩) (Nat.le_refl _) _).setCell (p:=⟨w.heap.size,0,none⟩) (Nat.le_refl _) _).drew).drew)⟩,by simp only[intOf];omega⟩
  ·obtain rfl:k=xs.length:=by omega
   go_wp2_with fail
   go_ret
   exact⟨_,rfl,Nat.le_refl _,hB,hb⟩
end
end
end Go.Gal
