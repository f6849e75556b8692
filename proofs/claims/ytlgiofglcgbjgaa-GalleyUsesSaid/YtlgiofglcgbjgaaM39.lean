/- Walks: KitchenOf (printed by gen_kof.py). -/
import Derived.Test.YtlgiofglcgbjgaaM38
namespace Go.Gal
open Go Go.Par Go.Proofs Go.RowKit
theorem zea {w:World} {base e size n:Nat} {A:Option Addr} {c:Nat} {xs:List Value} (h:w.ownsRow base e size (.slice A n c) n xs):n≤c:=by
 rcases h.2 with ⟨q,_⟩|⟨g,cap,cur,hv,hg,hh,hn,hm,hsz,htk⟩
 ·injection q with _ q1 q2
  omega
 ·injection hv with _ _ hcc
  omega
theorem RecList.cap {α : Type} {e size:Nat} {enc : α→Option Addr→Nat→List Value} {inn : α→List Int} {w:World} {base top c:Nat} {A:Option Addr} {xs:List α} (h:RecList e size enc inn w base top A c xs):xs.length≤c:=by
 obtain⟨_,_,_,h1,_⟩:=h
 exact zea h1
section
variable {fs:Array Func} [Like fs]
theorem Kb.row {g:Nat} {w w' w2:World} {row:Option Nat} (h:Kb g w w') (hg:w'.grownBy w2 row) (hr:∀ k,row=some k→w.heap.size≤k∧k≠g):Kb g w w2:=
 ⟨h.bag.of_block (hg.block g h.bag.lt fun e=>(hr g e.symm).2 rfl),h.ke.row hg fun k hk=>.inr (hr k hk).1⟩
theorem Kb.setCell {g:Nat} {w w':World} {p:Addr} (h:Kb g w w') (hp:w.heap.size≤p.block) (hg:p.block≠g) (u:Value):Kb g w (w'.setCell p u):=⟨h.bag.setCell (fun e=>hg e.symm) u,h.ke.setCell (.inr hp) u⟩
theorem Yt {g:Nat} {w w2:World} {base:Nat} {A:Option Addr} {c:Nat} {xs:List Int} (h:L.OwnInts w base A c xs) (hb:BagAt w g) (k:Kb g w w2):L.OwnInts w2 base A c xs:=
 jc h fun b hk hl=>k.ke.same b hl (by
  obtain⟨cs,q⟩:=yr h hk
  exact hb.tag q (by decide))
theorem ints1 {w:World} {x:Int} : L.Ints (w.alloc (.cells #[.int .i64 x] 3)) (w.heap.size+1) (some ⟨w.heap.size,0,none⟩) [x]:=fun k y hk=>by
 obtain⟨b,off,e,h⟩:=qn (xs:=[x]) (heap_alloc_new w (.cells #[.int .i64 x] 3)) k y hk
 injection e with e
 injection e with e1 e2
 subst e1 e2
 exact⟨_,_,rfl,by omega,h⟩
theorem JT (g n:Nat) (xs:List Int) (w w1:World) {b:Nat} (hbk:b=w1.heap.size) (hK:Kb g w w1) (h0 : 0<xs.length) (h1:xs.length≤1000) (hn:xs.length=n) :
  Calls (Pf fs) 59 #[.pointer (some ⟨g,0,none⟩),.slice (some ⟨b,0,none⟩) n n] (w1.alloc (.cells (xs.map (Value.int .i64)).toArray 3)) fun e w'=>∃ x:Int,e=.returned (.int .i64 x)∧x∈xs∧Kb g w w':=by
 subst hn hbk
 have hx:L.Ints (w1.alloc (.cells (xs.map (Value.int .i64)).toArray 3)) (w1.alloc (.cells (xs.map (Value.int .i64)).toArray 3)).heap.size (some ⟨w1.heap.size,0,none⟩) xs:=fun k x hk=>by
  obtain⟨b,off,e,h⟩:=qn (heap_alloc_new w1 (.cells (xs.map (Value.int .i64)).toArray 3)) k x hk
  exact⟨b,off,e,by have:=qw h;exact this,h⟩
 exact (one_any g w1.heap.size 0 xs.length xs _ (hK.bag.alloc _) hx (by have:=hK.bag.lt;omega) h0 (by omega)).mono fun e w' ⟨x,e1,h2,hB⟩=>⟨x,e1,h2,(hK.grown (Grown.alloc _ _)).bagged hB⟩
def KDealt (g:Nat) (goods room hauls:Nat) (w:World) (e:Ending) (w':World):Prop:=∃ (K:Kt) (gA:Option Addr) (gc:Nat) (dA:Option Addr) (dc:Nat) (hA:Option Addr) (hc:Nat),e=.returned (ktV K gA dA hA gc dc hc)∧KtAt w' K gA dA hA∧Kb g w w' ∧
 (1≤K.goods.length∧K.goods.length≤goods∧∀ x∈K.goods,GdOk room x)∧(1≤K.dishes.length∧K.dishes.length≤3∧∀ x∈K.dishes,DsOk K.goods.length x)∧(1≤K.hauls.length∧K.hauls.length≤hauls∧∀ x∈K.hauls,HlOk K.goods.length x)∧K.hauls.length≤hc
set_option maxRecDepth 20000 in
set_option maxHeartbeats 8000000 in
theorem kitchenOf_any (g goods room hauls:Nat) (w:World) (hb:BagAt w g) (hg1 : 1≤goods) (hg3:goods≤3) (hr1 : 4≤room) (hr20:room≤20) (hh1 : 1≤hauls) (hh5:hauls≤5) :
  Calls (Pf fs) 18 #[.pointer (some ⟨g,0,none⟩),.int .i64 goods,.int .i64 room,.int .i64 hauls] w (KDealt g goods room hauls w):=by
 have hg:=hb.lt
 have hst:KSt g w ((w.alloc (.cells #[.slice none 0 0,.slice none 0 0,.slice none 0 0] 29)).alloc (.cells #[.slice none 0 0,.slice none 0 0,.slice none 0 0] 29)) 0 [] none 0 [] none 0 [] none 0:=by
  refine⟨?_,?_,RecList.nil,RecList.nil,RecList.nil,((Kb.refl hb).grown (Grown.alloc _ _)).grown (Grown.alloc _ _),by simp,by simp⟩
  ·have:=heap_alloc_new (w.alloc (.cells #[.slice none 0 0,.slice none 0 0,.slice none 0 0] 29)) (.cells #[.slice none 0 0,.slice none 0 0,.slice none 0 0] 29)
   simpa using this
  ·rw[Below.heap_alloc _ _ _ (by simp)]
   exact heap_alloc_new w _
 have HST:=Lib.hid hst
 clear hst
 go_enter LK.func18,Try.ntmps18
 go_wp2_with (go_at_call 51;refine (ym g _ _ _ HST.out.kb.bag (by omega) (by omega) (by omega) (by omega)).mono ?_;rintro e w1 ⟨n1,rfl,hn1,hn2,hB1⟩;have HST1:=Lib.hid (HST.out.to (Kb.of_bagged HST.out.kb.bag hB1));clear HST hB1)
 obtain⟨n1,rfl⟩:∃ n:Nat,n1=n:=⟨n1.toNat,by omega⟩
 go_loopw [10] (fun i wr=>∃ (k:Nat) (gs:List Gd) (gA:Option Addr) (gc tp:Nat),i=.int .i64 k∧Hid (KSt g w wr tp gs gA gc [] none 0 [] none 0)∧Hid (∀ x∈gs,GdOk room x)∧1≤k+gs.length∧k+gs.length≤goods) (fun i _=>(intOf i).toNat)
 case atStart=>exact⟨n1,[],none,0,_,rfl,HST1.out,(fun x h=>by simp at h),by simp;omega,by simp;omega⟩
 case round =>
  obtain⟨k,gs,gA,gc,tp,rfl,HS,HOK,hk1,hk2⟩:=hrel
  clear HST1 hn1 hn2
  by_cases hk0 : 0<k
  ·have hki:(0:Int)<(k:Int):=by omega
   obtain⟨H,hH⟩:∃ H,H=wr.heap.size:=⟨_,rfl⟩
   have hm:(1:Int)<(room:Int) / 2:=by omega
   have hm2:¬ ((room:Int) / 2≤1):=by omega
   have hS0:=Lib.hid (Kb.refl HS.out.kb.bag)
   go_wp2_with (first|(go_at_call 51;refine (ym g _ _ _ hS0.out.bag (by omega) (by omega) (by omega) (by omega)).mono ?_;rintro e w2 ⟨r,rfl,hr2,hr3,hB2⟩;have hS1:=Lib.hid (hS0.out.bagged hB2);clear hS0 hB2)|(go_at_call 51;refine (ym g _ _ _ hS1.out.bag (by omega) (by omega) (by omega) (by omega)).mono ?_;rintro e w3 ⟨m,rfl,hm3,hm4,hB3⟩;have hS2:=Lib.hid (hS1.out.bagged hB3);clear hS1 hB3)|(go_at_call 59;refine (JT g 3 [0,0,m] _ _ rfl hS2.out (by simp) (by simp) rfl).mono ?_;rintro e w4 ⟨ml,rfl,hml,hS3⟩;have hS4:=Lib.hid hS3;clear hS2 hS3))
   have hT0:((w4.alloc (.cells #[.int .i64 r,.int .i64 0,.int .i64 ml,.int .i64 0] 42)).drew).heap[w4.heap.size]?=some (.cells #[.int .i64 r,.int .i64 0,.int .i64 ml,.int .i64 0] 42 (0,0)):=heap_alloc_new w4 _
   have HT0:=Lib.hid hT0
   have hS:((w4.alloc (.cells #[.int .i64 r,.int .i64 0,.int .i64 ml,.int .i64 0] 42)).drew).cell? ⟨w4.heap.size,0,none⟩=some (.int .i64 r):=za hT0 0
   have hr0:(2:Int)≤r:=by omega
   have hr9:¬ (r<2):=by omega
   have HV:=Lib.hid (show Kb g ((w4.alloc (.cells #[.int .i64 r,.int .i64 0,.int .i64 ml,.int .i64 0] 42)).drew) ((w4.alloc (.cells #[.int .i64 r,.int .i64 0,.int .i64 ml,.int .i64 0] 42)).drew) from Kb.refl ((hS4.out.bag.alloc _).drew))
   have HV0:=Lib.hid (show Kb g wr ((w4.alloc (.cells #[.int .i64 r,.int .i64 0,.int .i64 ml,.int .i64 0] 42)).drew) from ⟨(hS4.out.bag.alloc _).drew,(hS4.out.ke.alloc _).drew⟩)
   have HL4:=Lib.hid (show w4.heap.size<((w4.alloc (.cells #[.int .i64 r,.int .i64 0,.int .i64 ml,.int .i64 0] 42)).drew).heap.size∧w4.heap.size≠g by refine⟨by show _<(w4.alloc _).heap.size;simp,?_⟩;have:=hS4.out.bag.lt;omega)
   have HK:=Lib.hid (And.intro hk1 hk2)
   clear hT0 hm hk1 hk2
   refine qh (by kernel_rfl) (fun W=>W.cell? ⟨w4.heap.size,0,none⟩=some (.int .i64 r)) [] ?_
   refine zh 0 ?_ rfl ?_ ?_;case refine_2=>(intro w _;go_simp;try rfl)
   refine zh 1 ?_ rfl ?_ ?_;case refine_2=>(intro w _;go_simp;try rfl)
   refine zx 2 ?_ rfl hS ?_ ?_;case refine_2=>(intro w hSw;(try dsimp only at hSw);go_simp;try rfl)
   refine zh 3 ?_ rfl ?_ ?_;case refine_2=>(intro w _;go_simp;try rfl)
   refine zh 6 ?_ rfl ?_ ?_;case refine_2=>(intro w _;go_simp;try rfl)
   refine zh 7 ?_ rfl ?_ ?_;case refine_2=>(intro w _;go_simp;try rfl)
   refine zx 8 ?_ rfl hS ?_ ?_;case refine_2=>(intro w hSw;(try dsimp only at hSw);go_simp;try rfl)
   refine zw (i:=4) rfl (by kernel_rfl) ?_
   intro Kq hKq
   go_simp
   refine hKq.out _ _ (show ((w4.alloc _).drew.alloc _).cell? _=_ from cell_alloc _ hS) (fun _=>?_)
   clear hKq Kq hS
   refine zw (i:=5) rfl (by kernel_rfl) ?_
   intro Kq hKq
   go_simp
   have h59:=JT (fs:=fs) g 4 [0,0,1,2] _ _ (b:=w4.heap.size+1) (by show _=(w4.alloc _).heap.size;simp) HV.out (by simp) (by simp) rfl
   have H59:=Lib.hid h59
   clear h59
   refine H59.out.mono ?_
   rintro e w5 ⟨rs,rfl,hrs,hK5⟩
   have hb5:=hK5.ke.block HT0.out HL4.out.2
   have HB5:=Lib.hid hb5
   have HV5:=Lib.hid (HV0.out.trans hK5)
   have hS:w5.cell? ⟨w4.heap.size,0,none⟩=some (.int .i64 r):=za hb5 0
   clear H59 HV HV0 hK5 hb5 HT0
   refine hKq.out _ _ hS (fun _=>?_)
   clear hKq Kq
   refine zh 10 ?_ rfl ?_ ?_;case refine_2=>(intro w _;go_simp;try rfl)
   refine zw (i:=9) rfl (by kernel_rfl) ?_
   intro Kq hKq
   go_simp
   refine (Jm g _ _ HV5.out.bag (by omega)).mono ?_
   rintro e w6 ⟨st,rfl,hst0,hst1,hB6⟩
   have hb6:w6.heap[w4.heap.size]?=_:=(hB6.block HL4.out.2).trans HB5.out
   have HV6:=Lib.hid (HV5.out.bagged hB6)
   have hS:w6.cell? ⟨w4.heap.size,0,none⟩=some (.int .i64 r):=za hb6 0
   have HB6:=Lib.hid hb6
   clear HV5 HB5 hB6 hb6
   refine hKq.out _ _ hS (fun _=>?_)
   clear hKq Kq
   try simp only[Act.put,List.setIfInBounds_toArray,List.set_cons_zero,List.set_cons_succ]
   have c1:w6.cell? ⟨w4.heap.size,1,none⟩=some (.int .i64 0):=za HB6.out 1
   have f1:=zk HB6.out 1
   refine zw (i:=11) rfl (by kernel_rfl) ?_
   intro Kq hKq
   go_simp
   have hb7:=zR HB6.out (i:=1) (.int .i64 rs)
   simp only[List.setIfInBounds_toArray,List.set_cons_zero,List.set_cons_succ] at hb7
   have hS:(w6.setCell ⟨w4.heap.size,1,none⟩ (.int .i64 rs)).cell? ⟨w4.heap.size,0,none⟩=some (.int .i64 r):=za hb7 0
   have HB7:=Lib.hid hb7
   clear c1 f1 hb7
   refine hKq.out _ _ hS (fun _=>?_)
   clear hKq Kq
   refine zh 12 ?_ rfl ?_ ?_;case refine_2=>(intro w _;go_simp;try rfl)
   have c1:(w6.setCell ⟨w4.heap.size,1,none⟩ (.int .i64 rs)).cell? ⟨w4.heap.size,3,none⟩=some (.int .i64 0):=za HB7.out 3
   have f1:=zk HB7.out 3
   refine zw (i:=13) rfl (by kernel_rfl) ?_
   intro Kq hKq
   go_simp
   have hb8:=zR HB7.out (i:=3) (.int .i64 st)
   simp only[List.setIfInBounds_toArray,List.set_cons_zero,List.set_cons_succ] at hb8
   have hS:((w6.setCell ⟨w4.heap.size,1,none⟩ (.int .i64 rs)).setCell ⟨w4.heap.size,3,none⟩ (.int .i64 st)).cell? ⟨w4.heap.size,0,none⟩=some (.int .i64 r):=za hb8 0
   have hH4:wr.heap.size≤w4.heap.size:=hS4.out.ke.size
   have hne:g≠w4.heap.size:=fun e=>HL4.out.2 e.symm
   have hV8:Kb g wr ((w6.setCell ⟨w4.heap.size,1,none⟩ (.int .i64 rs)).setCell ⟨w4.heap.size,3,none⟩ (.int .i64 st)):=
    ⟨(HV6.out.bag.setCell (by simpa using hne) _).setCell (by simpa using hne) _,(HV6.out.ke.setCell (.inr hH4) _).setCell (.inr hH4) _⟩
   refine hKq.out _ _ hS (fun _=>?_)
   clear hKq Kq
   try simp only[Act.put,List.setIfInBounds_toArray,List.set_cons_zero,List.set_cons_succ]
   refine qd (by kernel_rfl) ?_
   generalize ((w6.setCell ⟨w4.heap.size,1,none⟩ (.int .i64 rs)).setCell ⟨w4.heap.size,3,none⟩ (.int .i64 st))=w8 at hV8 hb8 ⊢
   have HB8:=Lib.hid hb8
   have HS8:=Lib.hid (HS.out.to hV8)
   obtain⟨⟨q1,q2,q3⟩,_,_,_,_⟩:=HS8.out.facts
   have p0:=za hb8 0
   have p1:=za hb8 1
   have p2:=za hb8 2
   have p3:=za hb8 3
   simp only[List.getElem?_toArray,List.getElem?_cons_zero,List.getElem?_cons_succ] at p0 p1 p2 p3
   clear hS hV8 hb8 c1 f1 HB7 HV6 HB6 HS
   try simp only[Act.put,List.getElem_toArray,List.getElem_cons_succ,List.getElem_cons_zero,List.setIfInBounds_toArray,List.set_cons_zero,List.set_cons_succ]
   have hs9:=HS8.out.to ((Kb.refl HS8.out.kb.bag).grown (Grown.alloc w8 (.cells #[.int .i64 r,.int .i64 rs,.int .i64 ml,.int .i64 st] 42)))
   have hn9:=heap_alloc_new w8 (.cells #[.int .i64 r,.int .i64 rs,.int .i64 ml,.int .i64 st] 42)
   have HS9:=Lib.hid hs9
   have HN9:=Lib.hid hn9
   clear hs9 hn9 HS8
   go_wp2_with (at_builtin;refine jR rfl (.tmp 50) (.tmp 52) 25 rfl ((like_under 25).trans Try.underlying25) _ 32 inf42 rfl (by decide) (by decide) rfl HS9.out.r1 w8.heap.size 1 rfl ⟨r,rs,ml,st⟩ none 0 _ 42 HN9.out rfl rfl (by intro u hu;simp[encG] at hu;rcases hu with rfl|rfl|rfl|rfl<;>rfl) (L.OwnInts.nil _ _) (by intro k h;cases h) (by decide) (by have:=HK.out;omega) HS9.out.big HS9.out.top ?_;intro A2 c2 w9 hR9 hg9;obtain⟨⟨x1,x2⟩,x3⟩:=HS9.out.put1 hg hR9 hg9;have HX:=Lib.hid x3;clear x3 hR9 hg9)
   obtain⟨kk1,kk2⟩:=HK.out
   have hw:wrap64 ((k:Int)-1)=((k-1:Nat):Int):=by rw[IntWalk.wrap64_in _ ⟨by omega,by omega⟩];omega
   rw[hw]
   refine⟨⟨k-1,gs++[⟨r,rs,ml,st⟩],A2,c2,_,rfl,HX,fun x hx=>?_,by simp;omega,by simp;omega⟩,by simp[intOf];omega⟩
   rw[List.mem_append] at hx
   rcases hx with hx|hx
   ·exact HOK.out x hx
   ·simp only[List.mem_singleton] at hx
    subst hx
    simp only[List.mem_cons,List.not_mem_nil,or_false] at hrs hml
    exact⟨⟨by show 1≤r;omega,by show r≤_;omega⟩,⟨by show 0≤rs;omega,by show rs≤r;omega⟩,⟨by show 0≤ml;omega,by show ml≤6;omega⟩,⟨hst0,by show st≤r;omega⟩⟩
  ·obtain rfl:k=0:=by omega
   have HK:=Lib.hid (And.intro hk1 hk2)
   clear hk1 hk2 hk0
   go_wp2_with (go_at_call 51;refine (ym g _ _ _ HS.out.kb.bag (by omega) (by omega) (by omega) (by omega)).mono ?_;rintro e w2 ⟨n2,rfl,hn1,hn2,hB2⟩;have HST2:=Lib.hid (HS.out.to (Kb.of_bagged HS.out.kb.bag hB2));clear HS hB2)
   obtain⟨n2,rfl⟩:∃ n:Nat,n2=n:=⟨n2.toNat,by omega⟩
   go_loopw [12] (fun i wr=>∃ (k:Nat) (ds:List (List Int)) (dA:Option Addr) (dc tp:Nat),i=.int .i64 k∧Hid (KSt g w wr tp gs gA gc ds dA dc [] none 0)∧Hid (∀ x∈ds,DsOk gs.length x)∧1≤k+ds.length∧k+ds.length≤3) (fun i _=>(intOf i).toNat)
   case atStart=>exact⟨n2,[],none,0,_,rfl,HST2.out,(fun x h=>by simp at h),by simp;omega,by simp;omega⟩
   case round =>
    obtain⟨k,ds,dA,dc,tp2,rfl,HS,HOK2,hk1,hk2⟩:=hrel
    clear HST2 hn1 hn2
    obtain⟨w0,rfl⟩:∃ w0,w0=wr:=⟨_,rfl⟩
    by_cases hk0 : 0<k
    ·have hki:(0:Int)<(k:Int):=by omega
     have HK2:=Lib.hid (And.intro hk1 hk2)
     clear hk1 hk2
     have hV0:Kb g (w0.alloc (.cells #[.slice none 0 0] 48)) (w0.alloc (.cells #[.slice none 0 0] 48)):=Kb.refl (HS.out.kb.bag.alloc _)
     have HV0:=Lib.hid hV0
     have HD0:=Lib.hid (heap_alloc_new w0 (.cells #[.slice none 0 0] 48))
     clear hV0
     go_wp2_with fail
     go_loopw [14] (fun i W=>∃ (xs:List Int) (nA:Option Addr) (nc:Nat),i=.int .i64 xs.length∧Hid (W.heap[w0.heap.size]?=some (.cells #[.slice nA xs.length nc] 48 (0,0)))∧Hid (L.OwnInts W (w0.heap.size+1) nA nc xs)∧Hid (Kb g w0 W)∧w0.heap.size+1≤W.heap.size∧xs.length≤gs.length∧Hid (∀ x∈xs,0≤x∧x≤3)) (fun i _=>gs.length-(intOf i).toNat)
     case atStart=>exact⟨[],none,0,rfl,HD0.out,L.OwnInts.nil _ _,(Kb.refl HS.out.kb.bag).grown (Grown.alloc _ _),by simp,by simp,fun x h=>by simp at h⟩
     case round =>
      obtain⟨xs,nA,nc,rfl,HD,HO,HV,hD1,hxl,HX⟩:=hrel
      obtain⟨⟨q1,_,_⟩,_,_,_,_⟩:=(HS.out.to HV.out).facts
      have hgl:gs.length≤3:=by have:=HK.out;omega
      by_cases hlt:xs.length<gs.length
      ·have hli:(xs.length:Int)<(gs.length:Int):=by omega
       go_wp2_with fail
       have hS:wr.drew.cell? ⟨w0.heap.size,0,none⟩=some (.slice nA xs.length nc):=za (w:=wr.drew) HD.out 0
       have HV1:=Lib.hid (show Kb g w0 wr.drew from ⟨HV.out.bag.drew,HV.out.ke.drew⟩)
       have HO1:=Lib.hid (show L.OwnInts wr.drew (w0.heap.size+1) nA nc xs from HO.out)
       have HD1:=Lib.hid (show wr.drew.heap[w0.heap.size]?=some (.cells #[.slice nA xs.length nc] 48 (0,0)) from HD.out)
       have hgD:w0.heap.size≠g:=HV.out.bag.tag HD.out (by decide)
       clear HV HO HD q1 hli
       refine qh (by kernel_rfl) (fun W=>W.cell? ⟨w0.heap.size,0,none⟩=some (.slice nA xs.length nc)) [10] ?_
       refine zh 0 ?_ rfl ?_ ?_;case refine_2=>(intro w _;go_simp;try rfl)
       refine zx 1 ?_ rfl hS ?_ ?_;case refine_2=>(intro w hSw;(try dsimp only at hSw);go_simp;try rfl)
       refine zh 2 ?_ rfl ?_ ?_;case refine_2=>(intro w _;go_simp;try rfl)
       refine zh 3 ?_ rfl ?_ ?_;case refine_2=>(intro w _;go_simp;try rfl)
       refine zw (i:=4) rfl (by kernel_rfl) ?_
       intro Kq hKq
       go_simp
       refine (Jm g _ _ HV1.out.bag (by omega)).mono ?_
       rintro e w5 ⟨u,rfl,hu0,hu1,hB5⟩
       have k5:=Kb.of_bagged HV1.out.bag hB5
       have HO5:=Lib.hid (Yt HO1.out HV1.out.bag k5)
       have HD5:=Lib.hid (k5.ke.block HD1.out hgD)
       have HV5:=Lib.hid (HV1.out.trans k5)
       have hS:w5.cell? ⟨w0.heap.size,0,none⟩=some (.slice nA xs.length nc):=za HD5.out 0
       clear HO1 HD1 HV1 k5 hB5
       refine hKq.out _ _ hS (fun _=>?_)
       clear hKq Kq
       refine zw (i:=5) rfl (by kernel_rfl) ?_
       intro Kq hKq
       go_simp
       refine hKq.out _ _ (cell_alloc _ hS) (fun _=>?_)
       clear hKq Kq hS
       refine zw (i:=6) rfl (by kernel_rfl) ?_
       intro Kq hKq
       go_simp
       refine (JT (fs:=fs) g 4 [0,1,1,u] w5 w5 rfl (Kb.refl HV5.out.bag) (by simp) (by simp) rfl).mono ?_
       rintro e w6 ⟨v,rfl,hv,k6⟩
       have HO6:=Lib.hid (Yt HO5.out HV5.out.bag k6)
       have HD6:=Lib.hid (k6.ke.block HD5.out hgD)
       have HV6:=Lib.hid (HV5.out.trans k6)
       have hS:w6.cell? ⟨w0.heap.size,0,none⟩=some (.slice nA xs.length nc):=za HD6.out 0
       clear HO5 HD5 HV5 k6
       refine hKq.out _ _ hS (fun _=>?_)
       clear hKq Kq
       refine zw (i:=7) rfl (by kernel_rfl) ?_
       intro Kq hKq
       go_simp
       refine hKq.out _ _ (cell_alloc _ hS) (fun _=>?_)
       clear hKq Kq hS
       refine zw (i:=8) rfl (by kernel_rfl) ?_
       intro Kq hKq
       rw[if_pos (by rfl)]
       have hD6:=HD6.out
       have hsz6:w0.heap.size+1≤(w6.alloc (.cells #[.int .i64 v] 3)).heap.size:=by have:=zj hD6;simp;omega
       refine Qq (.tmp 69) (.tmp 75) 22 rfl (w0.heap.size+1) ((like_under 22).trans Try.underlying22) inf3 nA nc xs rfl (qr HO6.out (Grown.alloc _ _)) (w6.heap.size+1) (some ⟨w6.heap.size,0,none⟩) 1 [v] rfl ints1 (by simp;omega) hsz6 ?_
       intro A2 c2 w8 hO8 hg8 hat8
       have hlow:∀ k,(Value.slice nA xs.length nc).ownBlock=some k→w0.heap.size+1≤k:=fun k hk=>(zV HO6.out hk).1
       have hD8:w8.heap[w0.heap.size]?=some (.cells #[.slice nA xs.length nc] 48 (0,0)):=(hg8.block _ (by simp;have:=zj hD6;omega) (fun e=>by have:=hlow _ e.symm;omega)).trans (zt hD6 _)
       have hV8:Kb g w0 w8:=(HV6.out.grown (Grown.alloc _ _)).row hg8 fun k hk=>⟨by have:=hlow k hk;omega,fun e=>by
        subst e
        obtain⟨cs,q⟩:=yr HO6.out hk
        exact HV6.out.bag.tag q (by decide) rfl⟩
       have hS:w8.cell? ⟨w0.heap.size,0,none⟩=some (.slice nA xs.length nc):=za hD8 0
       have HD8:=Lib.hid hD8
       have HV8:=Lib.hid hV8
       have HO8:=Lib.hid hO8
       have HW8:=Lib.hid (show w0.heap.size+1≤w8.heap.size from zj hD8)
       clear hD6 hsz6 hlow hD8 hV8 hO8 HD6 HV6 HO6 hg8 hat8
       refine hKq.out _ _ hS (fun _=>?_)
       clear hKq Kq
       refine zh 9 ?_ rfl ?_ ?_;case refine_2=>(intro w _;go_simp;try rfl)
       have f1:=zk HD8.out 0
       refine qx (i:=10) rfl (by kernel_rfl) (by rfl) ?_
       intro Kq hKq
       go_simp
       refine hKq.out _ _ ?_
       clear hKq Kq
       try simp only[Act.put,List.setIfInBounds_toArray,List.set_cons_zero,List.set_cons_succ]
       refine qd (by kernel_rfl) ?_
       try simp only[Act.put,List.getElem_toArray,List.getElem_cons_succ,List.getElem_cons_zero,List.setIfInBounds_toArray,List.set_cons_zero,List.set_cons_succ]
       clear hS f1
       have hN:((w8.setCell ⟨w0.heap.size,0,none⟩ (.slice A2 (xs++[v]).length c2)).heap[w0.heap.size]?=some (.cells #[.slice A2 (xs++[v]).length c2] 48 (0,0)))∧L.OwnInts (w8.setCell ⟨w0.heap.size,0,none⟩ (.slice A2 (xs++[v]).length c2)) (w0.heap.size+1) A2 c2 (xs++[v])∧Kb g w0 (w8.setCell ⟨w0.heap.size,0,none⟩ (.slice A2 (xs++[v]).length c2)):=
        ⟨zR HD8.out _,jc HO8.out fun k hk _=>Below.heap_setCell _ _ _ _ (by have:=(zV HO8.out hk).1;simp only;omega),HV8.out.setCell (Nat.le_refl _) hgD _⟩
       have HN:=Lib.hid hN
       clear hN
       have hszN:w0.heap.size+1≤(w8.setCell ⟨w0.heap.size,0,none⟩ (.slice A2 (xs++[v]).length c2)).heap.size:=by rw[zv];exact HW8.out
       go_wp2_with fail
       rw[show xs.length+1=(xs++[v]).length by simp]
       refine⟨⟨xs++[v],A2,c2,by simp,HN.out.1,HN.out.2.1,HN.out.2.2,hszN,by simp;omega,fun x hx=>?_⟩,by simp[intOf];omega⟩
       rw[List.mem_append] at hx
       rcases hx with hx|hx
       ·exact HX.out x hx
       ·simp only[List.mem_singleton] at hx
        subst hx
        simp only[List.mem_cons,List.not_mem_nil,or_false] at hv
        omega
      ·have hxe:xs.length=gs.length:=by omega
       have hli:¬ (xs.length:Int)<(gs.length:Int):=by omega
       have hs9:=HS.out.to (HV.out.grown (Grown.alloc wr (.cells #[.slice nA xs.length nc] 48)))
       have hn9:=heap_alloc_new wr (.cells #[.slice nA xs.length nc] 48)
       obtain⟨⟨_,q2,_⟩,_,_,_,_⟩:=(HS.out.to HV.out).facts
       have p0:wr.cell? ⟨w0.heap.size,0,none⟩=some (.slice nA xs.length nc):=za HD.out 0
       have HS9:=Lib.hid hs9
       have HN9:=Lib.hid hn9
       have hO9:L.OwnInts (wr.alloc (.cells #[.slice nA xs.length nc] 48)) (w.heap.size+2) nA nc xs:=qS (qr HO.out (Grown.alloc _ _)) (by have:=HS.out.big;omega)
       have HO9:=Lib.hid hO9
       have hT9:∀ k,nA.map (·.block)=some k→tp2≤k:=fun k hk=>by
        have h1:=(zV HO.out (by rw[qu];exact hk)).1
        have h2:=HS.out.top
        omega
       have HT9:=Lib.hid hT9
       have HXE:=Lib.hid hxe
       clear hs9 hn9 hO9 hT9 HD HO HV hlt HV0 HD0 hxe
       go_wp2_with (at_builtin;refine jR rfl (.tmp 79) (.tmp 81) 26 rfl ((like_under 26).trans Try.underlying26) _ 24 inf48 rfl (by decide) (by decide) rfl HS9.out.r2 wr.heap.size 1 rfl xs nA nc _ 48 HN9.out rfl rfl (by intro u hu;simp[encD] at hu;subst hu;rfl) HO9.out HT9.out (by decide) (by have:=HK2.out;omega) HS9.out.big HS9.out.top ?_;intro A2 c2 w9 hR9 hg9;obtain⟨⟨x1,x2⟩,x3⟩:=HS9.out.put2 hg hR9 hg9;have HX3:=Lib.hid x3;clear x3 hR9 hg9)
       obtain⟨kk1,kk2⟩:=HK2.out
       have hw:wrap64 ((k:Int)-1)=((k-1:Nat):Int):=by rw[IntWalk.wrap64_in _ ⟨by omega,by omega⟩];omega
       rw[hw]
       refine⟨⟨k-1,ds++[xs],A2,c2,_,rfl,HX3,fun x hx=>?_,by simp;omega,by simp;omega⟩,by simp[intOf];omega⟩
       rw[List.mem_append] at hx
       rcases hx with hx|hx
       ·exact HOK2.out x hx
       ·simp only[List.mem_singleton] at hx
        subst hx
        exact⟨HXE.out,HX.out⟩
    ·obtain rfl:k=0:=by omega
     have HK2:=Lib.hid (And.intro hk1 hk2)
     clear hk1 hk2 hk0
     go_wp2_with (go_at_call 51;refine (ym g _ _ _ HS.out.kb.bag (by omega) (by omega) (by omega) (by omega)).mono ?_;rintro e w2 ⟨n3,rfl,hn1,hn2,hB2⟩;have HST3:=Lib.hid (HS.out.to (Kb.of_bagged HS.out.kb.bag hB2));clear HS hB2)
     obtain⟨n3,rfl⟩:∃ n:Nat,n3=n:=⟨n3.toNat,by omega⟩
     go_loopw [15] (fun i wr=>∃ (k:Nat) (hs:List Hl) (hA:Option Addr) (hc tp:Nat),i=.int .i64 k∧Hid (KSt g w wr tp gs gA gc ds dA dc hs hA hc)∧Hid (∀ x∈hs,HlOk gs.length x)∧1≤k+hs.length∧k+hs.length≤hauls) (fun i _=>(intOf i).toNat)
     case atStart=>exact⟨n3,[],none,0,_,rfl,HST3.out,(fun x h=>by simp at h),by simp;omega,by simp;omega⟩
     case round =>
      obtain⟨k,hs,hA,hc,tp3,rfl,HS,HOK3,hk1,hk2⟩:=hrel
      clear HST3 hn1 hn2
      obtain⟨w0,rfl⟩:∃ w0,w0=wr:=⟨_,rfl⟩
      by_cases hk0 : 0<k
      ·have hki:(0:Int)<(k:Int):=by omega
       have HK3:=Lib.hid (And.intro hk1 hk2)
       clear hk1 hk2
       have hS0:=Lib.hid (Kb.refl HS.out.kb.bag)
       go_wp2_with (first|(go_at_call 27;refine (Jm g _ _ hS0.out.bag (by omega)).mono ?_;rintro e w2 ⟨hr,rfl,hhr1,hhr2,hB2⟩;have hS1:=Lib.hid (hS0.out.bagged hB2);clear hS0 hB2)|(go_at_call 27;refine (Jm g _ _ hS1.out.bag (by omega)).mono ?_;rintro e w3 ⟨m,rfl,hm3,hm4,hB3⟩;have hS2:=Lib.hid (hS1.out.bagged hB3);clear hS1 hB3)|(go_at_call 59;refine (JT g 4 [0,1,2,m] _ _ rfl hS2.out (by simp) (by simp) rfl).mono ?_;rintro e w4 ⟨cv,rfl,hcv,hS3⟩;have hS4:=Lib.hid hS3;have HD0:=Lib.hid (heap_alloc_new w4 (.cells #[.int .i64 hr,.int .i64 cv,.slice none 0 0] 46));have HW0:=Lib.hid hS3.ke.size;clear hS2 hS3))
       go_loopw [17] (fun i W=>∃ (xs:List Int) (nA:Option Addr) (nc:Nat),i=.int .i64 xs.length∧Hid (W.heap[w4.heap.size]?=some (.cells #[.int .i64 hr,.int .i64 cv,.slice nA xs.length nc] 46 (0,0)))∧Hid (L.OwnInts W (w4.heap.size+1) nA nc xs)∧Hid (Kb g w0 W)∧w4.heap.size+1≤W.heap.size∧xs.length≤gs.length∧Hid (∀ x∈xs,0≤x∧x≤9)) (fun i _=>gs.length-(intOf i).toNat)
       case atStart=>exact⟨[],none,0,rfl,HD0.out,L.OwnInts.nil _ _,hS4.out.grown (Grown.alloc _ _),by simp,by simp,fun x h=>by simp at h⟩
       case round =>
        obtain⟨xs,nA,nc,rfl,HD,HO,HV,hD1,hxl,HX⟩:=hrel
        obtain⟨⟨q1,_,_⟩,_,_,_,_⟩:=(HS.out.to HV.out).facts
        have hgl:gs.length≤3:=by have:=HK.out;omega
        by_cases hlt:xs.length<gs.length
        ·have hli:(xs.length:Int)<(gs.length:Int):=by omega
         go_wp2_with fail
         have hS:wr.drew.cell? ⟨w4.heap.size,2,none⟩=some (.slice nA xs.length nc):=za (w:=wr.drew) HD.out 2
         have HV1:=Lib.hid (show Kb g w0 wr.drew from ⟨HV.out.bag.drew,HV.out.ke.drew⟩)
         have HO1:=Lib.hid (show L.OwnInts wr.drew (w4.heap.size+1) nA nc xs from HO.out)
         have HD1:=Lib.hid (show wr.drew.heap[w4.heap.size]?=some (.cells #[.int .i64 hr,.int .i64 cv,.slice nA xs.length nc] 46 (0,0)) from HD.out)
         have hgD:w4.heap.size≠g:=HV.out.bag.tag HD.out (by decide)
         clear HV HO HD q1 hli
         refine qh (by kernel_rfl) (fun W=>W.cell? ⟨w4.heap.size,2,none⟩=some (.slice nA xs.length nc)) [12] ?_
         refine zh 0 ?_ rfl ?_ ?_;case refine_2=>(intro w _;go_simp;try rfl)
         refine zx 1 ?_ rfl hS ?_ ?_;case refine_2=>(intro w hSw;(try dsimp only at hSw);go_simp;try rfl)
         refine zh 2 ?_ rfl ?_ ?_;case refine_2=>(intro w _;go_simp;try rfl)
         refine zh 3 ?_ rfl ?_ ?_;case refine_2=>(intro w _;go_simp;try rfl)
         refine zh 5 ?_ rfl ?_ ?_;case refine_2=>(intro w _;go_simp;try rfl)
         refine zw (i:=4) rfl (by kernel_rfl) ?_
         intro Kq hKq
         go_simp
         refine (ym g _ _ _ HV1.out.bag (by omega) (by omega) (by omega) (by omega)).mono ?_
         rintro e w5 ⟨u,rfl,hu0,hu1,hB5⟩
         have k5:=Kb.of_bagged HV1.out.bag hB5
         have HO5:=Lib.hid (Yt HO1.out HV1.out.bag k5)
         have HD5:=Lib.hid (k5.ke.block HD1.out hgD)
         have HV5:=Lib.hid (HV1.out.trans k5)
         have hS:w5.cell? ⟨w4.heap.size,2,none⟩=some (.slice nA xs.length nc):=za HD5.out 2
         clear HO1 HD1 HV1 k5 hB5
         refine hKq.out _ _ hS (fun _=>?_)
         clear hKq Kq
         refine zw (i:=6) rfl (by kernel_rfl) ?_
         intro Kq hKq
         go_simp
         refine (ym g _ _ _ HV5.out.bag (by omega) (by omega) (by omega) (by omega)).mono ?_
         rintro e w6 ⟨u2,rfl,hu2,hu3,hB6⟩
         have k6:=Kb.of_bagged HV5.out.bag hB6
         have HO6:=Lib.hid (Yt HO5.out HV5.out.bag k6)
         have HD6:=Lib.hid (k6.ke.block HD5.out hgD)
         have HV6:=Lib.hid (HV5.out.trans k6)
         have hS:w6.cell? ⟨w4.heap.size,2,none⟩=some (.slice nA xs.length nc):=za HD6.out 2
         clear HO5 HD5 HV5 k6 hB6
         refine hKq.out _ _ hS (fun _=>?_)
         clear hKq Kq
         refine zw (i:=7) rfl (by kernel_rfl) ?_
         intro Kq hKq
         go_simp
         refine hKq.out _ _ (cell_alloc _ hS) (fun _=>?_)
         clear hKq Kq hS
         refine zw (i:=8) rfl (by kernel_rfl) ?_
         intro Kq hKq
         go_simp
         refine (JT (fs:=fs) g 3 [0,u,u2] w6 w6 rfl (Kb.refl HV6.out.bag) (by simp) (by simp) rfl).mono ?_
         rintro e w7 ⟨v,rfl,hv,k7⟩
         have HO7:=Lib.hid (Yt HO6.out HV6.out.bag k7)
         have HD7:=Lib.hid (k7.ke.block HD6.out hgD)
         have HV7:=Lib.hid (HV6.out.trans k7)
         have hS:w7.cell? ⟨w4.heap.size,2,none⟩=some (.slice nA xs.length nc):=za HD7.out 2
         clear HO6 HD6 HV6 k7
         refine hKq.out _ _ hS (fun _=>?_)
         clear hKq Kq
         refine zw (i:=9) rfl (by kernel_rfl) ?_
         intro Kq hKq
         go_simp
         refine hKq.out _ _ (cell_alloc _ hS) (fun _=>?_)
         clear hKq Kq hS
         refine zw (i:=10) rfl (by kernel_rfl) ?_
         intro Kq hKq
         rw[if_pos (by rfl)]
         have hD7:=HD7.out
         have hsz7:w4.heap.size+1≤(w7.alloc (.cells #[.int .i64 v] 3)).heap.size:=by have:=zj hD7;simp;omega
         refine Qq (.tmp 109) (.tmp 117) 22 rfl (w4.heap.size+1) ((like_under 22).trans Try.underlying22) inf3 nA nc xs rfl (qr HO7.out (Grown.alloc _ _)) (w7.heap.size+1) (some ⟨w7.heap.size,0,none⟩) 1 [v] rfl ints1 (by simp;omega) hsz7 ?_
         intro A2 c2 w8 hO8 hg8 hat8
         have hlow:∀ k,(Value.slice nA xs.length nc).ownBlock=some k→w4.heap.size+1≤k:=fun k hk=>(zV HO7.out hk).1
         have hD8:w8.heap[w4.heap.size]?=some (.cells #[.int .i64 hr,.int .i64 cv,.slice nA xs.length nc] 46 (0,0)):=(hg8.block _ (by simp;have:=zj hD7;omega) (fun e=>by have:=hlow _ e.symm;omega)).trans (zt hD7 _)
         have hV8:Kb g w0 w8:=(HV7.out.grown (Grown.alloc _ _)).row hg8 fun k hk=>⟨by have:=hlow k hk;have:=HW0.out;omega,fun e=>by
          subst e
          obtain⟨cs,q⟩:=yr HO7.out hk
          exact HV7.out.bag.tag q (by decide) rfl⟩
         have hS:w8.cell? ⟨w4.heap.size,2,none⟩=some (.slice nA xs.length nc):=za hD8 2
         have HD8:=Lib.hid hD8
         have HV8:=Lib.hid hV8
         have HO8:=Lib.hid hO8
         have HW8:=Lib.hid (show w4.heap.size+1≤w8.heap.size from zj hD8)
         clear hD7 hsz7 hlow hD8 hV8 hO8 HD7 HV7 HO7 hg8 hat8
         refine hKq.out _ _ hS (fun _=>?_)
         clear hKq Kq
         refine zh 11 ?_ rfl ?_ ?_;case refine_2=>(intro w _;go_simp;try rfl)
         have f1:=zk HD8.out 2
         refine qx (i:=12) rfl (by kernel_rfl) (by rfl) ?_
         intro Kq hKq
         go_simp
         refine hKq.out _ _ ?_
         clear hKq Kq
         try simp only[Act.put,List.setIfInBounds_toArray,List.set_cons_zero,List.set_cons_succ]
         refine qd (by kernel_rfl) ?_
         try simp only[Act.put,List.getElem_toArray,List.getElem_cons_succ,List.getElem_cons_zero,List.setIfInBounds_toArray,List.set_cons_zero,List.set_cons_succ]
         clear hS f1
         have hN:((w8.setCell ⟨w4.heap.size,2,none⟩ (.slice A2 (xs++[v]).length c2)).heap[w4.heap.size]?=some (.cells #[.int .i64 hr,.int .i64 cv,.slice A2 (xs++[v]).length c2] 46 (0,0)))∧L.OwnInts (w8.setCell ⟨w4.heap.size,2,none⟩ (.slice A2 (xs++[v]).length c2)) (w4.heap.size+1) A2 c2 (xs++[v])∧Kb g w0 (w8.setCell ⟨w4.heap.size,2,none⟩ (.slice A2 (xs++[v]).length c2)):=
          ⟨zR HD8.out _,jc HO8.out fun k hk _=>Below.heap_setCell _ _ _ _ (by have:=(zV HO8.out hk).1;simp only;omega),HV8.out.setCell HW0.out hgD _⟩
         have HN:=Lib.hid hN
         clear hN
         have hszN:w4.heap.size+1≤(w8.setCell ⟨w4.heap.size,2,none⟩ (.slice A2 (xs++[v]).length c2)).heap.size:=by rw[zv];exact HW8.out
         go_wp2_with fail
         rw[show xs.length+1=(xs++[v]).length by simp]
         refine⟨⟨xs++[v],A2,c2,by simp,HN.out.1,HN.out.2.1,HN.out.2.2,hszN,by simp;omega,fun x hx=>?_⟩,by simp[intOf];omega⟩
         rw[List.mem_append] at hx
         rcases hx with hx|hx
         ·exact HX.out x hx
         ·simp only[List.mem_singleton] at hx
          subst hx
          simp only[List.mem_cons,List.not_mem_nil,or_false] at hv
          omega
        ·have hxe:xs.length=gs.length:=by omega
         have hli:¬ (xs.length:Int)<(gs.length:Int):=by omega
         have hs9:=HS.out.to (HV.out.grown (Grown.alloc wr (.cells #[.int .i64 hr,.int .i64 cv,.slice nA xs.length nc] 46)))
         have hn9:=heap_alloc_new wr (.cells #[.int .i64 hr,.int .i64 cv,.slice nA xs.length nc] 46)
         obtain⟨⟨_,_,q3⟩,_,_,_,_⟩:=(HS.out.to HV.out).facts
         have p0:wr.cell? ⟨w4.heap.size,0,none⟩=some (.int .i64 hr):=za HD.out 0
         have p1:wr.cell? ⟨w4.heap.size,1,none⟩=some (.int .i64 cv):=za HD.out 1
         have p2:wr.cell? ⟨w4.heap.size,2,none⟩=some (.slice nA xs.length nc):=za HD.out 2
         have HS9:=Lib.hid hs9
         have HN9:=Lib.hid hn9
         have hO9:L.OwnInts (wr.alloc (.cells #[.int .i64 hr,.int .i64 cv,.slice nA xs.length nc] 46)) (w.heap.size+2) nA nc xs:=qS (qr HO.out (Grown.alloc _ _)) (by have:=HS.out.big;have:=HW0.out;omega)
         have HO9:=Lib.hid hO9
         have hT9:∀ k,nA.map (·.block)=some k→tp3≤k:=fun k hk=>by
          have h1:=(zV HO.out (by rw[qu];exact hk)).1
          have h2:=HS.out.top
          have h3:=HW0.out
          omega
         have HT9:=Lib.hid hT9
         have HXE:=Lib.hid hxe
         clear hs9 hn9 hO9 hT9 HD HO HV hlt HD0 hxe
         go_wp2_with (at_builtin;refine jR rfl (.tmp 121) (.tmp 123) 27 rfl ((like_under 27).trans Try.underlying27) _ 40 inf46 rfl (by decide) (by decide) rfl HS9.out.r3 wr.heap.size 1 rfl ⟨hr,cv,xs⟩ nA nc _ 46 HN9.out rfl rfl (by intro u hu;simp[encH] at hu;rcases hu with rfl|rfl|rfl<;>rfl) HO9.out HT9.out (by decide) (by have:=HK3.out;omega) HS9.out.big HS9.out.top ?_;intro A2 c2 w9 hR9 hg9;obtain⟨⟨x1,x2⟩,x3⟩:=HS9.out.put3 hg hR9 hg9;have HX3:=Lib.hid x3;clear x3 hR9 hg9)
         obtain⟨kk1,kk2⟩:=HK3.out
         have hw:wrap64 ((k:Int)-1)=((k-1:Nat):Int):=by rw[IntWalk.wrap64_in _ ⟨by omega,by omega⟩];omega
         rw[hw]
         refine⟨⟨k-1,hs++[⟨hr,cv,xs⟩],A2,c2,_,rfl,HX3,fun x hx=>?_,by simp;omega,by simp;omega⟩,by simp[intOf];omega⟩
         rw[List.mem_append] at hx
         rcases hx with hx|hx
         ·exact HOK3.out x hx
         ·simp only[List.mem_singleton] at hx
          subst hx
          simp only[List.mem_cons,List.not_mem_nil,or_false] at hcv
          exact⟨⟨hhr1,by show hr≤10;omega⟩,⟨by show 0≤cv;omega,by show cv≤9;omega⟩,HXE.out,HX.out⟩
      ·obtain rfl:k=0:=by omega
       have HK3:=Lib.hid (And.intro hk1 hk2)
       clear hk1 hk2 hk0
       obtain⟨⟨q1,q2,q3⟩,⟨r1,r2,r3⟩,f1,f2,f3⟩:=HS.out.facts
       have hF:=qP HS.out.res (.slice gA gs.length gc) (.slice dA ds.length dc) (.slice hA hs.length hc)
       have c0:=za hF 0
       have c1:=za hF 1
       have c2:=za hF 2
       simp only[List.getElem?_toArray,List.getElem?_cons_zero,List.getElem?_cons_succ] at c0 c1 c2
       have hgne:w.heap.size≠g:=by omega
       have hres:=HS.out.res
       have hr1:=HS.out.r1
       have hr2:=HS.out.r2
       have hr3:=HS.out.r3
       have hK:KtAt (((w0.setCell ⟨w.heap.size,0,none⟩ (.slice gA gs.length gc)).setCell ⟨w.heap.size,1,none⟩ (.slice dA ds.length dc)).setCell ⟨w.heap.size,2,none⟩ (.slice hA hs.length hc)) ⟨gs,ds,hs⟩ gA dA hA:=by
        have e1:=zR hres (i:=0) (.slice gA gs.length gc)
        have e2:=zR e1 (i:=1) (.slice dA ds.length dc)
        have k1:=HK.out
        have k2:=HK2.out
        have k3:=HK3.out
        refine⟨GdList.at_ ((((hr1.box (p:=⟨w.heap.size,0,none⟩) hres (by decide) (.slice gA gs.length gc)).box (p:=⟨w.heap.size,1,none⟩) e1 (by decide) (.slice dA ds.length dc)).box (p:=⟨w.heap.size,2,none⟩) e2 (by decide) (.slice hA hs.length hc))),DsList.at_ ((((hr2.box (p:=⟨w.heap.size,0,none⟩) hres (by decide) (.slice gA gs.length gc)).box (p:=⟨w.heap.size,1,none⟩) e1 (by decide) (.slice dA ds.length dc)).box (p:=⟨w.heap.size,2,none⟩) e2 (by decide) (.slice hA hs.length hc))) fun d hd=>?_,HlList.at_ ((((hr3.box (p:=⟨w.heap.size,0,none⟩) hres (by decide) (.slice gA gs.length gc)).box (p:=⟨w.heap.size,1,none⟩) e1 (by decide) (.slice dA ds.length dc)).box (p:=⟨w.heap.size,2,none⟩) e2 (by decide) (.slice hA hs.length hc))) fun d hd=>?_,by simp only;omega,by simp only;omega,by simp only;omega⟩
        ·have:=(HOK2.out d hd).1;omega
        ·have:=(HOK3.out d hd).len;omega
       have hKb:Kb g w (((w0.setCell ⟨w.heap.size,0,none⟩ (.slice gA gs.length gc)).setCell ⟨w.heap.size,1,none⟩ (.slice dA ds.length dc)).setCell ⟨w.heap.size,2,none⟩ (.slice hA hs.length hc)):=
        ((HS.out.kb.setCell (Nat.le_refl _) hgne _).setCell (Nat.le_refl _) hgne _).setCell (Nat.le_refl _) hgne _
       have HKK:=Lib.hid (And.intro hK hKb)
       have HC:=Lib.hid (And.intro c0 (And.intro c1 c2))
       clear hF hres hr1 hr2 hr3 hK hKb c0 c1 c2
       go_wp2_with fail
       obtain⟨c0,c1,c2⟩:=HC.out
       refine bodyPost_ret (v:=ktV ⟨gs,ds,hs⟩ gA dA hA gc dc hc) (by simp[results,Try.results18,go_sem,c0,c1,c2,ktV]) rfl ?_
       have k1:=HK.out
       have k2:=HK2.out
       have k3:=HK3.out
       exact⟨⟨gs,ds,hs⟩,gA,gc,dA,dc,hA,hc,rfl,HKK.out.1,HKK.out.2,⟨by simp only;omega,by simp only;omega,HOK.out⟩,⟨by simp only;omega,by simp only;omega,HOK2.out⟩,⟨by simp only;omega,by simp only;omega,HOK3.out⟩,RecList.cap HS.out.r3⟩
end
end Go.Gal
