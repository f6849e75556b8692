/- Walks: CopyKitchen (printed by gen_cpk.py). Writes into own rows of records; a kitchen of one's own; walks: covered. Plain laws: some loads will do (feas): with more that is there, and .. -/
import Derived.Test.YtlgiofglcgbjgaaM40
import Derived.Test.YtlgiofglcgbjgaaRows
import Derived.Test.YtlgiofglcgbjgaaM22
import Derived.Conc.LeavingOf
import Derived.ProofKit
import Derived.OpenShut
import Derived.Below
import Derived.ChangeSame
import Derived.Carry
section
namespace Go.Gal
open Go Go.Par Go.Proofs Go.RowKit
structure KOwn (w:World) (base:Nat) (K:Kt) (gA:Option Addr) (gc:Nat) (dA:Option Addr) (dc:Nat) (hA:Option Addr) (hc:Nat):Prop where
 ex:∃ m,base≤m∧m≤w.heap.size∧GdList w base m gA gc K.goods∧DsList w base m dA dc K.dishes∧HlList w m w.heap.size hA hc K.hauls
theorem own_lower {w:World} {base base2 e size n:Nat} {v:Value} {xs:List Value} (h:w.ownsRow base e size v n xs) (hb:base2≤base):w.ownsRow base2 e size v n xs:=by
 refine⟨h.1,?_⟩
 rcases h.2 with h2|⟨g,cap,cur,hv,hg,r⟩
 ·exact .inl h2
 ·exact .inr ⟨g,cap,cur,hv,by omega,r⟩
theorem RecList.lower {α : Type} {e size:Nat} {enc : α→Option Addr→Nat→List Value} {inn : α→List Int} {w:World} {base base2 top c:Nat} {A:Option Addr} {xs:List α} (h:RecList e size enc inn w base top A c xs) (hb:base2≤base):RecList e size enc inn w base2 top A c xs:=by
 obtain⟨cells,As,cs,h1,h2,h3⟩:=h
 exact⟨cells,As,cs,own_lower h1 hb,fun j x hx=>⟨(h2 j x hx).1,own_lower (h2 j x hx).2.1 hb,(h2 j x hx).2.2⟩,h3⟩
section
variable {fs:Array Func} [Like fs]
set_option maxRecDepth 20000 in
set_option maxHeartbeats 8000000 in
theorem copyKitchen_any (K:Kt) (gA0 dA0 hA0:Option Addr) (gc0 dc0 hc0:Nat) (w:World) (hK:KtAt w K gA0 dA0 hA0) :
  Calls (Pf fs) 26 #[ktV K gA0 dA0 hA0 gc0 dc0 hc0] w fun e w'=>∃ gA gc dA dc hA hc,e=.returned (ktV K gA dA hA gc dc hc)∧KOwn w' w.heap.size K gA gc dA dc hA hc∧Grown w w':=by
 have hnh:=hK.nh
 have hng:=hK.ng
 have hnd:=hK.nd
 unfold ktV
 have HK:=Lib.hid (fun W (g:Grown w W)=>hK.grown g)
 clear hK
 obtain⟨gs,ds0,hs0⟩:=K
 simp only at hnh hng hnd ⊢
 obtain⟨w0,hw0⟩:∃ w0,w0=(w.alloc (.cells #[.slice gA0 gs.length gc0,.slice dA0 ds0.length dc0,.slice hA0 hs0.length hc0] 29)).alloc (.cells #[.slice none 0 0,.slice none 0 0,.slice none 0 0] 29):=⟨_,rfl⟩
 have hg0:Grown w w0:=by rw[hw0];exact (Grown.alloc _ _).trans (Grown.alloc _ _)
 have hs0z:w0.heap.size=w.heap.size+1+1:=by rw[hw0];simp
 have hbx:w0.heap[w.heap.size]?=some (.cells #[.slice gA0 gs.length gc0,.slice dA0 ds0.length dc0,.slice hA0 hs0.length hc0] 29 (0,0)):=by rw[hw0];exact blk_alloc (heap_alloc_new w _) _
 have hrs:w0.heap[w.heap.size+1]?=some (.cells #[.slice none 0 0,.slice none 0 0,.slice none 0 0] 29 (0,0)):=by
  rw[hw0]
  have:=heap_alloc_new (w.alloc (.cells #[.slice gA0 gs.length gc0,.slice dA0 ds0.length dc0,.slice hA0 hs0.length hc0] 29)) (.cells #[.slice none 0 0,.slice none 0 0,.slice none 0 0] 29)
  simpa using this
 have q0:((w0.alloc (.cells #[] 42))).cell? ⟨w.heap.size,0,none⟩=some (.slice gA0 gs.length gc0):=cell_alloc _ (blk_cell hbx 0)
 have hrd:=(((HK.out w0 hg0).grown (Grown.alloc w0 (.cells #[] 42))).goods).reads
 have hnew:(w0.alloc (.cells #[] 42)).ownsRow w0.heap.size 42 4 (.slice (some ⟨w0.heap.size,0,none⟩) 0 0) 0 []:=World.ownsRow_lit w0 #[] 0 (Nat.le_refl _) (by decide) (by simp)
 have HRD:=Lib.hid hrd
 have HNEW:=Lib.hid hnew
 have HBX:=Lib.hid hbx
 have HRS:=Lib.hid hrs
 have HW0:=Lib.hid hw0
 have HS0:=Lib.hid hs0z
 clear hrd hnew hbx hrs hw0 hs0z
 go_enter LK.func26,Try.ntmps26
 go_upto_region 1 with fail
 rw[← HW0.out]
 obtain⟨i42,in1,in2,in3,in4⟩:=info_parts inf42
 go_wp2_with (at_builtin;refine L.wpList_append_any _ rfl (.tmp 7) (.tmp 9) 25 rfl w0.heap.size 42 i42 _ 4 32 ((like_under 25).trans Try.underlying25) in1 in2 in3 in4 rfl (by decide) _ 0 [] rfl HNEW.out _ gA0 gs.length gc0 (gdCells gs) rfl HRD.out gdCells_one (by simp only[maxLen];omega) (by omega) (by simp) ?_;intro v' w2 hown hg2 hat;obtain⟨gA,gc,rfl⟩:=L.own_slice hown;have HOG:=Lib.hid hown;have HG2:=Lib.hid (Grown.by hg2 w0 (Grown.alloc _ _) (fun k hk=>by cases hk;exact Nat.le_refl _));clear hown hg2 hat)
 have hst:CSt w0 (w2.alloc (.cells #[.slice gA gs.length gc,.slice none 0 0,.slice none 0 0] 29)) w2.heap.size w0.heap.size w0.heap.size 0 gs gA gc [] none 0 [] none 0:=by
  have ho:w2.ownsRow w0.heap.size 42 4 (.slice gA gs.length gc) gs.length (gdCells gs):=by simpa using HOG.out
  have hz:=HG2.out.size
  exact⟨heap_alloc_new w2 _,(GdList.of_own ho).grown (Grown.alloc _ _),RecList.nil,RecList.nil,HG2.out.trans (Grown.alloc _ _),hz,Nat.le_refl _,Nat.le_refl _,by simp;omega,by simp⟩
 have HST:=Lib.hid hst
 have HXX:=Lib.hid (show w0.heap.size≤w2.heap.size from HG2.out.size)
 clear hst HOG HG2 HNEW HRD q0 in1 in2 in3 in4
 generalize w2.heap.size=X at *
 go_loopw [4] (fun i W=>∃ (ds:List (List Int)) (dA:Option Addr) (dc tp:Nat),i=.int .i64 ds.length∧Hid (CSt w0 W X w0.heap.size w0.heap.size tp gs gA gc ds dA dc [] none 0)∧ds.length≤ds0.length∧Hid (ds=ds0.take ds.length)) (fun i _=>ds0.length-(intOf i).toNat)
 case atStart=>exact⟨[],none,0,0,rfl,HST.out,by simp,rfl⟩
 case round =>
  obtain⟨ds,dA,dc,tp,rfl,HS,hdl,HDS⟩:=hrel
  clear HST
  have q1:wr.cell? ⟨w.heap.size,1,none⟩=some (.slice dA0 ds0.length dc0):=blk_cell (blk_grown HBX.out HS.out.gr) 1
  by_cases hlt:ds.length<ds0.length
  ·have hli:(ds.length:Int)<(ds0.length:Int):=by omega
   obtain⟨db,dof,rfl,nA0,nc0,y1,y2,y3⟩:=(HK.out wr (hg0.trans HS.out.gr)).dishes ds.length _ (List.getElem?_eq_getElem hlt)
   have hdb:db<w.heap.size:=by
    obtain⟨db',dof',e,_,_,z1,_⟩:=(HK.out w (Grown.refl w)).dishes ds.length _ (List.getElem?_eq_getElem hlt)
    injection e with e
    injection e with e1 e2
    subst e1 e2
    exact cell_lt z1
   have hsnoc:ds++[ds0[ds.length]]=ds0.take (ds++[ds0[ds.length]]).length:=by
    rw[List.length_append,List.length_singleton,List.take_succ_eq_append_getElem hlt]
    rw[← HDS.out]
   have HSN:=Lib.hid hsnoc
   generalize ds0[ds.length]=d at y1 y2 y3 HSN
   have y0:=blk_cell HS.out.box 1
   simp only[List.getElem?_toArray,List.getElem?_cons_zero,List.getElem?_cons_succ] at y0
   have hS:wr.drew.cell? ⟨X,1,none⟩=some (.slice dA ds.length dc)∧wr.drew.cell? ⟨w.heap.size,1,none⟩=some (.slice (some ⟨db,dof,none⟩) ds0.length dc0)∧wr.drew.cell? ⟨db,dof+ds.length,none⟩=some (.slice nA0 d.length nc0):=⟨y0,q1,y1⟩
   have HS1:=Lib.hid (show CSt w0 wr.drew X w0.heap.size w0.heap.size tp gs gA gc ds dA dc [] none 0 from HS.out.to ((Grown.refl wr).drewN 1))
   have HCI:=Lib.hid (copyInts_any (fs:=fs) d nA0 nc0 wr.drew y2 y3)
   have HHS:=Lib.hid hS
   clear hsnoc y0 y1 y2 HS
   go_wp2_with fail
   clear q1
   refine wp_region_L (by kernel_rfl) (fun W=>W.cell? ⟨X,1,none⟩=some (.slice dA ds.length dc)∧W.cell? ⟨w.heap.size,1,none⟩=some (.slice (some ⟨db,dof,none⟩) ds0.length dc0)∧W.cell? ⟨db,dof+ds.length,none⟩=some (.slice nA0 d.length nc0)) [13] ?_
   refine wpAnyL_p 0 ?_ rfl ?_ ?_;case refine_2=>(intro w _;go_simp;try rfl)
   refine wpAnyL_t 1 ?_ rfl hS ?_ ?_;case refine_2=>(intro w hSw;(try dsimp only at hSw);go_simp;try rfl)
   refine wpAnyL_p 2 ?_ rfl ?_ ?_;case refine_2=>(intro w _;go_simp;try rfl)
   refine wpAnyL_t 3 ?_ rfl hS ?_ ?_;case refine_2=>(intro w hSw;(try dsimp only at hSw);go_simp;try rfl)
   refine wpAnyL_p 4 ?_ rfl ?_ ?_;case refine_2=>(intro w _;go_simp;try rfl)
   refine wpAnyL_p 5 ?_ rfl ?_ ?_;case refine_2=>(intro w _;go_simp;try rfl)
   refine wpAnyL_p 6 ?_ rfl ?_ ?_;case refine_2=>(intro w _;go_simp;try rfl)
   refine wpAnyL_t 7 ?_ rfl hS ?_ ?_;case refine_2=>(intro w hSw;(try dsimp only at hSw);go_simp;try rfl)
   refine wpAnyL_one (i:=8) rfl (by kernel_rfl) ?_
   intro Kq hKq
   go_simp
   refine HCI.out.mono ?_
   rintro e w5 ⟨nA,nc,rfl,hg5,hO5⟩
   have hS:w5.cell? ⟨X,1,none⟩=some (.slice dA ds.length dc)∧w5.cell? ⟨w.heap.size,1,none⟩=some (.slice (some ⟨db,dof,none⟩) ds0.length dc0)∧w5.cell? ⟨db,dof+ds.length,none⟩=some (.slice nA0 d.length nc0):=⟨hg5.cell HHS.out.1,hg5.cell HHS.out.2.1,hg5.cell HHS.out.2.2⟩
   have hs6:=HS1.out.to (hg5.trans (Grown.alloc w5 (.cells #[.slice nA d.length nc] 48)))
   have hn6:=heap_alloc_new w5 (.cells #[.slice nA d.length nc] 48)
   have hz5:w0.heap.size≤wr.drew.heap.size:=HS1.out.gr.size
   have hO6:L.OwnInts (w5.alloc (.cells #[.slice nA d.length nc] 48)) w0.heap.size nA nc d:=own_weaken (own_grown hO5 (Grown.alloc _ _)) hz5
   have hT6:∀ k,nA.map (·.block)=some k→tp≤k:=fun k hk=>by
    have h1:=(own_low hO5 (by rw[ownBlk];exact hk)).1
    have h2:=HS1.out.top
    omega
   have HS6:=Lib.hid hs6
   have HN6:=Lib.hid hn6
   have HO6:=Lib.hid hO6
   have HT6:=Lib.hid hT6
   clear hs6 hn6 hO6 hT6 hg5 hO5 HCI HHS HS1 hz5
   refine hKq.out _ _ hS (fun _=>?_)
   clear hKq Kq
   refine wpAnyL_one (i:=9) rfl (by kernel_rfl) ?_
   intro Kq hKq
   go_simp
   refine hKq.out _ _ hS (fun _=>?_)
   clear hKq Kq
   refine wpAnyL_one (i:=10) rfl (by kernel_rfl) ?_
   intro Kq hKq
   go_simp
   have hS:(w5.alloc (.cells #[.slice nA d.length nc] 48)).cell? ⟨X,1,none⟩=some (.slice dA ds.length dc)∧(w5.alloc (.cells #[.slice nA d.length nc] 48)).cell? ⟨w.heap.size,1,none⟩=some (.slice (some ⟨db,dof,none⟩) ds0.length dc0)∧(w5.alloc (.cells #[.slice nA d.length nc] 48)).cell? ⟨db,dof+ds.length,none⟩=some (.slice nA0 d.length nc0):=⟨cell_alloc _ hS.1,cell_alloc _ hS.2.1,cell_alloc _ hS.2.2⟩
   refine hKq.out _ _ hS (fun _=>?_)
   clear hKq Kq
   refine wpAnyL_one (i:=11) rfl (by kernel_rfl) ?_
   intro Kq hKq
   rw[if_pos (by rfl)]
   refine wp_app_rec (.tmp 20) (.tmp 29) 26 rfl ((like_under 26).trans Try.underlying26) _ 24 inf48 rfl (by decide) (by decide) rfl HS6.out.r2 w5.heap.size 1 rfl d nA nc _ 48 HN6.out rfl rfl (by intro u hu;simp[encD] at hu;subst hu;rfl) HO6.out HT6.out (by decide) (by omega) HS6.out.gr.size HS6.out.top ?_
   intro A2 c2 w9 hR9 hg9
   obtain⟨⟨x1,x2⟩,x3⟩:=HS6.out.put2 hR9 hg9
   have hlow:∀ k,(Value.slice dA ds.length dc).ownBlock=some k→w0.heap.size≤k:=fun k hk=>(HS6.out.r2.tag hk).2.1
   have hwz:=hg0.size
   have hS0:=HS0.out
   have hS:w9.cell? ⟨X,1,none⟩=some (.slice dA ds.length dc)∧w9.cell? ⟨w.heap.size,1,none⟩=some (.slice (some ⟨db,dof,none⟩) ds0.length dc0)∧w9.cell? ⟨db,dof+ds.length,none⟩=some (.slice nA0 d.length nc0):=
    ⟨x1,hg9.cell hS.2.1 (fun e=>by have:=hlow _ e.symm;simp only at this;omega),hg9.cell hS.2.2 (fun e=>by have:=hlow _ e.symm;simp only at this;omega)⟩
   have HX3:=Lib.hid x3
   clear x3 hR9 hg9 hlow hS0 HS6 HN6 HO6 HT6
   refine hKq.out _ _ hS (fun _=>?_)
   clear hKq Kq
   refine wpAnyL_p 12 ?_ rfl ?_ ?_;case refine_2=>(intro w _;go_simp;try rfl)
   refine wpAnyL_late (i:=13) rfl (by kernel_rfl) (by rfl) ?_
   intro Kq hKq
   go_simp
   refine hKq.out _ _ ?_
   clear hKq Kq
   try simp only[Act.put,List.setIfInBounds_toArray,List.set_cons_zero,List.set_cons_succ]
   refine wpAnyL_done (by kernel_rfl) ?_
   try simp only[Act.put,List.getElem_toArray,List.getElem_cons_succ,List.getElem_cons_zero,List.setIfInBounds_toArray,List.set_cons_zero,List.set_cons_succ]
   clear hS x1 x2
   go_wp2_with fail
   refine⟨⟨ds++[d],A2,c2,_,by simp,HX3,by simp;omega,HSN⟩,by simp[intOf];omega⟩
  ·have hdeq:ds=ds0:=by
    have:=HDS.out
    rwa [List.take_of_length_le (by omega)] at this
   subst hdeq
   clear HDS hlt hdl
   have hz0:=HS.out.gr.size
   have hst2:CSt w0 wr X w0.heap.size wr.heap.size wr.heap.size gs gA gc ds dA dc [] none 0∧DsList wr w0.heap.size wr.heap.size dA dc ds:=
    ⟨⟨HS.out.box,HS.out.r1,HS.out.r2.up HS.out.top,RecList.nil,HS.out.gr,HS.out.low,HS.out.lowb,hz0,Nat.le_refl _,Nat.le_refl _⟩,HS.out.r2.up HS.out.top⟩
   have HST2:=Lib.hid hst2
   obtain⟨we,rfl⟩:∃ we,we=wr:=⟨_,rfl⟩
   have HZ0:=Lib.hid hz0
   clear hst2 hz0 HS
   have hli:¬ (ds.length:Int)<(ds.length:Int):=by omega
   go_wp2_with fail
   go_loopw [5] (fun i W=>∃ (hs:List Hl) (hA:Option Addr) (hc tp:Nat),i=.int .i64 hs.length∧Hid (CSt w0 W X w0.heap.size we.heap.size tp gs gA gc ds dA dc hs hA hc∧DsList W w0.heap.size we.heap.size dA dc ds)∧hs.length≤hs0.length∧Hid (hs=hs0.take hs.length)) (fun i _=>hs0.length-(intOf i).toNat)
   case atStart=>exact⟨[],none,0,_,rfl,HST2.out,by simp,rfl⟩
   case round =>
    obtain⟨hs,hA,hc,tp2,rfl,HS,hhl,HHSQ⟩:=hrel
    clear HST2 q1
    have q2:wr.cell? ⟨w.heap.size,2,none⟩=some (.slice hA0 hs0.length hc0):=blk_cell (blk_grown HBX.out HS.out.1.gr) 2
    by_cases hlt:hs.length<hs0.length
    ·have hli:(hs.length:Int)<(hs0.length:Int):=by omega
     obtain⟨hb,ho,rfl,pA0,pc0,y1,y2,y3,y4,y5⟩:=(HK.out wr (hg0.trans HS.out.1.gr)).hauls hs.length _ (List.getElem?_eq_getElem hlt)
     have hsnoc:hs++[hs0[hs.length]]=hs0.take (hs++[hs0[hs.length]]).length:=by
      rw[List.length_append,List.length_singleton,List.take_succ_eq_append_getElem hlt]
      rw[← HHSQ.out]
     have HSN:=Lib.hid hsnoc
     clear hsnoc
     generalize hs0[hs.length]=x at y1 y2 y3 y4 y5 HSN
     have HT0:=Lib.hid (heap_alloc_new wr (.cells #[.int .i64 x.hours,.int .i64 x.covers,.slice pA0 x.prices.length pc0] 46))
     have HCI:=Lib.hid (copyInts_any (fs:=fs) x.prices pA0 pc0 (wr.alloc (.cells #[.int .i64 x.hours,.int .i64 x.covers,.slice pA0 x.prices.length pc0] 46)) (y4.grown (Grown.alloc _ _)) y5)
     clear y4
     go_upto_region 11 with (go_at_call 33;refine HCI.out.mono ?_;rintro e w5 ⟨nA,nc,rfl,hg5,hO5⟩;have HG5:=Lib.hid hg5;have HO5:=Lib.hid hO5;have hT5:=blk_grown HT0.out hg5;have f1:=blk_frozen hT5 2;have f2:w5.cell? ⟨wr.heap.size,2,none⟩=some (.slice pA0 x.prices.length pc0):=blk_cell hT5 2;have HT5:=Lib.hid hT5;clear hT5 hg5 hO5)
     have hT6:=blk_set HT5.out (i:=2) (.slice nA x.prices.length nc)
     simp only[List.setIfInBounds_toArray,List.set_cons_zero,List.set_cons_succ] at hT6
     have hlw:=(own_low HO5.out (k:=wr.heap.size))
     have hz5:wr.heap.size<w5.heap.size:=lt_of_block HT5.out
     have hO6:L.OwnInts (w5.setCell ⟨wr.heap.size,2,none⟩ (.slice nA x.prices.length nc)) (wr.heap.size+1) nA nc x.prices:=own_keep (own_weaken HO5.out (by simp)) fun k hk _=>Below.heap_setCell _ _ _ _ (by
      have:=(own_low HO5.out hk).1
      simp at this
      simp only
      omega)
     have hg6:Grown wr (w5.setCell ⟨wr.heap.size,2,none⟩ (.slice nA x.prices.length nc)):=by
      have h1:=(Grown.alloc wr (.cells #[.int .i64 x.hours,.int .i64 x.covers,.slice pA0 x.prices.length pc0] 46)).trans HG5.out
      exact⟨by rw[size_setCell];exact h1.size,fun b hb=>by rw[Below.heap_setCell _ _ _ _ (by simp only;omega)];exact h1.same b hb,h1.os⟩
     generalize (w5.setCell ⟨wr.heap.size,2,none⟩ (.slice nA x.prices.length nc))=w6 at hT6 hO6 hg6 ⊢
     have p0:w6.cell? ⟨wr.heap.size,0,none⟩=some (.int .i64 x.hours):=blk_cell hT6 0
     have p1:w6.cell? ⟨wr.heap.size,1,none⟩=some (.int .i64 x.covers):=blk_cell hT6 1
     have p2:w6.cell? ⟨wr.heap.size,2,none⟩=some (.slice nA x.prices.length nc):=blk_cell hT6 2
     have hs6:=HS.out.1.to hg6
     have p3:w6.cell? ⟨X,2,none⟩=some (.slice hA hs.length hc):=blk_cell hs6.box 2
     have hz6:=hg6.size
     have hmw:=hs6.big
     have hmr:=HS.out.1.big
     have HS7:=Lib.hid (hs6.to (Grown.alloc w6 (.cells #[.int .i64 x.hours,.int .i64 x.covers,.slice nA x.prices.length nc] 46)))
     have HD7:=Lib.hid (HS.out.2.grown (hg6.trans (Grown.alloc w6 (.cells #[.int .i64 x.hours,.int .i64 x.covers,.slice nA x.prices.length nc] 46))))
     have HN7:=Lib.hid (heap_alloc_new w6 (.cells #[.int .i64 x.hours,.int .i64 x.covers,.slice nA x.prices.length nc] 46))
     have HO7:=Lib.hid (show L.OwnInts (w6.alloc (.cells #[.int .i64 x.hours,.int .i64 x.covers,.slice nA x.prices.length nc] 46)) we.heap.size nA nc x.prices from own_weaken (own_grown hO6 (Grown.alloc _ _)) (by omega))
     have HTP:=Lib.hid (show ∀ k,nA.map (·.block)=some k→tp2≤k from fun k hk=>by
      have h1:=(own_low hO6 (by rw[ownBlk];exact hk)).1
      have h2:=HS.out.1.top
      omega)
     have HMW:=Lib.hid (show we.heap.size≤w6.heap.size by omega)
     clear hT6 hlw hz5 hO6 hg6 hs6 hz6 hmw hmr f1 f2 HT5 HO5 HG5 HCI HT0 HS y1 y2 y3 y5 q2
     go_wp2_with (at_builtin;refine wpl_app_rec rfl (.tmp 49) (.tmp 51) 27 rfl ((like_under 27).trans Try.underlying27) _ 40 inf46 rfl (by decide) (by decide) rfl HS7.out.r3 w6.heap.size 1 rfl x nA nc _ 46 HN7.out rfl rfl (by intro u hu;simp[encH] at hu;rcases hu with rfl|rfl|rfl<;>rfl) HO7.out HTP.out (by decide) (by omega) (by have:=HMW.out;simp;omega) HS7.out.top ?_;intro A2 c2 w9 hR9 hg9;obtain⟨⟨x1,x2⟩,x3,x4⟩:=HS7.out.put3 HD7.out hR9 hg9;have HX3:=Lib.hid (And.intro x3 x4);clear x3 x4 hR9 hg9)
     refine⟨⟨hs++[x],A2,c2,_,by simp,HX3,by simp;omega,HSN⟩,by simp[intOf];omega⟩
    ·have hheq:hs=hs0:=by
      have:=HHSQ.out
      rwa [List.take_of_length_le (by omega)] at this
     subst hheq
     clear HHSQ hlt hhl
     have hli:¬ (hs.length:Int)<(hs.length:Int):=by omega
     have hres:=blk_grown HRS.out HS.out.1.gr
     have b0:=blk_cell HS.out.1.box 0
     have b1:=blk_cell HS.out.1.box 1
     have b2:=blk_cell HS.out.1.box 2
     simp only[List.getElem?_toArray,List.getElem?_cons_zero,List.getElem?_cons_succ] at b0 b1 b2
     have r0:=blk_cell hres 0
     have r1:=blk_cell hres 1
     have r2:=blk_cell hres 2
     simp only[List.getElem?_toArray,List.getElem?_cons_zero,List.getElem?_cons_succ] at r0 r1 r2
     have f0:=blk_frozen hres 0
     have f1:=blk_frozen hres 1
     have f2:=blk_frozen hres 2
     have HRES:=Lib.hid hres
     clear hres
     have hF:=blk_set3 HRES.out (.slice gA gs.length gc) (.slice dA ds.length dc) (.slice hA hs.length hc)
     have c0:=blk_cell hF 0
     have c1:=blk_cell hF 1
     have c2:=blk_cell hF 2
     simp only[List.getElem?_toArray,List.getElem?_cons_zero,List.getElem?_cons_succ] at c0 c1 c2
     have e1:=blk_set HRES.out (i:=0) (.slice gA gs.length gc)
     have e2:=blk_set e1 (i:=1) (.slice dA ds.length dc)
     have hz:=HS0.out
     have hfin:KOwn (((wr.setCell ⟨w.heap.size+1,0,none⟩ (.slice gA gs.length gc)).setCell ⟨w.heap.size+1,1,none⟩ (.slice dA ds.length dc)).setCell ⟨w.heap.size+1,2,none⟩ (.slice hA hs.length hc)) w.heap.size ⟨gs,ds,hs⟩ gA gc dA dc hA hc:=by
      refine⟨we.heap.size,by have:=HZ0.out;omega,by simp only[size_setCell];exact HS.out.1.big,?_,?_,?_⟩
      ·exact ((((HS.out.1.r1.box (p:=⟨w.heap.size+1,0,none⟩) HRES.out (by decide) (.slice gA gs.length gc)).box (p:=⟨w.heap.size+1,1,none⟩) e1 (by decide) (.slice dA ds.length dc)).box (p:=⟨w.heap.size+1,2,none⟩) e2 (by decide) (.slice hA hs.length hc)).lower (by omega)).up HZ0.out
      ·exact (((HS.out.2.box (p:=⟨w.heap.size+1,0,none⟩) HRES.out (by decide) (.slice gA gs.length gc)).box (p:=⟨w.heap.size+1,1,none⟩) e1 (by decide) (.slice dA ds.length dc)).box (p:=⟨w.heap.size+1,2,none⟩) e2 (by decide) (.slice hA hs.length hc)).lower (by omega)
      ·exact (((HS.out.1.r3.box (p:=⟨w.heap.size+1,0,none⟩) HRES.out (by decide) (.slice gA gs.length gc)).box (p:=⟨w.heap.size+1,1,none⟩) e1 (by decide) (.slice dA ds.length dc)).box (p:=⟨w.heap.size+1,2,none⟩) e2 (by decide) (.slice hA hs.length hc)).up (by simp only[size_setCell];exact HS.out.1.top)
     have hgr:Grown w (((wr.setCell ⟨w.heap.size+1,0,none⟩ (.slice gA gs.length gc)).setCell ⟨w.heap.size+1,1,none⟩ (.slice dA ds.length dc)).setCell ⟨w.heap.size+1,2,none⟩ (.slice hA hs.length hc)):=grown_set3 (hg0.trans HS.out.1.gr) (by omega) _ _ _
     have HF:=Lib.hid (And.intro hfin hgr)
     have HC:=Lib.hid (And.intro c0 (And.intro c1 c2))
     clear hF c0 c1 c2 e1 e2 hfin hgr hz
     go_wp2_with fail
     obtain⟨c0,c1,c2⟩:=HC.out
     refine bodyPost_ret (v:=.agg #[.slice gA gs.length gc,.slice dA ds.length dc,.slice hA hs.length hc]) (by simp[results,Try.results26,go_sem,c0,c1,c2]) rfl ?_
     exact⟨gA,gc,dA,dc,hA,hc,rfl,HF.out.1,HF.out.2⟩
end
end Go.Gal
end
section
namespace Go.Gal
open Go Go.Par Go.Proofs Go.RowKit
theorem own_put {w:World} {base e size n:Nat} {A:Option Addr} {c:Nat} {xs:List Value} (h:w.ownsRow base e size (.slice A n c) n xs) {i:Nat} (hi:i<n*size) (v:Value) :
  ∃ b cur,A=some ⟨b,0,none⟩∧base≤b∧w.heap[b]?=some (.cells cur e (0,0))∧(∃ old,w.cell? ⟨b,i,none⟩=some old)∧(w.setCell ⟨b,i,none⟩ v).ownsRow base e size (.slice A n c) n (xs.set i v):=by
 obtain⟨hl,h2⟩:=h
 rcases h2 with ⟨_,q⟩|⟨g,cap,cur,hv,hg,hh,hn,hm,hsz,htk⟩
 ·subst q;simp at hi
 ·injection hv with hA hcn hcc
  subst hA
  have hc2:n*size≤cap*size:=Nat.mul_le_mul_right _ hn
  refine⟨g,cur,rfl,hg,hh,⟨cur[i]'(by omega),by rw[blk_cell hh,Array.getElem?_eq_getElem (by omega)]⟩,by simpa using hl,.inr ⟨g,cap,cur.setIfInBounds i v,by rw[hcc],hg,blk_set hh v,hn,hm,by simpa using hsz,?_⟩⟩
  rw[Array.toList_setIfInBounds,List.take_set,htk]
section
variable {α : Type} {e size:Nat} {enc : α→Option Addr→Nat→List Value} {inn : α→List Int} {w w':World} {base top c:Nat} {A:Option Addr} {xs:List α}
theorem RecList.put1 (h:RecList e size enc inn w base top A c xs) (he:e≠3) {j i:Nat} {x y : α} {v:Value} (hj:xs[j]?=some x) (hi:i<size) (hs:∀ x B cc,(enc x B cc).length=size) (hy:∀ B cc,enc y B cc=(enc x B cc).set i v) (hin:inn y=inn x) :
  ∃ b,A=some ⟨b,0,none⟩∧(∃ cur,w.heap[b]?=some (.cells cur e (0,0)))∧(∃ old,w.cell? ⟨b,j*size+i,none⟩=some old)∧w.frozen? ⟨b,j*size+i,none⟩=false∧RecList e size enc inn (w.setCell ⟨b,j*size+i,none⟩ v) base top A c (xs.set j y):=by
 obtain⟨cells,As,cs,h1,h2,h3⟩:=h
 have hjl:j<xs.length:=(List.getElem?_eq_some_iff.1 hj).1
 have hb:j*size+i<xs.length*size:=by
  have:(j+1)*size≤xs.length*size:=Nat.mul_le_mul_right _ hjl
  rw[Nat.add_mul] at this
  omega
 obtain⟨b,cur,rfl,hbb,hh,hold,hp⟩:=own_put h1 hb v
 refine⟨b,rfl,⟨cur,hh⟩,hold,blk_frozen hh _,cells.set (j*size+i) v,As,cs,by rw[List.length_set];exact hp,fun j' z hz=>?_,by rw[List.length_set];exact h3⟩
 have hOK:∀ {D:Option Addr} {cd:Nat} {l:List Int},L.OwnInts w base D cd l→L.OwnInts (w.setCell ⟨b,j*size+i,none⟩ v) base D cd l:=fun {D cd l} hO=>own_keep hO fun k hk _=>Below.heap_setCell _ _ _ _ (by
  obtain⟨cc,q⟩:=own_tag hO hk
  exact tag_ne q hh (fun q=>he q.symm))
 by_cases hjj:j'=j
 ·subst hjj
  rw[List.getElem?_set_self hjl] at hz
  cases hz
  obtain⟨k1,k2,k3⟩:=h2 j' x hj
  refine⟨fun i' u hu=>?_,by rw[hin];exact hOK k2,k3⟩
  rw[hy] at hu
  by_cases hii:i'=i
  ·subst hii
   have hlen:i'<(enc x (As j') (cs j')).length:=by rw[hs];exact hi
   rw[List.getElem?_set_self hlen] at hu
   cases hu
   rw[List.getElem?_set_self (by rw[h1.1];exact hb)]
  ·rw[List.getElem?_set_ne (fun q=>hii q.symm)] at hu
   rw[List.getElem?_set_ne (by omega)]
   exact k1 i' u hu
 ·rw[List.getElem?_set_ne (fun q=>hjj q.symm)] at hz
  obtain⟨k1,k2,k3⟩:=h2 j' z hz
  refine⟨fun i' u hu=>?_,hOK k2,k3⟩
  have hi':i'<size:=by have:=(List.getElem?_eq_some_iff.1 hu).1;rwa [hs] at this
  rw[List.getElem?_set_ne (fun q=>?_)]
  ·exact k1 i' u hu
  ·rcases Nat.lt_or_ge j' j with q1|q1
   ·have:(j'+1)*size≤j*size:=Nat.mul_le_mul_right _ q1
    rw[Nat.add_mul] at this
    omega
   ·have:(j+1)*size≤j'*size:=Nat.mul_le_mul_right _ (by omega)
    rw[Nat.add_mul] at this
    omega
end
theorem DsList.putIn {e:Nat} {w:World} {base top c:Nat} {A:Option Addr} {ds:List (List Int)} (h:RecList e 1 encD innD w base top A c ds) (he:e≠3) {j i:Nat} {d:List Int} {v:Int} (hj:ds[j]?=some d) (hi:i<d.length) :
  ∃ b b2 cc,A=some ⟨b,0,none⟩∧w.cell? ⟨b,j,none⟩=some (.slice (some ⟨b2,0,none⟩) d.length cc)∧base≤b2∧b2<top∧(∃ cur,w.heap[b2]?=some (.cells cur 3 (0,0)))∧(∃ old,w.cell? ⟨b2,i,none⟩=some old)∧w.frozen? ⟨b2,i,none⟩=false ∧
   RecList e 1 encD innD (w.setCell ⟨b2,i,none⟩ (.int .i64 v)) base top A c (ds.set j (d.set i v)):=by
 obtain⟨cells,As,cs,h1,h2,h3⟩:=h
 have hjl:j<ds.length:=(List.getElem?_eq_some_iff.1 hj).1
 obtain⟨k1,k2,k3⟩:=h2 j d hj
 have k2':w.ownsRow base 3 1 (.slice (As j) d.length (cs j)) d.length (d.map (Value.int .i64)):=k2
 obtain⟨b2,cur2,hA2,hb2,hh2,hold,hp⟩:=own_put k2' (i:=i) (by omega) (.int .i64 v)
 obtain⟨b,B,cc,hA,_,hcell,_⟩:=RecList.at_ (enc:=encD) (inn:=innD) ⟨cells,As,cs,h1,h2,h3⟩ (fun _ _ _=>rfl) hj
 have hne:∀ k,(∃ cs',w.heap[k]?=some (.cells cs' e (0,0)))→k≠b2:=fun k ⟨cs',q⟩=>tag_ne q hh2 he
 have hc1:cells[j]?=some (.slice (As j) d.length (cs j)):=by
  have:=k1 0 _ rfl
  simpa using this
 have hcw:w.cell? ⟨b,j,none⟩=some (.slice (some ⟨b2,0,none⟩) d.length (cs j)):=by
  rcases h1.2 with ⟨_,q⟩|⟨g,cap,cur,q,hg,hh,hn,hm,hsz,htk⟩
  ·omega
  ·injection q with q _ _
   rw[hA] at q
   injection q with q
   injection q with q _ _
   subst q
   rw[blk_cell hh,← Array.getElem?_toList]
   rw[← htk,List.getElem?_take] at hc1
   split at hc1
   ·rw[hc1,hA2]
   ·cases hc1
 refine⟨b,b2,cs j,hA,hcw,hb2,k3 b2 (by rw[hA2];rfl),⟨cur2,hh2⟩,hold,blk_frozen hh2 _,cells,As,cs,?_,fun j' z hz=>?_,by rw[List.length_set];exact h3⟩
 ·rw[List.length_set]
  exact own_keep h1 fun k hk _=>Below.heap_setCell _ _ _ _ (hne k (own_tag h1 hk))
 ·by_cases hjj:j'=j
  ·subst hjj
   rw[List.getElem?_set_self hjl] at hz
   cases hz
   refine⟨fun i' u hu=>?_,?_,k3⟩
   ·refine k1 i' u ?_
    unfold encD at hu ⊢
    rw[List.length_set] at hu
    exact hu
   ·show World.ownsRow _ _ _ _ _ _ _
    rw[show innD (d.set i v)=d.set i v from rfl,List.length_set,List.map_set]
    exact hp
  ·rw[List.getElem?_set_ne (fun q=>hjj q.symm)] at hz
   obtain⟨m1,m2,m3⟩:=h2 j' z hz
   refine⟨m1,own_keep m2 fun k hk _=>Below.heap_setCell _ _ _ _ (fun q=>?_),m3⟩
   rw[ownBlk] at hk
   have hj'l:j'<ds.length:=(List.getElem?_eq_some_iff.1 hz).1
   exact hjj (h3 j' j k hj'l hjl hk (by rw[hA2,q];rfl))
section
variable {w:World} {base:Nat} {K:Kt} {gA:Option Addr} {gc:Nat} {dA:Option Addr} {dc:Nat} {hA:Option Addr} {hc:Nat}
theorem KOwn.kt (h:KOwn w base K gA gc dA dc hA hc) (hd:∀ d∈K.dishes,d.length≤1000) (hp:∀ x∈K.hauls,x.prices.length≤1000) (n1:K.goods.length≤1000) (n2:K.dishes.length≤1000) (n3:K.hauls.length≤1000):KtAt w K gA dA hA:=by
 obtain⟨m,h1,h2,h3,h4,h5⟩:=h
 exact⟨GdList.at_ h3,DsList.at_ h4 hd,HlList.at_ h5 hp,n1,n2,n3⟩
theorem KOwn.box (h:KOwn w base K gA gc dA dc hA hc) {p:Addr} {cs:Array Value} (hp:w.heap[p.block]?=some (.cells cs 29 (0,0))) (u:Value):KOwn (w.setCell p u) base K gA gc dA dc hA hc:=by
 obtain⟨m,h1,h2,h3,h4,h5⟩:=h
 exact⟨m,h1,by rw[size_setCell];exact h2,h3.box hp (by decide) u,h4.box hp (by decide) u,by rw[size_setCell];exact h5.box hp (by decide) u⟩
theorem KOwn.box3 (h:KOwn w base K gA gc dA dc hA hc) {b:Nat} {x y z:Value} (hp:w.heap[b]?=some (.cells #[x,y,z] 29 (0,0))) (u1 u2 u3:Value):KOwn (((w.setCell ⟨b,0,none⟩ u1).setCell ⟨b,1,none⟩ u2).setCell ⟨b,2,none⟩ u3) base K gA gc dA dc hA hc:=by
 have e1:=blk_set hp (i:=0) u1
 have e2:=blk_set e1 (i:=1) u2
 exact ((h.box (p:=⟨b,0,none⟩) hp u1).box (p:=⟨b,1,none⟩) e1 u2).box (p:=⟨b,2,none⟩) e2 u3
theorem KOwn.reserve (h:KOwn w base K gA gc dA dc hA hc) {j:Nat} {x:Gd} {v:Int} (hj:K.goods[j]?=some x) :
  ∃ b,gA=some ⟨b,0,none⟩∧base≤b∧(∃ old,w.cell? ⟨b,j*4+1,none⟩=some old)∧w.frozen? ⟨b,j*4+1,none⟩=false ∧
   KOwn (w.setCell ⟨b,j*4+1,none⟩ (.int .i64 v)) base { K with goods:=K.goods.set j { x with reserve:=v } } gA gc dA dc hA hc:=by
 obtain⟨m,h1,h2,h3,h4,h5⟩:=h
 obtain⟨b,e1,⟨cur,e2⟩,e3,e4,e5⟩:=RecList.put1 (y:={ x with reserve:=v }) (v:=.int .i64 v) h3 (by decide) hj (i:=1) (by decide) (fun _ _ _=>rfl) (fun _ _=>rfl) rfl
 obtain⟨_,_,_,q1,q2,_⟩:=RecList.at_ h3 (fun _ _ _=>rfl) hj
 rw[e1] at q1
 injection q1 with q1
 injection q1 with q1 _
 subst q1
 exact⟨b,e1,by omega,e3,e4,m,h1,by rw[size_setCell];exact h2,e5,h4.setCell (p:=⟨b,j*4+1,none⟩) e2 (by decide) (by decide) _,by rw[size_setCell];exact h5.setCell (p:=⟨b,j*4+1,none⟩) e2 (by decide) (by decide) _⟩
theorem KOwn.need (h:KOwn w base K gA gc dA dc hA hc) {j i:Nat} {d:List Int} {v:Int} (hj:K.dishes[j]?=some d) (hi:i<d.length) :
  ∃ b b2 cc,dA=some ⟨b,0,none⟩∧base≤b2∧w.cell? ⟨b,j,none⟩=some (.slice (some ⟨b2,0,none⟩) d.length cc)∧(∃ old,w.cell? ⟨b2,i,none⟩=some old)∧w.frozen? ⟨b2,i,none⟩=false ∧
   KOwn (w.setCell ⟨b2,i,none⟩ (.int .i64 v)) base { K with dishes:=K.dishes.set j (d.set i v) } gA gc dA dc hA hc:=by
 obtain⟨m,h1,h2,h3,h4,h5⟩:=h
 obtain⟨b,b2,cc,e1,e2,e3,e4,⟨cur,e5⟩,e6,e7,e8⟩:=DsList.putIn (v:=v) h4 (by decide) hj hi
 refine⟨b,b2,cc,e1,e3,e2,e6,e7,m,h1,by rw[size_setCell];exact h2,?_,e8,?_⟩
 ·obtain⟨cells,As,cs,g1,g2,g3⟩:=h3
  refine⟨cells,fun _=>none,fun _=>0,own_keep g1 fun k hk _=>Below.heap_setCell _ _ _ _ (by
   obtain⟨cc',q⟩:=own_tag g1 hk
   exact tag_ne q e5 (by decide)),fun j' z hz=>⟨(g2 j' z hz).1,L.OwnInts.nil _ _,fun k hk=>by simp at hk⟩,fun _ _ k _ _ hk=>by simp at hk⟩
 ·rw[size_setCell]
  exact h5.keep fun b' cs' t' hb' _ _=>Below.heap_setCell _ _ _ _ (by simp only;omega)
end
section
variable {fs:Array Func} [Like fs]
end
end Go.Gal
end
section
namespace Go.Gal
open Go Go.Par Go.Proofs Go.RowKit
def goes (D:Good1) (h:Haul1) (rest:Nat→Bool) (t n:Nat):Bool:=decide ((D.reserve:Int)≤after D h (t+n))&&rest (after D h (t+n)).toNat
structure Easier (h h':Haul1):Prop where
 hours:h.hours=h'.hours
 price:h.price=h'.price
 eaten:h.covers*h.need≤h'.covers*h'.need
inductive EasyAll:List Haul1→List Haul1→Prop
 | nil:EasyAll [] []
 | cons {h h':Haul1} {hs hs':List Haul1} : Easier h h'→EasyAll hs hs'→EasyAll (h::hs) (h'::hs')
end Go.Gal
end
section
namespace Go.Gal
open Go Go.Par Go.Proofs Go.RowKit
theorem dealt_valid {K:Kt} {goods room hauls:Nat} (h1 : 1≤K.goods.length∧K.goods.length≤goods∧∀ x∈K.goods,GdOk room x) (h2 : 1≤K.dishes.length∧K.dishes.length≤3∧∀ x∈K.dishes,DsOk K.goods.length x) (h3 : 1≤K.hauls.length∧K.hauls.length≤hauls∧∀ x∈K.hauls,HlOk K.goods.length x)
  (hg:goods≤3) (hr:room≤20) (hh:hauls≤5):checkE K=0:=by
 have e1:goodsE K.goods=0:=by
  unfold goodsE
  rw[manyE_ok (by omega) (by omega),if_neg (by simp),if_neg]
  rw[List.any_eq_true]
  rintro⟨x,hx,hb⟩
  obtain⟨⟨a1,a2⟩,⟨b1,b2⟩,⟨c1,c2⟩,⟨d1,d2⟩⟩:=h1.2.2 x hx
  simp[badGood,outB] at hb
  omega
 have e2:dishesE K.goods.length K.dishes=0:=by
  unfold dishesE
  rw[manyE_ok (by omega) (by omega),if_neg (by simp)]
  exact firstE_ok fun d hd=>eachE_ok (by have:=(h2.2.2 d hd).1;omega) (h2.2.2 d hd).2
 have e3:haulsE K.goods.length K.hauls=0:=haulsE_ok h3.1 (by omega) fun x hx=>by
  obtain⟨⟨a1,a2⟩,⟨b1,b2⟩,c,d⟩:=h3.2.2 x hx
  exact⟨a1,by omega,b1,b2,c,fun p hp=>⟨(d p hp).1,by have:=(d p hp).2;omega⟩⟩
 unfold checkE
 rw[e1,e2,if_neg (by simp),if_neg (by simp),e3]
theorem asked_of {K:Kt} {xs:List Int} (h1:checkE K=0) (h2:rightE K.dishes.length K.hauls.length xs=0):askedE K xs=0:=by
 unfold askedE
 rw[h1,if_neg (by simp)]
 exact h2
section
variable {fs:Array Func} [LikeS fs]
end
end Go.Gal
end
section
namespace Go.Gal
open Go Go.Par Go.Proofs Go.RowKit
open Go.ChangeShapes Go.WideShapes Go.ChangeAt
theorem own_knob:ownKnob Try.prog.godebug=none:=by kernel_rfl
theorem laid_out:laidOutB Try.prog=true:=by kernel_rfl
theorem cells_int:Try.prog.cellsOf 3=1:=by kernel_rfl
theorem readable_nums:Try.prog.readableRec 22=true:=by kernel_rfl
theorem nums_row : 22<Try.prog.types.size:=of_decide_eq_true (by kernel_rfl)
theorem no_globals:S.globals.size=0:=by kernel_rfl
section
variable {H:Type} {enc:TypeId×Value→H} {P:Program}
theorem post_of_below {f:Func} {s:ChangeSpec} {apart fresh handsOn again:Bool} {W W':World} {args:Array Value} {v:Value} {ds gs:List (DataW H)} {before pa pv:List MemPlace}
  (hW:DataW.Whole enc P f.params.toList s.vars apart W args.toList ds gs before)
  (hres:∀ (b:Nat) (sp:Nat→Bool) (hd:Bool),DataW.TrodAll enc P W' b sp hd f.resultTypes.toList (v.resultList f.resultTypes.size) (s.fn H (ds++gs)).results [])
  (hargs:∀ sp:Nat→Bool,(∀ p∈before,sp p.block=true)→DataW.TrodAll enc P W' 0 sp true f.params.toList args.toList (s.fn H (ds++gs)).args pa)
  (hvars:∀ sp:Nat→Bool,(∀ p∈before,sp p.block=true)→DataW.TrodVars enc P W' sp s.vars (s.fn H (ds++gs)).vars pv)
  (hps:before=pa++pv) (hb:Below W.heap.size W W')
  (hok:∀ (j:Nat) (t:TypeId) (r:Value),f.resultTypes[j]?=some t→(v.resultList f.resultTypes.size)[j]?=some r→Value.okWide P W' .any 0 t r) :
  s.post enc P f apart fresh handsOn again W args v W':=by
 have hlt:∀ p∈before,p.block<W.heap.size:=fun p hp=>hW.lt p hp
 have hold:∀ p∈before,(fun b=>decide (b<W.heap.size)) p.block=true:=fun p hp=>by simpa using hlt p hp
 refine⟨ds,gs,before,[],pa,pv,hW,hres _ _ _,hargs _ hold,hvars _ hold,World.keptBut_mono (fun p hp=>⟨hp,?_⟩) (hb.frame (·∈before)),fun _=>?_⟩
 ·rw[hps,List.mem_append] at hp
  exact Or.inr hp
 ·obtain⟨_,_,_,_,_,hz,hn⟩:=hW
  refine⟨hok,_,_,([]++pa)++pv,⟨[]++pa,pv,trodAll_append (hargs _ (fun _ _=>rfl)) (hres _ _ _),hvars _ (fun _ _=>rfl),rfl,?_,?_⟩,?_⟩
  ·intro b off hp
   have hin:MemPlace.cell b off∈before:=by rw[hps];simpa using hp
   rw[hb.frozen (hlt _ hin)]
   exact hz b off hin
  ·intro ha
   have:=hn ha
   rw[hps] at this
   simpa using this
  ·intro p hp _
   rw[hps]
   simpa using hp
end
def Walked (F:FuncId):Prop:=∀ (A:Option Addr) (cp:Nat) (xs:List Int) (w:World),Ints w A xs→xs.length≤9223372036854775807 →
 Calls S F #[.slice A xs.length cp] w fun e _=>e=.returned (.bool true)
theorem walked_of {F:FuncId} (h:∀ (ns:List Int) (A:Option Addr) (c:Nat) (w:World),Ints w A ns→ns.length≤9223372036854775807→Calls (Pf S.funcs) F #[.slice A ns.length c] w fun e _=>e=.returned (.bool true)):Walked F:=fun A c xs w hx hl=>by
 have:=h xs A c w hx hl
 rwa [pf_S] at this
set_option maxRecDepth 100000 in
theorem okWide_seen {W:World} {base:Nat} {A:Option Addr} {len cap:Nat} (h:Value.okWide Try.prog W .any base 22 (.slice A len cap)):∀ p,A=some p→Seen W p.block∧p.spot=none:=by
 rintro p rfl
 simp only[Value.okWide,Try.underlying22,Cell.okWide,Cell.ok] at h
 obtain⟨_,_,_,hsp,row,cells,hs,_⟩:=h
 refine⟨?_,hsp⟩
 unfold World.shape? at hs
 split at hs
 ·rename_i c t m hc
  exact⟨_,_,_,hc⟩
 ·cases hs
set_option maxRecDepth 100000 in
theorem nums_runs {F:FuncId} {fn:Func} {s:ChangeSpec} {apart fresh handsOn again:Bool} (hF:¬ FSt F) (hini:Try.prog.inits.idxOf? F=none) (hp:fn.params=#[22]) (hr:fn.resultTypes=#[4]) (hv:s.vars=[])
  (hs:∀ (H:Type) (d:DataW H),(s.fn H [d]).results=[.lit (.bool true)]∧(s.fn H [d]).args=[d]∧(s.fn H [d]).vars=[]) (hw:Walked F)
  (H:Type) (enc:TypeId×Value→H) (W:World) (base:Nat) (args:Array Value) (ds gs:List (DataW H)) (before:List MemPlace)
  (hval:∀ (j:Nat) t v,fn.params[j]?=some t→args[j]?=some v→Value.okWide Try.prog W .any base t v)
  (hW:DataW.Whole enc Try.prog fn.params.toList s.vars apart W args.toList ds gs before) :
  ∃ M last o w' t',runNT Try.prog (M+1) (Go.Conc.solo (Go.Conc.G (Frame.enter Try.prog F args .normal) []) W) #[]=(.ended o w',t')∧runN Try.prog M (Go.Conc.solo (Go.Conc.G (Frame.enter Try.prog F args .normal) []) W)=.next last ∧
   step Try.prog last=.ended o w'∧Go.Conc.Good Try.prog (fun v W'=>s.post enc Try.prog fn apart fresh handsOn again W args v W') last o w' t':=by
 have hW':=hW
 obtain⟨p,q,hA0,hV,rfl,hfz,hnd⟩:=hW
 have hA:DataW.TrodAll enc Try.prog W 0 (fun _=>true) true fn.params.toList args.toList ds p:=hA0
 rw[hp] at hA hval
 rw[hv] at hV
 obtain⟨v0,d0,rfl,rfl,h0⟩:=trodAll_one hA
 obtain⟨rfl,rfl⟩:=trodVars_none hV
 obtain⟨a0,len,cap,rfl⟩:=okWide_slice Try.underlying22 (hval 0 22 v0 rfl rfl)
 have hseen:=okWide_seen (hval 0 22 _ rfl rfl)
 have h0k:=h0
 obtain⟨fuel,hf⟩:=h0
 clear hA0
 simp only[List.append_nil] at hW'
 have hlt:∀ x∈p,x.block<W.heap.size:=fun x hx=>by simpa using hW'.lt x hx
 have hclose:∀ xs:List Int,xs.length=len→Ints W a0 xs→xs.length≤9223372036854775807 →
   ∃ M last o w' t',runNT Try.prog (M+1) (Go.Conc.solo (Go.Conc.G (Frame.enter Try.prog F #[.slice a0 len cap] .normal) []) W) #[]=(.ended o w',t')∧runN Try.prog M (Go.Conc.solo (Go.Conc.G (Frame.enter Try.prog F #[.slice a0 len cap] .normal) []) W)=.next last ∧
   step Try.prog last=.ended o w'∧Go.Conc.Good Try.prog (fun v W'=>s.post enc Try.prog fn apart fresh handsOn again W #[.slice a0 len cap] v W') last o w' t':=fun xs hx hi hl=>by
  subst hx
  have hN:∀ b,(∃ p,a0=some p∧p.block=b)→Seen W b:=fun b ⟨p,hp,hb⟩=>hb▸(hseen p hp).1
  have hrel:VsRel (idS fun b=>∃ p,a0=some p∧p.block=b) #[.slice a0 xs.length cap] #[.slice a0 xs.length cap]:=by
   refine⟨rfl,fun i x y h1 h2=>?_⟩
   rcases i with _|i
   ·simp at h1 h2
    subst h1 h2
    refine .slice _ _ ?_
    cases a0 with
    | none=>exact .none
    | some p =>
     obtain⟨b,off,spot⟩:=p
     have:=(hseen _ rfl).2
     simp only at this
     subst this
     exact .some ⟨⟨rfl,_,rfl,rfl⟩,rfl,rfl⟩
   ·simp at h1
  have hmi:∀ t,Ints { maskS (fun b=>∃ p,a0=some p∧p.block=b) W with tape:=t } a0 xs:=fun t k x hk=>by
   obtain⟨b,off,e,hc⟩:=hi k x hk
   exact⟨b,off,e,maskW_cell (N:=fun b=>∃ p,a0=some p∧p.block=b) ⟨_,e,rfl⟩ hc (.int _ _)⟩
  obtain⟨M,last,o,w',t',h1,h2,h3,h4⟩:=law_runs cheapOn_S cheapOn_Sw hF hini hN (by rw[no_globals];exact Nat.zero_le _) hrel fun t=>hw a0 cap xs _ (hmi t) hl
  refine⟨M,last,o,w',t',h1,h2,h3,h4.mono fun v hv1=>?_⟩
  obtain⟨rfl,g1,g2,g3⟩:=hv1
  have hb:Below W.heap.size W w':=⟨g3.os,g3.tape,g3.output,g1,g2⟩
  obtain⟨e1,e2,e3⟩:=hs H d0
  refine post_of_below (pa:=p) (pv:=[]) hW' (fun b sp hd=>?_) (fun sp hsp=>?_) (fun sp _=>?_) (by simp) hb (fun j t r hj hr2=>?_)
  ·rw[hr]
   show DataW.TrodAll enc Try.prog w' b sp hd [4] [.bool true] (s.fn H [d0]).results []
   rw[e1]
   exact trodAll_cons_mk (shut_bool Try.underlying4 _) trodAll_mk0
  ·rw[hp]
   show DataW.TrodAll enc Try.prog w' 0 sp true [22] [.slice a0 xs.length cap] (s.fn H [d0]).args p
   rw[e2]
   exact trodAll_mk1 (WideElems.Trod_stays laid_out readable_nums nums_row h0k (fun x hx=>hb.same (hlt x hx)) (fun x hx=>hsp x hx))
  ·rw[hv]
   show DataW.TrodVars enc Try.prog w' sp [] (s.fn H [d0]).vars []
   rw[e3]
   rfl
  ·exact ok_one hr rfl (okWide_bool_mk Try.underlying4 _) j t r hj hr2
 rcases open_ints Try.underlying22 Try.underlying3 cells_int hf with ⟨hcs,hx⟩|⟨a,len',cap',zs,hcs,_,hl,hm,hz,hx,hcell,hwz⟩
 ·simp[Value.cells] at hcs
  obtain⟨rfl,rfl,rfl⟩:=hcs
  exact hclose [] rfl (fun k x h=>by simp at h) (by simp)
 ·simp[Value.cells] at hcs
  obtain⟨rfl,rfl,rfl⟩:=hcs
  simp only[if_true] at hz
  simp only[Prod.mk.injEq] at hx
  obtain⟨_,rfl⟩:=hx
  have hlen:(zs.take len).length=len:=by rw[List.length_take];omega
  refine hclose (zs.take len) hlen (fun k x hk=>?_) (by rw[hlen];simp only[maxLen] at hm;omega)
  have hkl:k<len:=by
   have:=(List.getElem?_eq_some_iff.1 hk).1
   omega
  have hkz:zs.getD k 0=x:=by
   rw[List.getElem?_take,if_pos hkl] at hk
   simp[List.getD_eq_getElem?_getD,hk]
  have hc:=hcell k (by omega)
  rw[hkz] at hc
  obtain⟨b,off,spot⟩:=a
  have hs0:=(hseen _ rfl).2
  simp only at hs0
  subst hs0
  rw[add_plain] at hc
  exact⟨b,off,rfl,hc⟩
end Go.Gal
end
