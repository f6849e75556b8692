/- Walks: all loads (printed by gen_all.py). -/
import Derived.Test.YtlgiofglcgbjgaaM40
namespace Go.Gal
open Go Go.Par Go.Proofs Go.RowKit
theorem DishT.cells {w:World} {B:Option Addr} {rows:List (List Int)} (h:DishT w B rows):∃ cs BB,L.Reads w BB 1 B rows.length cs∧CellsT w rows cs:=by
 rcases Nat.eq_zero_or_pos rows.length with h0|h0
 ·obtain rfl:rows=[]:=List.eq_nil_of_length_eq_zero h0
  exact⟨[],0,⟨by simp,fun q=>absurd q (by simp)⟩,rfl,fun j l hj=>by simp at hj⟩
 ·obtain⟨b,off,A0,c0,rfl,q0,_⟩:=h.1 0 _ (List.getElem?_eq_getElem h0)
  have key:∀ j,j<rows.length→∃ A c,w.cell? ⟨b,off+j,none⟩=some (.slice A (rows[j]?.getD []).length c)∧(rows[j]?.getD []).length≤1000∧IntsT w A (rows[j]?.getD []):=fun j hj=>by
   obtain⟨b',off',A,c,e,q1,q2,q3⟩:=h.1 j _ (List.getElem?_eq_getElem hj)
   cases e
   rw[List.getElem?_eq_getElem hj]
   exact⟨A,c,q1,q2,q3⟩
  refine⟨(List.range rows.length).map fun j=>(w.cell? ⟨b,off+j,none⟩).getD undef,w.heap.size,⟨by simp,fun _=>⟨_,rfl,qB q0,fun j u hu=>?_⟩⟩,by simp,fun j l hj=>?_⟩
  ·have hjl:j<rows.length:=by have:=(List.getElem?_eq_some_iff.1 hu).1;simpa using this
   obtain⟨A,c,q1,_⟩:=key j hjl
   rw[List.getElem?_map,List.getElem?_range hjl,Option.map_some,Option.some.injEq,q1] at hu
   subst hu
   unfold Addr.add
   split
   ·rename_i e;subst e;exact q1
   ·exact q1
  ·have hjl:j<rows.length:=(List.getElem?_eq_some_iff.1 hj).1
   obtain⟨A,c,q1,q2,q3⟩:=key j hjl
   rw[hj] at q1 q2 q3
   exact⟨A,c,by rw[List.getElem?_map,List.getElem?_range hjl,Option.map_some,q1];rfl,q2,q3⟩
section
variable {P:Program}
theorem wpl_app_rows {w:World} {ops:Array Oper} {rest:List Oper} {o:Oper} {a:Act} {Q:Exit→Act→World→Prop} (hgd:o.guard=none) (s x:Operand)
  (ho:o.op=.call { callee:=.builtin .append,args:=#[s,x],argTypes:=#[32,32] }) (base:Nat) (ht:P.underlying 32=some (.slice 22)) (hi:(P.info? 22).map (fun i=>(i.zero,i.size,i.bytes))=some (some (.slice none 0 0),1,24))
  {A:Option Addr} {c:Nat} {rows:List (List Int)} (hs:a.eval s=.slice A rows.length c) (hR:RowT w base A c rows) {B:Option Addr} {BB m c2:Nat} {ys:List (List Int)} {cs:List Value} (hx:a.eval x=.slice B m c2) (hm:m=ys.length) (hr:L.Reads w BB 1 B m cs) (hc:CellsT w ys cs) (hlen:rows.length+ys.length≤1000000) (hbase:base≤w.heap.size)
  (h:∀ A2 c3 w',RowT w' base A2 c3 (rows++ys)→w.grownBy w' (Value.slice A rows.length c).ownBlock→Tags (fun t=>t≠22) w w'→wpList P ops Q rest (a.put o.dst (.slice A2 (rows++ys).length c3)) w'):wpList P ops Q (o::rest) a w:=
 wpList_plain hgd fun _ hK=>wp_app_rows s x ho base ht hi hs hR hx hm hr hc hlen hbase fun A2 c3 w' q1 q2 q3=>hK _ _ (h A2 c3 w' q1 q2 q3)
end
theorem lit_row {w:World} {b:Nat} {A:Option Addr} {c n:Nat} {l:List Int} (hb:w.heap[b]?=some (.cells #[.slice A n c] 22 (0,0))) (hn:l.length=n) (hl:n≤1000) (hi:IntsT w A l):L.Reads w (b+1) 1 (some ⟨b,0,none⟩) 1 [.slice A n c]∧CellsT w [l] [.slice A n c]:=by
 refine⟨⟨by simp,fun _=>⟨_,rfl,Nat.lt_succ_self _,fun j u hu=>?_⟩⟩,rfl,fun j r hj=>?_⟩
 ·rcases j with _|j
  ·simp only[List.getElem?_cons_zero,Option.some.injEq] at hu
   subst hu
   exact za hb 0
  ·simp at hu
 ·rcases j with _|j
  ·simp only[List.getElem?_cons_zero,Option.some.injEq] at hj
   subst hj
   exact⟨A,c,by rw[hn];rfl,by omega,hi⟩
  ·simp at hj
theorem lit_own {w:World} {base c:Nat} {A:Option Addr} {r:List Int} {m:Int} (h:L.OwnInts w base A c (r++[m])) (hn:r.length+1≤1000):L.Reads (w.alloc (.cells #[.slice A (r.length+1) c] 22)) (w.heap.size+1) 1 (some ⟨w.heap.size,0,none⟩) 1 [.slice A (r.length+1) c]∧CellsT (w.alloc (.cells #[.slice A (r.length+1) c] 22)) [r++[m]] [.slice A (r.length+1) c]:=
 lit_row (heap_alloc_new w _) (by simp) hn ((IntsT.of_own h).keep (T:=fun _=>True) trivial (.of_grown (Grown.alloc _ _)))
def rowStep (K:Kt) (h g:Nat) (r:List Int):List (List Int):=(List.range (mostN K h g+1)).map fun (n:Nat)=>r++[(n:Int)]
def rowPart (r:List Int) (n:Nat):List (List Int):=(List.range n).map fun (m:Nat)=>r++[(m:Int)]
theorem rowPart_succ (r:List Int) (n:Nat):rowPart r (n+1)=rowPart r n++[r++[(n:Int)]]:=by simp[rowPart,List.range_succ]
def allPart (l:List (List Int)) (rows:List (List Int)) (n:Nat):List (List (List Int)):=(rows.take n).map fun r=>l++[r]
theorem allPart_succ {l rows:List (List Int)} {n:Nat} {r:List Int} (h:rows[n]?=some r):allPart l rows (n+1)=allPart l rows n++[l++[r]]:=by
 unfold allPart
 rw[List.take_add_one,h]
 simp
theorem flat_next {α β : Type} {f : α→List β} {l:List α} {n:Nat} {x : α} (h:l[n]?=some x):(l.take (n+1)).flatMap f=(l.take n).flatMap f++f x:=by
 rw[List.take_add_one,h]
 simp
def rowAcc (acc:List (List Int)) (r:List Int) (m:Nat):List (List Int):=acc++rowPart r m
theorem rowAcc_zero (acc:List (List Int)) (r:List Int):rowAcc acc r 0=acc:=by simp[rowAcc,rowPart]
theorem rowAcc_succ (acc:List (List Int)) (r:List Int) (m:Nat):rowAcc acc r (m+1)=rowAcc acc r m++[r++[(m:Int)]]:=by simp[rowAcc,rowPart_succ]
def stepAcc (K:Kt) (h g n:Nat):List (List Int):=((rowsL K h g).take n).flatMap (rowStep K h g)
theorem stepAcc_full (K:Kt) (h g:Nat):stepAcc K h g (rowsL K h g).length=rowsL K h (g+1):=by
 unfold stepAcc
 rw[List.take_length]
 rfl
theorem stepAcc_succ {K:Kt} {h g n:Nat} {r:List Int} (hr:(rowsL K h g)[n]?=some r):stepAcc K h g (n+1)=rowAcc (stepAcc K h g n) r (mostN K h g+1):=flat_next hr
theorem rowAcc_len (acc:List (List Int)) (r:List Int) (m:Nat):(rowAcc acc r m).length=acc.length+m:=by simp[rowAcc,rowPart]
theorem stepAcc_len {K:Kt} {h g n:Nat} (hm:mostN K h g≤3):(stepAcc K h g n).length≤n*4:=by
 unfold stepAcc
 have h1:=flat_count (l:=(rowsL K h g).take n) (f:=rowStep K h g) (m:=4) fun x _=>by simp[rowStep];omega
 have h2:=List.length_take_le n (rowsL K h g)
 omega
def allAcc (acc:List (List (List Int))) (l:List (List Int)) (rows:List (List Int)) (n:Nat):List (List (List Int)):=acc++allPart l rows n
theorem allAcc_zero (acc:List (List (List Int))) (l rows:List (List Int)):allAcc acc l rows 0=acc:=by simp[allAcc,allPart]
theorem allAcc_succ {acc:List (List (List Int))} {l rows:List (List Int)} {n:Nat} {r:List Int} (h:rows[n]?=some r):allAcc acc l rows (n+1)=allAcc acc l rows n++[l++[r]]:=by
 unfold allAcc
 rw[allPart_succ h,List.append_assoc]
theorem allAcc_len {acc:List (List (List Int))} {l rows:List (List Int)} {n:Nat} : (allAcc acc l rows n).length≤acc.length+n:=by
 unfold allAcc allPart
 simp
 omega
def allStep (K:Kt) (h n:Nat):List (List (List Int)):=((allL K h).take n).flatMap fun l=>(rowsL K h K.goods.length).map fun r=>l++[r]
theorem allStep_full (K:Kt) (h:Nat):allStep K h (allL K h).length=allL K (h+1):=by
 unfold allStep
 rw[List.take_length]
 rfl
theorem allStep_succ {K:Kt} {h n:Nat} {l:List (List Int)} (hl:(allL K h)[n]?=some l):allStep K h (n+1)=allAcc (allStep K h n) l (rowsL K h K.goods.length) (rowsL K h K.goods.length).length:=by
 unfold allStep
 rw[flat_next hl,allAcc,allPart,List.take_length]
theorem allStep_len {K:Kt} {h n:Nat} (hm:(rowsL K h K.goods.length).length≤16):(allStep K h n).length≤n*16:=by
 unfold allStep
 have h1:=flat_count (l:=(allL K h).take n) (f:=fun l=>(rowsL K h K.goods.length).map fun r=>l++[r]) (m:=16) fun x _=>by simp;omega
 have h2:=List.length_take_le n (allL K h)
 omega
section
variable {fs:Array Func} [LikeS fs]
set_option maxRecDepth 100000 in
set_option maxHeartbeats 8000000 in
theorem all_ref (K:Kt) (gb go gc:Nat) (dA:Option Addr) (dc hb ho hc:Nat) (w:World) (k:KtAt w K (some ⟨gb,go,none⟩) dA (some ⟨hb,ho,none⟩)) (hg2:K.goods.length≤2) (hh3:K.hauls.length≤3) (hrm:∀ g,g<K.goods.length→0≤(gdAt K.goods g).room∧(gdAt K.goods g).room≤3) (hpl:∀ h,h<K.hauls.length→(hlAt K.hauls h).prices.length=K.goods.length) :
  Calls (Pf fs) 49 #[.agg #[.slice (some ⟨gb,go,none⟩) K.goods.length gc,.slice dA K.dishes.length dc,.slice (some ⟨hb,ho,none⟩) K.hauls.length hc]] w fun e w'=>∃ B c,e=.returned (.slice B (allL K K.hauls.length).length c)∧Grown w w'∧Row3 w' w.heap.size B c (allL K K.hauls.length):=by
 have hmost:∀ h g,mostN K h g≤3:=fun h g=>by
  unfold mostN
  split
  ·omega
  ·rcases Nat.lt_or_ge g K.goods.length with q|q
   ·have:=hrm g q;omega
   ·unfold gdAt
    rw[List.getD_eq_getElem?_getD,List.getElem?_eq_none (by omega)]
    simp
 have HRC:=Lib.hid (fun h (g:Nat) (hg:g≤K.goods.length)=>Nat.le_trans (rowsL_count (hmost h) g) (Nat.pow_le_pow_right (by decide : 0<4) (Nat.le_trans hg hg2)))
 have HAL:=Lib.hid (fun h (hh:h≤K.hauls.length)=>Nat.le_trans (allL_count hmost hg2 h) (Nat.pow_le_pow_right (by decide : 0<16) (Nat.le_trans hh hh3)))
 have HMO:=Lib.hid hmost
 have HRM:=Lib.hid hrm
 have HPL:=Lib.hid hpl
 have HK:=Lib.hid k
 obtain⟨V,hV⟩:∃ V,V=w.alloc (.cells #[.slice (some ⟨gb,go,none⟩) K.goods.length gc,.slice dA K.dishes.length dc,.slice (some ⟨hb,ho,none⟩) K.hauls.length hc] 29):=⟨_,rfl⟩
 have v0:V.heap[w.heap.size]?=some (.cells #[.slice (some ⟨gb,go,none⟩) K.goods.length gc,.slice dA K.dishes.length dc,.slice (some ⟨hb,ho,none⟩) K.hauls.length hc] 29 (0,0)):=by rw[hV];exact heap_alloc_new w _
 have vg:Grown w V:=by rw[hV];exact Grown.alloc _ _
 have HY:=Lib.hid (show ∀ W,Grown V W→W.cell? ⟨w.heap.size,0,none⟩=some (.slice (some ⟨gb,go,none⟩) K.goods.length gc)∧W.cell? ⟨w.heap.size,1,none⟩=some (.slice dA K.dishes.length dc)∧W.cell? ⟨w.heap.size,2,none⟩=some (.slice (some ⟨hb,ho,none⟩) K.hauls.length hc) from fun W g =>
  ⟨za (zk v0 g) 0,za (zk v0 g) 1,za (zk v0 g) 2⟩)
 have HVG:=Lib.hid vg
 have HR1:=Lib.hid (show Row3 (V.alloc (.cells #[.slice none 0 0] 32)) V.heap.size (some ⟨V.heap.size,0,none⟩) 1 (allL K 0) from Row3.one (w:=V) (A:=none) (rows:=[]) ⟨fun j l h=>by simp at h,fun k h=>by simp at h⟩ rfl (by omega))
 have HG1:=Lib.hid (Grown.alloc V (.cells #[.slice none 0 0] 32))
 have HVE:=Lib.hid hV
 clear k hmost hrm hpl v0 vg hV
 go_enter LK.func49,Try.ntmps49
 go_wp2_with fail
 rw[← HVE.out]
 have HW1:Hid (∃ W1,W1=V.alloc (.cells #[.slice none 0 0] 32)):=⟨_,rfl⟩
 have hsz:V.heap.size=w.heap.size+1:=by rw[HVE.out];simp
 clear HW1
 go_loopw [3,4] (fun v i W=>∃ (h:Nat) (A:Option Addr) (c:Nat),h≤K.hauls.length∧i=.int .i64 h∧v=.slice A (allL K h).length c∧Hid (Row3 W V.heap.size A c (allL K h))∧Hid (Grown V W)) (fun _ i _=>K.hauls.length-(intOf i).toNat)
 case atStart=>exact⟨0,_,_,Nat.zero_le _,rfl,rfl,by rw[← hsz];exact HR1,HG1⟩
 case round =>
  clear HR1 HG1
  obtain⟨h,A,c,hh,rfl,rfl,HR,HGW⟩:=hrel
  obtain⟨y0,y1,y2⟩:=HY.out wr HGW.out
  by_cases hhl:h<K.hauls.length
  ·have i1:(h:Int)<K.hauls.length:=by omega
   have HR5:Hid (RowT (wr.alloc (.cells #[.slice none 0 0] 22)) wr.heap.size (some ⟨wr.heap.size,0,none⟩) 1 (rowsL K h 0)):=RowT.one (w:=wr) (A:=none) (l:=[]) (c:=0) ⟨fun j x hx=>by simp at hx,fun k hk=>by simp at hk⟩ rfl (by omega)
   have HG5:=Lib.hid (Grown.alloc wr (.cells #[.slice none 0 0] 22))
   have hAL:=HAL.out h hh
   have HKx:=Lib.hid (HK.out.grown (HVG.out.trans HGW.out))
   generalize wr=wx at *
   go_wp2_with fail
   clear y0 y1 y2
   go_loopw [5,6] (fun v i W=>∃ (g:Nat) (B:Option Addr) (b:Nat),g≤K.goods.length∧i=.int .i64 g∧v=.slice B (rowsL K h g).length b∧Hid (RowT W wx.heap.size B b (rowsL K h g))∧Hid (Grown wx W)) (fun _ i _=>K.goods.length-(intOf i).toNat)
   case atStart=>exact⟨0,_,_,Nat.zero_le _,rfl,rfl,HR5,HG5⟩
   case round =>
    clear HR5 HG5
    obtain⟨g,B,b,hg,rfl,rfl,HB,HGX⟩:=hrel
    obtain⟨y0,y1,y2⟩:=HY.out wr (HGW.out.trans HGX.out)
    have hRC:=HRC.out h g hg
    by_cases hgl:g<K.goods.length
    ·have i2:(g:Int)<K.goods.length:=by omega
     have hmo:=HMO.out h g
     have hpl:=HPL.out h hhl
     have hrm:=HRM.out g hgl
     have kx:=HKx.out.grown HGX.out
     obtain⟨gb',go',e',z0,_,_,_⟩:=kx.goods g _ (List.getElem?_eq_getElem hgl)
     cases e'
     obtain⟨hb',ho',e',pA,pc,_,_,z2,z3,_⟩:=kx.hauls h _ (List.getElem?_eq_getElem hhl)
     cases e'
     have hgx:gdAt K.goods g=K.goods[g]:=by unfold gdAt;rw[List.getD_eq_getElem?_getD,List.getElem?_eq_getElem hgl];rfl
     have hhx:hlAt K.hauls h=K.hauls[h]:=by unfold hlAt;rw[List.getD_eq_getElem?_getD,List.getElem?_eq_getElem hhl];rfl
     have HMN:Hid (mostN K h g=if K.hauls[h].prices.getD g 0=0 then 0 else K.goods[g].room.toNat):=by
      show _=_
      unfold mostN
      rw[hgx,hhx]
     rw[hgx] at hrm
     rw[hhx] at hpl
     generalize K.goods[g]=y at z0 HMN hrm
     generalize K.hauls[h]=x at z2 z3 HMN hpl
     obtain⟨q,hq⟩:∃ q,x.prices[g]?=some q:=⟨_,List.getElem?_eq_getElem (by omega)⟩
     obtain⟨pb,po,rfl,z4⟩:=z3 g q hq
     rw[hpl] at z2
     have HQ:Hid (mostN K h g=if q=0 then 0 else y.room.toNat):=by
      show _=_
      rw[HMN.out,List.getD_eq_getElem?_getD,hq]
      rfl
     clear hgx hhx HMN kx z3 hq hpl
     go_upto_if 45 with fail
     go_cut [7] (fun v W=>v=.int .i64 (mostN K h g)∧W=wr)
     case first =>
      by_cases hq0:q=0
      ·subst hq0
       go_wp2_with fail
       go_meet
       exact⟨by rw[HQ.out];rfl,rfl⟩
      ·have hq1:(q==0)=false:=by simp[hq0]
       go_wp2_with fail
       go_meet
       exact⟨by rw[HQ.out,if_neg hq0];simp[Int.toNat_of_nonneg hrm.1],rfl⟩
     case rest =>
     obtain⟨rfl,rfl⟩:=hcut
     clear y0 y1 y2 z0 z2 z4 HQ
     generalize wc=wq at *
     go_wp2_with fail
     go_loopw [8,9] (fun v i W=>∃ (n:Nat) (D:Option Addr) (d:Nat),n≤(rowsL K h g).length∧i=.int .i64 n∧v=.slice D (stepAcc K h g n).length d∧Hid (RowT W wq.heap.size D d (stepAcc K h g n))∧Hid (Grown wq W)) (fun _ i _=>(rowsL K h g).length-(intOf i).toNat)
     case atStart=>exact⟨0,none,0,Nat.zero_le _,rfl,rfl,Lib.hid (RowT.nil _ _),Lib.hid (Grown.refl _)⟩
     case round =>
      obtain⟨n,D,d,hn,rfl,rfl,HD,HGQ⟩:=hrel
      have hr16:(rowsL K h g).length≤16:=hRC
      by_cases hnl:n<(rowsL K h g).length
      ·have i3:(n:Int)<(rowsL K h g).length:=by omega
       obtain⟨r,hr⟩:∃ r,(rowsL K h g)[n]?=some r:=⟨_,List.getElem?_eq_getElem hnl⟩
       obtain⟨bb,bo,rA,rc,rfl,q1,q2,q3⟩:=HB.out.dish.1 n r hr
       have HQ1:=Lib.hid q1
       have HQ3:=Lib.hid q3
       have HRK:Hid (r.length+1≤1000):=by
        have:=rowsL_len r (List.mem_of_getElem? hr)
        show _≤_
        omega
       have HSS:=Lib.hid (stepAcc_succ hr)
       have hsl:=stepAcc_len (K:=K) (h:=h) (g:=g) (n:=n) hmo
       have HDE:Hid (rowAcc (stepAcc K h g n) r 0=stepAcc K h g n):=rowAcc_zero _ _
       clear hr q1 q3
       generalize stepAcc K h g n=acc at *
       go_wp2_with fail
       go_loopw [8,10] (fun v i W=>∃ (m:Nat) (E:Option Addr) (e:Nat),m≤mostN K h g+1∧i=.int .i64 m∧v=.slice E (rowAcc acc r m).length e∧Hid (RowT W wq.heap.size E e (rowAcc acc r m))∧Hid (Grown wq W)) (fun _ i _=>mostN K h g+1-(intOf i).toNat)
       case atStart=>exact⟨0,D,d,Nat.zero_le _,rfl,by rw[HDE.out],by rw[HDE.out];exact HD,HGQ⟩
       case round =>
        clear HD HGQ
        obtain⟨m,E,e,hm,rfl,rfl,HE,HGR⟩:=hrel
        by_cases hml:m≤mostN K h g
        ·have i4:(m:Int)≤mostN K h g:=by omega
         have q1:=HGR.out.cell HQ1.out
         have HCI:=Lib.hid (copyInts_any (fs:=fs) r rA rc wr ((HQ3.out.keep (T:=fun _=>True) trivial (.of_grown HGR.out)).1) q2)
         have HRS:=Lib.hid (rowAcc_succ acc r m)
         have HLE:=Lib.hid (rowAcc_len acc r m)
         generalize rowAcc acc r m=racc at *
         go_wp2_with (first|(go_at_call 33;refine HCI.out.mono ?_;rintro e w1 ⟨A1,c1,rfl,hg1,ho1⟩;have HG1:=Lib.hid hg1;have HO1:=Lib.hid ho1;clear hg1 ho1)|(at_builtin;first|(refine L.wpl_app_ints rfl (.tmp 62) (.tmp 64) 22 rfl wr.heap.size ((like_under 22).trans Try.underlying22) inf3 A1 c1 r rfl (own_grown HO1.out (Grown.alloc _ _)) (w1.heap.size+1) (some ⟨w1.heap.size,0,none⟩) 1 [(m:Int)] rfl (ints_one _ _) (by simp;omega) (by have:=HG1.out.size;simp;omega) ?_;intro A2 c2 w2 hO2 hg2 _;have HO2:=Lib.hid hO2;have HG2:=Lib.hid (Grown.by hg2 wr (HG1.out.trans (Grown.alloc _ _)) fun k hk=>(zT HO1.out hk).1);clear hO2 hg2)|(obtain⟨s1,s2⟩:=lit_own HO2.out HRK.out;have HGA:=Lib.hid (HG2.out.trans (Grown.alloc w2 (.cells #[.slice A2 (r.length+1) c2] 22)));have HE2:=Lib.hid (HE.out.grown HGA.out);refine wpl_app_rows rfl (.tmp 57) (.tmp 66) rfl wq.heap.size ((like_under 32).trans Try.underlying32) inf22 (A:=E) (c:=e) (rows:=racc) rfl HE2.out (B:=some ⟨w2.heap.size,0,none⟩) (c2:=1) (ys:=[r++[(m:Int)]]) rfl rfl s1 s2 (by have:=HLE.out;simp;omega) (by have:=HG2.out.size;have:=HGR.out.size;simp;omega) ?_;intro A4 c4 w4 hR4 hg4 _;have HR4:=Lib.hid hR4;have HG4:=Lib.hid (Grown.by hg4 wq (HGR.out.trans HGA.out) fun k hk=>(zT HE2.out.choose_spec.1 hk).1);clear hR4 hg4 s1 s2)))
         go_roundw
         case rel=>exact⟨m+1,A4,c4,by omega,by go_num,by rw[HRS.out,List.length_append];rfl,by rw[HRS.out];exact HR4,HG4⟩
         case measure=>simp[intOf];omega
        ·have i4:¬ (m:Int)≤mostN K h g:=by omega
         obtain rfl:m=mostN K h g+1:=by omega
         go_wp2_with fail
         go_roundw
         case rel=>exact⟨n+1,E,e,by omega,by go_num,by rw[HSS.out],by rw[HSS.out];exact HE,HGR⟩
         case measure=>simp[intOf];omega
      ·have i3:¬ (n:Int)<(rowsL K h g).length:=by omega
       obtain rfl:n=(rowsL K h g).length:=by omega
       go_wp2_with fail
       go_roundw
       case rel=>exact⟨g+1,D,d,by omega,by go_num,by rw[stepAcc_full],by rw[← stepAcc_full];exact Lib.hid (HD.out.lower HGX.out.size),Lib.hid (HGX.out.trans HGQ.out)⟩
       case measure=>simp[intOf];omega
    ·have i2:¬ (g:Int)<K.goods.length:=by omega
     obtain rfl:g=K.goods.length:=by omega
     have HRX:=Lib.hid (HR.out.grown HGX.out)
     have HGV:=Lib.hid (HGW.out.trans HGX.out)
     clear HGW
     generalize wr=wz at *
     clear HGX
     go_wp2_with fail
     clear y0 y1 y2
     have hr16:(rowsL K h K.goods.length).length≤16:=hRC
     go_loopw [11,12] (fun v i W=>∃ (n:Nat) (D:Option Addr) (d:Nat),n≤(allL K h).length∧i=.int .i64 n∧v=.slice D (allStep K h n).length d∧Hid (Row3 W wz.heap.size D d (allStep K h n))∧Hid (Grown wz W)) (fun _ i _=>(allL K h).length-(intOf i).toNat)
     case atStart=>exact⟨0,none,0,Nat.zero_le _,rfl,rfl,Lib.hid (Row3.nil _ _),Lib.hid (Grown.refl _)⟩
     case round =>
      obtain⟨i,D,d,hi,rfl,rfl,HD,HGZ⟩:=hrel
      by_cases hil:i<(allL K h).length
      ·have i3:(i:Int)<(allL K h).length:=by omega
       obtain⟨l,hl⟩:∃ l,(allL K h)[i]?=some l:=⟨_,List.getElem?_eq_getElem hil⟩
       obtain⟨lb,lB,lcc,rfl,q1,q2,q3⟩:=HRX.out.at_ hl
       have hll:l.length=h:=allL_len l (List.mem_of_getElem? hl)
       rw[hll] at q1
       have HQ1:=Lib.hid q1
       have HQ3:=Lib.hid q3
       have HLH:=Lib.hid hll
       have HSS:=Lib.hid (allStep_succ hl)
       have hsl:=allStep_len (K:=K) (h:=h) (n:=i) hr16
       have HDE:Hid (allAcc (allStep K h i) l (rowsL K h K.goods.length) 0=allStep K h i):=allAcc_zero _ _ _
       clear hl hll q1 q3
       generalize allStep K h i=iacc at *
       go_wp2_with fail
       go_loopw [11,13] (fun v i W=>∃ (n:Nat) (D:Option Addr) (d:Nat),n≤(rowsL K h K.goods.length).length∧i=.int .i64 n∧v=.slice D (allAcc iacc l (rowsL K h K.goods.length) n).length d∧Hid (Row3 W wz.heap.size D d (allAcc iacc l (rowsL K h K.goods.length) n))∧Hid (Grown wz W)) (fun _ i _=>(rowsL K h K.goods.length).length-(intOf i).toNat)
       case atStart=>exact⟨0,D,d,Nat.zero_le _,rfl,by rw[HDE.out],by rw[HDE.out];exact HD,HGZ⟩
       case round =>
        clear HD HGZ
        obtain⟨n,A,c,hn,rfl,rfl,HRD,HGY⟩:=hrel
        by_cases hnl:n<(rowsL K h K.goods.length).length
        ·have i4:(n:Int)<(rowsL K h K.goods.length).length:=by omega
         obtain⟨r,hr⟩:∃ r,(rowsL K h K.goods.length)[n]?=some r:=⟨_,List.getElem?_eq_getElem hnl⟩
         obtain⟨rb,ro,rA,rc,rfl,p1,p2,p3⟩:=HB.out.dish.1 n r hr
         have hrl:r.length=K.goods.length:=rowsL_len r (List.mem_of_getElem? hr)
         rw[hrl] at p1
         have HRL:=Lib.hid hrl
         have HAC:=Lib.hid (allAcc_succ (acc:=iacc) (l:=l) hr)
         have hal:=allAcc_len (acc:=iacc) (l:=l) (rows:=rowsL K h K.goods.length) (n:=n)
         have HS1:Hid (wz.cell? ⟨lb,i,none⟩=some (.slice lB h lcc)∧wz.cell? ⟨rb,ro+n,none⟩=some (.slice rA K.goods.length rc)):=⟨HQ1.out,p1⟩
         have hS:=(show wr.drew.cell? ⟨lb,i,none⟩=some (.slice lB h lcc)∧wr.drew.cell? ⟨rb,ro+n,none⟩=some (.slice rA K.goods.length rc) from ⟨(HGY.out.drewN 1).cell HS1.out.1,(HGY.out.drewN 1).cell HS1.out.2⟩)
         have HGZ:=Lib.hid (show Grown wz wr.drew from HGY.out.drewN 1)
         have HR0:=Lib.hid (HRD.out.grown ((Grown.refl wr).drewN 1))
         have HLI:=Lib.hid (HQ3.out.keep (T:=fun _=>True) trivial trivial (.of_grown HGZ.out))
         have HRI:=Lib.hid (p3.keep (T:=fun _=>True) trivial (.of_grown HGZ.out))
         clear hr hrl p1 p3
         generalize allAcc iacc l (rowsL K h K.goods.length) n=acc at *
         go_upto_region 28 with fail
         refine qe (by kernel_rfl) (fun W=>W.cell? ⟨lb,i,none⟩=some (.slice lB h lcc)∧W.cell? ⟨rb,ro+n,none⟩=some (.slice rA K.goods.length rc)) [] ?_
         have HS0:=Lib.hid hS
         change Hid (Row3 wr.drew _ _ _ _) at HR0
         generalize wr.drew=W0 at *
         have HK0:=Lib.hid (Grown.refl W0)
         refine zg 0 ?_ rfl ?_ ?_;case refine_2=>(intro w _;go_simp;try rfl)
         refine zg 2 ?_ rfl ?_ ?_;case refine_2=>(intro w _;go_simp;try rfl)
         refine zg 3 ?_ rfl ?_ ?_;case refine_2=>(intro w _;go_simp;try rfl)
         refine zg 4 ?_ rfl ?_ ?_;case refine_2=>(intro w _;go_simp;try rfl)
         refine zB 5 ?_ rfl hS ?_ ?_;case refine_2=>(intro w hSw;(try dsimp only at hSw);go_simp;try rfl)
         refine zg 7 ?_ rfl ?_ ?_;case refine_2=>(intro w _;go_simp;try rfl)
         refine zg 8 ?_ rfl ?_ ?_;case refine_2=>(intro w _;go_simp;try rfl)
         refine zg 9 ?_ rfl ?_ ?_;case refine_2=>(intro w _;go_simp;try rfl)
         refine zB 10 ?_ rfl hS ?_ ?_;case refine_2=>(intro w hSw;(try dsimp only at hSw);go_simp;try rfl)
         refine wpAnyL_two (i:=1) (j:=11) rfl rfl (by kernel_rfl) ?_ ?_
         ·intro Kq hKq
          go_simp
          have hk1:Grown W0 (W0.alloc (.cells #[] 22)):=HK0.out.trans (Grown.alloc _ _)
          have HK1:=Lib.hid hk1
          have HE:=Lib.hid (show RowT (W0.alloc (.cells #[] 22)) W0.heap.size (some ⟨W0.heap.size,0,none⟩) 0 [] from ⟨[],World.ownsRow_lit W0 #[] 0 HK0.out.size (by decide) (by simp),rfl,fun j l h=>by simp at h⟩)
          have hS:=And.intro (hk1.cell HS0.out.1) (hk1.cell HS0.out.2)
          have HLT0:=Lib.hid (show W0.heap.size<(W0.alloc (.cells #[] 22)).heap.size by simp)
          refine hKq.out _ _ hS (fun _=>?_)
          clear hKq Kq
          generalize hw1:W0.alloc (.cells #[] 22)=W1 at *
          clear hw1
          refine wpAnyL_two (i:=6) (j:=11) rfl rfl (by kernel_rfl) ?_ ?_
          ·intro Kq hKq
           obtain⟨cs6,BB6,q6,t6⟩:=(HLI.out.keep (T:=fun _=>True) trivial trivial (.of_grown HK1.out)).cells
           refine jh rfl (.tmp 82) (.tmp 86) rfl W0.heap.size ((like_under 32).trans Try.underlying32) inf22 (A:=some ⟨W0.heap.size,0,none⟩) (c:=0) (rows:=[]) rfl HE.out (B:=lB) (c2:=lcc) (ys:=l) rfl HLH.out.symm (by rw[← HLH.out];exact q6) t6 (by rw[HLH.out];simp;omega) HK1.out.size ?_
           intro A6 c6 W2 hO6 hg6 _
           simp only[List.nil_append,HLH.out] at hO6 ⊢
           have HO6:=Lib.hid hO6
           have hk2:Grown W0 W2:=Grown.by hg6 W0 HK1.out fun k hk=>(zT HE.out.choose_spec.1 hk).1
           have HK2:=Lib.hid hk2
           have hS:=And.intro (hk2.cell HS0.out.1) (hk2.cell HS0.out.2)
           refine hKq.out _ _ hS (fun _=>?_)
           clear hKq Kq hO6 hg6 q6 t6
           refine zt (i:=11) rfl (by kernel_rfl) ?_
           intro Kq hKq
           go_simp
           have hk3:Grown W0 (W2.alloc (.cells #[.slice rA K.goods.length rc] 22)):=HK2.out.trans (Grown.alloc _ _)
           have HK3:=Lib.hid hk3
           have HD:=Lib.hid (show (W2.alloc (.cells #[.slice rA K.goods.length rc] 22)).heap[W2.heap.size]?=some (.cells #[.slice rA K.goods.length rc] 22 (0,0)) from heap_alloc_new W2 (.cells #[.slice rA K.goods.length rc] 22))
           have HO6:=Lib.hid (HO6.out.grown (Grown.alloc W2 (.cells #[.slice rA K.goods.length rc] 22)))
           have hS:=And.intro (hk3.cell HS0.out.1) (hk3.cell HS0.out.2)
           have HLT2:=Lib.hid (show W2.heap.size<(W2.alloc (.cells #[.slice rA K.goods.length rc] 22)).heap.size by simp)
           refine hKq.out _ _ hS (fun _=>?_)
           clear hKq Kq
           generalize hw3:W2.alloc (.cells #[.slice rA K.goods.length rc] 22)=W3 at *
           clear hw3
           refine zt (i:=12) rfl (by kernel_rfl) ?_
           intro Kq hKq
           have hr12:L.Reads W3 (W2.heap.size+1) 1 (some ⟨W2.heap.size,0,none⟩) 1 [.slice rA K.goods.length rc]:=⟨by simp,fun _=>⟨_,rfl,Nat.lt_succ_self _,fun j u hu=>by (rcases j with _|j);(simp only[List.getElem?_cons_zero,Option.some.injEq] at hu;subst hu;exact za HD.out 0);(simp at hu)⟩⟩
           have ht12:CellsT W3 [r] [.slice rA K.goods.length rc]:=⟨rfl,fun j r' hj=>by (rcases j with _|j);(simp only[List.getElem?_cons_zero,Option.some.injEq] at hj;subst hj;exact⟨rA,rc,by rw[HRL.out];rfl,by rw[HRL.out];omega,HRI.out.keep (T:=fun _=>True) trivial (.of_grown HK3.out)⟩);(simp at hj)⟩
           have HO6':=HO6.out
           refine jh rfl (.tmp 87) (.tmp 92) rfl W0.heap.size ((like_under 32).trans Try.underlying32) inf22 (A:=A6) (c:=c6) (rows:=l) (by rw[HLH.out];rfl) HO6' (B:=some ⟨W2.heap.size,0,none⟩) (c2:=1) (ys:=[r]) rfl rfl hr12 ht12 (by rw[HLH.out];simp;omega) HK3.out.size ?_
           intro A12 c12 W4 hO12 hg12 _
           have HO12:=Lib.hid hO12
           have HK4:=Lib.hid (show Grown W0 W4 from Grown.by hg12 W0 HK3.out fun k hk=>(zT HO6'.choose_spec.1 hk).1)
           simp only[List.length_append,List.length_singleton,HLH.out]
           have hS:=And.intro (HK4.out.cell HS0.out.1) (HK4.out.cell HS0.out.2)
           refine hKq.out _ _ hS (fun _=>?_)
           clear hKq Kq hO12 hg12 hr12 ht12
           refine zt (i:=13) rfl (by kernel_rfl) ?_
           intro Kq hKq
           go_simp
           have HR13:=Lib.hid (Row3.one (c:=c12) HO12.out.dish (show (l++[r]).length=h+1 by simp[HLH.out]) (by omega))
           have HK5:=Lib.hid (HK4.out.trans (Grown.alloc W4 (.cells #[.slice A12 (h+1) c12] 32)))
           have hS:=And.intro (HK5.out.cell HS0.out.1) (HK5.out.cell HS0.out.2)
           refine hKq.out _ _ hS (fun _=>?_)
           clear hKq Kq
           generalize W4.alloc (.cells #[.slice A12 (h+1) c12] 32)=W5 at hS HR13 HK5 ⊢
           generalize W4.heap.size=b13 at HR13 ⊢
           refine zt (i:=14) rfl (by kernel_rfl) ?_
           intro Kq hKq
           obtain⟨cs14,q14,t14⟩:=HR13.out
           refine step_app_row3 rfl (.tmp 81) (.tmp 94) rfl wz.heap.size ((like_under 67).trans Try.underlying67) inf32 (A:=A) (c:=c) (xs:=acc) rfl (HR0.out.grown HK5.out) (B:=some ⟨b13,0,none⟩) (c2:=1) (ys:=[l++[r]]) rfl rfl (L.Reads.of_own q14) t14 (by simp;omega) (by have:=HGZ.out.size;have:=HK5.out.size;omega) ?_
           intro A14 c14 W6 hR14 hg14
           have HR14:=Lib.hid hR14
           have HG14:=Lib.hid (show Grown wz W6 from Grown.by hg14 wz (HGZ.out.trans HK5.out) fun k hk=>(zT (HR0.out.grown HK5.out).choose_spec.1 hk).1)
           have hS:=And.intro (HG14.out.cell HS1.out.1) (HG14.out.cell HS1.out.2)
           refine hKq.out _ _ hS (fun _=>?_)
           clear hKq Kq hR14 hg14 q14 t14
           refine zg 15 ?_ rfl ?_ ?_;case refine_2=>(intro w _;go_simp;try rfl)
           refine zU (by kernel_rfl) ?_
           try simp only[Act.put,List.getElem_toArray,List.getElem_cons_succ,List.getElem_cons_zero,List.setIfInBounds_toArray,List.set_cons_zero,List.set_cons_succ]
           go_wp2_with fail
           go_roundw
           case rel=>first|exact⟨n+1,A14,c14,by omega,by go_num,by rw[HAC.out,List.length_append];rfl,by rw[HAC.out];exact HR14,HG14⟩|exact⟨n+1,by omega,by go_num,A14,c14,⟨rfl,by rw[HAC.out,List.length_append];rfl,rfl⟩,by rw[HAC.out];exact HR14⟩
           case measure=>simp[intOf];omega
          ·intro Kq hKq
           go_simp
           have hk2:Grown W0 (W1.alloc (.cells #[.slice rA K.goods.length rc] 22)):=HK1.out.trans (Grown.alloc _ _)
           have HK2:=Lib.hid hk2
           have HE:=Lib.hid (HE.out.grown (Grown.alloc W1 (.cells #[.slice rA K.goods.length rc] 22)))
           have HD:=Lib.hid (show (W1.alloc (.cells #[.slice rA K.goods.length rc] 22)).heap[W1.heap.size]?=some (.cells #[.slice rA K.goods.length rc] 22 (0,0)) from heap_alloc_new W1 (.cells #[.slice rA K.goods.length rc] 22))
           have hS:=And.intro (hk2.cell HS0.out.1) (hk2.cell HS0.out.2)
           have HLT1:=Lib.hid (show W1.heap.size<(W1.alloc (.cells #[.slice rA K.goods.length rc] 22)).heap.size by simp)
           refine hKq.out _ _ hS (fun _=>?_)
           clear hKq Kq
           generalize hw2:W1.alloc (.cells #[.slice rA K.goods.length rc] 22)=W2 at *
           clear hw2
           refine zt (i:=6) rfl (by kernel_rfl) ?_
           intro Kq hKq
           obtain⟨cs6,BB6,q6,t6⟩:=(HLI.out.keep (T:=fun _=>True) trivial trivial (.of_grown HK2.out)).cells
           refine jh rfl (.tmp 82) (.tmp 86) rfl W0.heap.size ((like_under 32).trans Try.underlying32) inf22 (A:=some ⟨W0.heap.size,0,none⟩) (c:=0) (rows:=[]) rfl HE.out (B:=lB) (c2:=lcc) (ys:=l) rfl HLH.out.symm (by rw[← HLH.out];exact q6) t6 (by rw[HLH.out];simp;omega) HK2.out.size ?_
           intro A6 c6 W3 hO6 hg6 _
           simp only[List.nil_append,HLH.out] at hO6 ⊢
           have HO6:=Lib.hid hO6
           have hk3:Grown W0 W3:=Grown.by hg6 W0 HK2.out fun k hk=>(zT HE.out.choose_spec.1 hk).1
           have HK3:=Lib.hid hk3
           have HD:=Lib.hid ((hg6.block _ (zj HD.out) (by rw[qw];intro q;simp only[Option.map_some,Option.some.injEq] at q;have:=HLT0.out;have:=HLT1.out;omega)).trans HD.out)
           have hS:=And.intro (hk3.cell HS0.out.1) (hk3.cell HS0.out.2)
           refine hKq.out _ _ hS (fun _=>?_)
           clear hKq Kq hO6 hg6 q6 t6
           refine zt (i:=12) rfl (by kernel_rfl) ?_
           intro Kq hKq
           have hr12:L.Reads W3 (W1.heap.size+1) 1 (some ⟨W1.heap.size,0,none⟩) 1 [.slice rA K.goods.length rc]:=⟨by simp,fun _=>⟨_,rfl,Nat.lt_succ_self _,fun j u hu=>by (rcases j with _|j);(simp only[List.getElem?_cons_zero,Option.some.injEq] at hu;subst hu;exact za HD.out 0);(simp at hu)⟩⟩
           have ht12:CellsT W3 [r] [.slice rA K.goods.length rc]:=⟨rfl,fun j r' hj=>by (rcases j with _|j);(simp only[List.getElem?_cons_zero,Option.some.injEq] at hj;subst hj;exact⟨rA,rc,by rw[HRL.out];rfl,by rw[HRL.out];omega,HRI.out.keep (T:=fun _=>True) trivial (.of_grown HK3.out)⟩);(simp at hj)⟩
           have HO6':=HO6.out
           refine jh rfl (.tmp 87) (.tmp 92) rfl W0.heap.size ((like_under 32).trans Try.underlying32) inf22 (A:=A6) (c:=c6) (rows:=l) (by rw[HLH.out];rfl) HO6' (B:=some ⟨W1.heap.size,0,none⟩) (c2:=1) (ys:=[r]) rfl rfl hr12 ht12 (by rw[HLH.out];simp;omega) HK3.out.size ?_
           intro A12 c12 W4 hO12 hg12 _
           have HO12:=Lib.hid hO12
           have HK4:=Lib.hid (show Grown W0 W4 from Grown.by hg12 W0 HK3.out fun k hk=>(zT HO6'.choose_spec.1 hk).1)
           simp only[List.length_append,List.length_singleton,HLH.out]
           have hS:=And.intro (HK4.out.cell HS0.out.1) (HK4.out.cell HS0.out.2)
           refine hKq.out _ _ hS (fun _=>?_)
           clear hKq Kq hO12 hg12 hr12 ht12
           refine zt (i:=13) rfl (by kernel_rfl) ?_
           intro Kq hKq
           go_simp
           have HR13:=Lib.hid (Row3.one (c:=c12) HO12.out.dish (show (l++[r]).length=h+1 by simp[HLH.out]) (by omega))
           have HK5:=Lib.hid (HK4.out.trans (Grown.alloc W4 (.cells #[.slice A12 (h+1) c12] 32)))
           have hS:=And.intro (HK5.out.cell HS0.out.1) (HK5.out.cell HS0.out.2)
           refine hKq.out _ _ hS (fun _=>?_)
           clear hKq Kq
           generalize W4.alloc (.cells #[.slice A12 (h+1) c12] 32)=W5 at hS HR13 HK5 ⊢
           generalize W4.heap.size=b13 at HR13 ⊢
           refine zt (i:=14) rfl (by kernel_rfl) ?_
           intro Kq hKq
           obtain⟨cs14,q14,t14⟩:=HR13.out
           refine step_app_row3 rfl (.tmp 81) (.tmp 94) rfl wz.heap.size ((like_under 67).trans Try.underlying67) inf32 (A:=A) (c:=c) (xs:=acc) rfl (HR0.out.grown HK5.out) (B:=some ⟨b13,0,none⟩) (c2:=1) (ys:=[l++[r]]) rfl rfl (L.Reads.of_own q14) t14 (by simp;omega) (by have:=HGZ.out.size;have:=HK5.out.size;omega) ?_
           intro A14 c14 W6 hR14 hg14
           have HR14:=Lib.hid hR14
           have HG14:=Lib.hid (show Grown wz W6 from Grown.by hg14 wz (HGZ.out.trans HK5.out) fun k hk=>(zT (HR0.out.grown HK5.out).choose_spec.1 hk).1)
           have hS:=And.intro (HG14.out.cell HS1.out.1) (HG14.out.cell HS1.out.2)
           refine hKq.out _ _ hS (fun _=>?_)
           clear hKq Kq hR14 hg14 q14 t14
           refine zg 15 ?_ rfl ?_ ?_;case refine_2=>(intro w _;go_simp;try rfl)
           refine zU (by kernel_rfl) ?_
           try simp only[Act.put,List.getElem_toArray,List.getElem_cons_succ,List.getElem_cons_zero,List.setIfInBounds_toArray,List.set_cons_zero,List.set_cons_succ]
           go_wp2_with fail
           go_roundw
           case rel=>first|exact⟨n+1,A14,c14,by omega,by go_num,by rw[HAC.out,List.length_append];rfl,by rw[HAC.out];exact HR14,HG14⟩|exact⟨n+1,by omega,by go_num,A14,c14,⟨rfl,by rw[HAC.out,List.length_append];rfl,rfl⟩,by rw[HAC.out];exact HR14⟩
           case measure=>simp[intOf];omega
         ·intro Kq hKq
          go_simp
          have hk1:Grown W0 (W0.alloc (.cells #[.slice rA K.goods.length rc] 22)):=HK0.out.trans (Grown.alloc _ _)
          have HK1:=Lib.hid hk1
          have HD:=Lib.hid (show (W0.alloc (.cells #[.slice rA K.goods.length rc] 22)).heap[W0.heap.size]?=some (.cells #[.slice rA K.goods.length rc] 22 (0,0)) from heap_alloc_new W0 (.cells #[.slice rA K.goods.length rc] 22))
          have hS:=And.intro (hk1.cell HS0.out.1) (hk1.cell HS0.out.2)
          have HLT0:=Lib.hid (show W0.heap.size<(W0.alloc (.cells #[.slice rA K.goods.length rc] 22)).heap.size by simp)
          refine hKq.out _ _ hS (fun _=>?_)
          clear hKq Kq
          generalize hw1:W0.alloc (.cells #[.slice rA K.goods.length rc] 22)=W1 at *
          clear hw1
          refine zt (i:=1) rfl (by kernel_rfl) ?_
          intro Kq hKq
          go_simp
          have hk2:Grown W0 (W1.alloc (.cells #[] 22)):=HK1.out.trans (Grown.alloc _ _)
          have HK2:=Lib.hid hk2
          have HE:=Lib.hid (show RowT (W1.alloc (.cells #[] 22)) W0.heap.size (some ⟨W1.heap.size,0,none⟩) 0 [] from ⟨[],World.ownsRow_lit W1 #[] 0 HK1.out.size (by decide) (by simp),rfl,fun j l h=>by simp at h⟩)
          have HD:=Lib.hid (zk HD.out (Grown.alloc W1 (.cells #[] 22)))
          have hS:=And.intro (hk2.cell HS0.out.1) (hk2.cell HS0.out.2)
          have HLT1:=Lib.hid (show W1.heap.size<(W1.alloc (.cells #[] 22)).heap.size by simp)
          refine hKq.out _ _ hS (fun _=>?_)
          clear hKq Kq
          generalize hw2:W1.alloc (.cells #[] 22)=W2 at *
          clear hw2
          refine zt (i:=6) rfl (by kernel_rfl) ?_
          intro Kq hKq
          obtain⟨cs6,BB6,q6,t6⟩:=(HLI.out.keep (T:=fun _=>True) trivial trivial (.of_grown HK2.out)).cells
          refine jh rfl (.tmp 82) (.tmp 86) rfl W0.heap.size ((like_under 32).trans Try.underlying32) inf22 (A:=some ⟨W1.heap.size,0,none⟩) (c:=0) (rows:=[]) rfl HE.out (B:=lB) (c2:=lcc) (ys:=l) rfl HLH.out.symm (by rw[← HLH.out];exact q6) t6 (by rw[HLH.out];simp;omega) HK2.out.size ?_
          intro A6 c6 W3 hO6 hg6 _
          simp only[List.nil_append,HLH.out] at hO6 ⊢
          have HO6:=Lib.hid hO6
          have hk3:Grown W0 W3:=Grown.by hg6 W0 HK2.out fun k hk=>(zT HE.out.choose_spec.1 hk).1
          have HK3:=Lib.hid hk3
          have HD:=Lib.hid ((hg6.block _ (zj HD.out) (by rw[qw];intro q;simp only[Option.map_some,Option.some.injEq] at q;have:=HLT0.out;have:=HLT1.out;omega)).trans HD.out)
          have hS:=And.intro (hk3.cell HS0.out.1) (hk3.cell HS0.out.2)
          refine hKq.out _ _ hS (fun _=>?_)
          clear hKq Kq hO6 hg6 q6 t6
          refine zt (i:=12) rfl (by kernel_rfl) ?_
          intro Kq hKq
          have hr12:L.Reads W3 (W0.heap.size+1) 1 (some ⟨W0.heap.size,0,none⟩) 1 [.slice rA K.goods.length rc]:=⟨by simp,fun _=>⟨_,rfl,Nat.lt_succ_self _,fun j u hu=>by (rcases j with _|j);(simp only[List.getElem?_cons_zero,Option.some.injEq] at hu;subst hu;exact za HD.out 0);(simp at hu)⟩⟩
          have ht12:CellsT W3 [r] [.slice rA K.goods.length rc]:=⟨rfl,fun j r' hj=>by (rcases j with _|j);(simp only[List.getElem?_cons_zero,Option.some.injEq] at hj;subst hj;exact⟨rA,rc,by rw[HRL.out];rfl,by rw[HRL.out];omega,HRI.out.keep (T:=fun _=>True) trivial (.of_grown HK3.out)⟩);(simp at hj)⟩
          have HO6':=HO6.out
          refine jh rfl (.tmp 87) (.tmp 92) rfl W0.heap.size ((like_under 32).trans Try.underlying32) inf22 (A:=A6) (c:=c6) (rows:=l) (by rw[HLH.out];rfl) HO6' (B:=some ⟨W0.heap.size,0,none⟩) (c2:=1) (ys:=[r]) rfl rfl hr12 ht12 (by rw[HLH.out];simp;omega) HK3.out.size ?_
          intro A12 c12 W4 hO12 hg12 _
          have HO12:=Lib.hid hO12
          have HK4:=Lib.hid (show Grown W0 W4 from Grown.by hg12 W0 HK3.out fun k hk=>(zT HO6'.choose_spec.1 hk).1)
          simp only[List.length_append,List.length_singleton,HLH.out]
          have hS:=And.intro (HK4.out.cell HS0.out.1) (HK4.out.cell HS0.out.2)
          refine hKq.out _ _ hS (fun _=>?_)
          clear hKq Kq hO12 hg12 hr12 ht12
          refine zt (i:=13) rfl (by kernel_rfl) ?_
          intro Kq hKq
          go_simp
          have HR13:=Lib.hid (Row3.one (c:=c12) HO12.out.dish (show (l++[r]).length=h+1 by simp[HLH.out]) (by omega))
          have HK5:=Lib.hid (HK4.out.trans (Grown.alloc W4 (.cells #[.slice A12 (h+1) c12] 32)))
          have hS:=And.intro (HK5.out.cell HS0.out.1) (HK5.out.cell HS0.out.2)
          refine hKq.out _ _ hS (fun _=>?_)
          clear hKq Kq
          generalize W4.alloc (.cells #[.slice A12 (h+1) c12] 32)=W5 at hS HR13 HK5 ⊢
          generalize W4.heap.size=b13 at HR13 ⊢
          refine zt (i:=14) rfl (by kernel_rfl) ?_
          intro Kq hKq
          obtain⟨cs14,q14,t14⟩:=HR13.out
          refine step_app_row3 rfl (.tmp 81) (.tmp 94) rfl wz.heap.size ((like_under 67).trans Try.underlying67) inf32 (A:=A) (c:=c) (xs:=acc) rfl (HR0.out.grown HK5.out) (B:=some ⟨b13,0,none⟩) (c2:=1) (ys:=[l++[r]]) rfl rfl (L.Reads.of_own q14) t14 (by simp;omega) (by have:=HGZ.out.size;have:=HK5.out.size;omega) ?_
          intro A14 c14 W6 hR14 hg14
          have HR14:=Lib.hid hR14
          have HG14:=Lib.hid (show Grown wz W6 from Grown.by hg14 wz (HGZ.out.trans HK5.out) fun k hk=>(zT (HR0.out.grown HK5.out).choose_spec.1 hk).1)
          have hS:=And.intro (HG14.out.cell HS1.out.1) (HG14.out.cell HS1.out.2)
          refine hKq.out _ _ hS (fun _=>?_)
          clear hKq Kq hR14 hg14 q14 t14
          refine zg 15 ?_ rfl ?_ ?_;case refine_2=>(intro w _;go_simp;try rfl)
          refine zU (by kernel_rfl) ?_
          try simp only[Act.put,List.getElem_toArray,List.getElem_cons_succ,List.getElem_cons_zero,List.setIfInBounds_toArray,List.set_cons_zero,List.set_cons_succ]
          go_wp2_with fail
          go_roundw
          case rel=>first|exact⟨n+1,A14,c14,by omega,by go_num,by rw[HAC.out,List.length_append];rfl,by rw[HAC.out];exact HR14,HG14⟩|exact⟨n+1,by omega,by go_num,A14,c14,⟨rfl,by rw[HAC.out,List.length_append];rfl,rfl⟩,by rw[HAC.out];exact HR14⟩
          case measure=>simp[intOf];omega
        ·have i4:¬ (n:Int)<(rowsL K h K.goods.length).length:=by omega
         obtain rfl:n=(rowsL K h K.goods.length).length:=by omega
         go_wp2_with fail
         go_roundw
         case rel=>exact⟨i+1,A,c,by omega,by go_num,by rw[HSS.out],by rw[HSS.out];exact HRD,HGY⟩
         case measure=>simp[intOf];omega
      ·have i3:¬ (i:Int)<(allL K h).length:=by omega
       obtain rfl:i=(allL K h).length:=by omega
       go_wp2_with fail
       go_roundw
       case rel=>exact⟨h+1,D,d,by omega,by go_num,by rw[allStep_full],by rw[← allStep_full];exact Lib.hid (HD.out.lower HGV.out.size),Lib.hid (HGV.out.trans HGZ.out)⟩
       case measure=>simp[intOf];omega
  ·have i1:¬ (h:Int)<K.hauls.length:=by omega
   obtain rfl:h=K.hauls.length:=by omega
   go_wp2_with fail
   refine bodyPost_ret (v:=.slice A (allL K K.hauls.length).length c) (by simp[results,Try.results49,go_sem]) rfl ⟨A,c,rfl,HVG.out.trans HGW.out,HR.out.lower HVG.out.size⟩
end
end Go.Gal
