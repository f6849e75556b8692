/- Writes into own rows of records; a kitchen of one's own; walks: covered. Plain laws: some loads will do (feas): with more that is there, and with fewer covers, too. Walks: GalleyCovers (printed by gen_law4.py). -/
import Derived.Test.YtlgiofglcgbjgaaM42
section
namespace Go.Gal
open Go Go.Par Go.Proofs Go.RowKit
theorem own_put {w:World} {base e size n:Nat} {A:Option Addr} {c:Nat} {xs:List Value} (h:w.ownsRow base e size (.slice A n c) n xs) {i:Nat} (hi:i < n * size) (v:Value) :
  ∃ b cur,A=some ⟨b,0,none⟩∧base≤b∧w.heap[b]? = some (.cells cur e (0,0))∧(∃ old,w.cell? ⟨b,i,none⟩=some old)∧(w.setCell ⟨b,i,none⟩ v).ownsRow base e size (.slice A n c) n (xs.set i v):=by
 obtain ⟨hl,h2⟩:=h
 rcases h2 with ⟨_,q⟩ | ⟨g,cap,cur,hv,hg,hh,hn,hm,hsz,htk⟩
 ·subst q;simp at hi
 ·injection hv with hA hcn hcc
  subst hA
  have hc2:n * size≤cap * size:=Nat.mul_le_mul_right _ hn
  refine ⟨g,cur,rfl,hg,hh,⟨cur[i]'(by omega),by rw [blk_cell hh,Array.getElem?_eq_getElem (by omega)]⟩,by simpa using hl,.inr ⟨g,cap,cur.setIfInBounds i v,by rw [hcc],hg,blk_set hh v,hn,hm,by simpa using hsz,?_⟩⟩
  rw [Array.toList_setIfInBounds,List.take_set,htk]
section
variable {α : Type} {e size:Nat} {enc : α→Option Addr→Nat→List Value} {inn : α→List Int} {w w':World} {base top c:Nat} {A:Option Addr} {xs:List α}
theorem RecList.put1 (h:RecList e size enc inn w base top A c xs) (he:e≠3) {j i:Nat} {x y : α} {v:Value} (hj:xs[j]? = some x) (hi:i < size) (hs:∀ x B cc,(enc x B cc).length=size) (hy:∀ B cc,enc y B cc=(enc x B cc).set i v) (hin:inn y=inn x) :
  ∃ b,A=some ⟨b,0,none⟩∧(∃ cur,w.heap[b]? = some (.cells cur e (0,0)))∧(∃ old,w.cell? ⟨b,j * size + i,none⟩=some old)∧w.frozen? ⟨b,j * size + i,none⟩=false∧RecList e size enc inn (w.setCell ⟨b,j * size + i,none⟩ v) base top A c (xs.set j y):=by
 obtain ⟨cells,As,cs,h1,h2,h3⟩:=h
 have hjl:j < xs.length:=(List.getElem?_eq_some_iff.1 hj).1
 have hb:j * size + i < xs.length * size:=by
  have:(j + 1) * size≤xs.length * size:=Nat.mul_le_mul_right _ hjl
  rw [Nat.add_mul] at this
  omega
 obtain ⟨b,cur,rfl,hbb,hh,hold,hp⟩:=own_put h1 hb v
 refine ⟨b,rfl,⟨cur,hh⟩,hold,blk_frozen hh _,cells.set (j * size + i) v,As,cs,by rw [List.length_set];exact hp,fun j' z hz=>?_,by rw [List.length_set];exact h3⟩
 have hOK:∀ {D:Option Addr} {cd:Nat} {l:List Int},L.OwnInts w base D cd l→L.OwnInts (w.setCell ⟨b,j * size + i,none⟩ v) base D cd l:=fun {D cd l} hO=>own_keep hO fun k hk _=>Below.heap_setCell _ _ _ _ (by
  obtain ⟨cc,q⟩:=own_tag hO hk
  exact tag_ne q hh (fun q=>he q.symm))
 by_cases hjj:j'=j
 ·subst hjj
  rw [List.getElem?_set_self hjl] at hz
  cases hz
  obtain ⟨k1,k2,k3⟩:=h2 j' x hj
  refine ⟨fun i' u hu=>?_,by rw [hin];exact hOK k2,k3⟩
  rw [hy] at hu
  by_cases hii:i'=i
  ·subst hii
   have hlen:i' < (enc x (As j') (cs j')).length:=by rw [hs];exact hi
   rw [List.getElem?_set_self hlen] at hu
   cases hu
   rw [List.getElem?_set_self (by rw [h1.1];exact hb)]
  ·rw [List.getElem?_set_ne (fun q=>hii q.symm)] at hu
   rw [List.getElem?_set_ne (by omega)]
   exact k1 i' u hu
 ·rw [List.getElem?_set_ne (fun q=>hjj q.symm)] at hz
  obtain ⟨k1,k2,k3⟩:=h2 j' z hz
  refine ⟨fun i' u hu=>?_,hOK k2,k3⟩
  have hi':i' < size:=by have:=(List.getElem?_eq_some_iff.1 hu).1;rwa [hs] at this
  rw [List.getElem?_set_ne (fun q=>?_)]
  ·exact k1 i' u hu
  ·rcases Nat.lt_or_ge j' j with q1 | q1
   ·have:(j' + 1) * size≤j * size:=Nat.mul_le_mul_right _ q1
    rw [Nat.add_mul] at this
    omega
   ·have:(j + 1) * size≤j' * size:=Nat.mul_le_mul_right _ (by omega)
    rw [Nat.add_mul] at this
    omega
end
section
variable {w:World} {base:Nat} {K:Kt} {gA:Option Addr} {gc:Nat} {dA:Option Addr} {dc:Nat} {hA:Option Addr} {hc:Nat}
theorem KOwn.kt (h:KOwn w base K gA gc dA dc hA hc) (hd:∀ d∈K.dishes,d.length≤1000) (hp:∀ x∈K.hauls,x.prices.length≤1000) (n1:K.goods.length≤1000) (n2:K.dishes.length≤1000) (n3:K.hauls.length≤1000):KtAt w K gA dA hA:=by
 obtain ⟨m,h1,h2,h3,h4,h5⟩:=h
 exact ⟨GdList.at_ h3,DsList.at_ h4 hd,HlList.at_ h5 hp,n1,n2,n3⟩
theorem KOwn.box (h:KOwn w base K gA gc dA dc hA hc) {p:Addr} {cs:Array Value} (hp:w.heap[p.block]? = some (.cells cs 29 (0,0))) (u:Value):KOwn (w.setCell p u) base K gA gc dA dc hA hc:=by
 obtain ⟨m,h1,h2,h3,h4,h5⟩:=h
 exact ⟨m,h1,by rw [size_setCell];exact h2,h3.box hp (by decide) u,h4.box hp (by decide) u,by rw [size_setCell];exact h5.box hp (by decide) u⟩
theorem KOwn.box3 (h:KOwn w base K gA gc dA dc hA hc) {b:Nat} {x y z:Value} (hp:w.heap[b]? = some (.cells #[x,y,z] 29 (0,0))) (u1 u2 u3:Value):KOwn (((w.setCell ⟨b,0,none⟩ u1).setCell ⟨b,1,none⟩ u2).setCell ⟨b,2,none⟩ u3) base K gA gc dA dc hA hc:=by
 have e1:=blk_set hp (i:=0) u1
 have e2:=blk_set e1 (i:=1) u2
 exact ((h.box (p:=⟨b,0,none⟩) hp u1).box (p:=⟨b,1,none⟩) e1 u2).box (p:=⟨b,2,none⟩) e2 u3
theorem KOwn.covers (h:KOwn w base K gA gc dA dc hA hc) {j:Nat} {x:Hl} {v:Int} (hj:K.hauls[j]? = some x) :
  ∃ b,hA=some ⟨b,0,none⟩∧base≤b∧(∃ old,w.cell? ⟨b,j * 3 + 1,none⟩=some old)∧w.frozen? ⟨b,j * 3 + 1,none⟩=false ∧
   KOwn (w.setCell ⟨b,j * 3 + 1,none⟩ (.int .i64 v)) base { K with hauls:=K.hauls.set j { x with covers:=v } } gA gc dA dc hA hc:=by
 obtain ⟨m,h1,h2,h3,h4,h5⟩:=h
 obtain ⟨b,e1,⟨cur,e2⟩,e3,e4,e5⟩:=RecList.put1 (y:={ x with covers:=v }) (v:=.int .i64 v) h5 (by decide) hj (i:=1) (by decide) (fun _ _ _=>rfl) (fun _ _=>rfl) rfl
 obtain ⟨_,_,_,q1,q2,_⟩:=RecList.at_ h5 (fun _ _ _=>rfl) hj
 rw [e1] at q1
 injection q1 with q1
 injection q1 with q1 _
 subst q1
 exact ⟨b,e1,by omega,e3,e4,m,h1,by rw [size_setCell];exact h2,h3.setCell (p:=⟨b,j * 3 + 1,none⟩) e2 (by decide) (by decide) _,h4.setCell (p:=⟨b,j * 3 + 1,none⟩) e2 (by decide) (by decide) _,by rw [size_setCell];exact e5⟩
end
section
variable {fs:Array Func} [Like fs]
set_option maxRecDepth 20000 in
set_option maxHeartbeats 2000000 in
theorem covered_any (K:Kt) (gA0 dA0 hA0:Option Addr) (gc0 dc0 hc0:Nat) (haul:Nat) (n:Int) (w:World) (hK:KtAt w K gA0 dA0 hA0) (hh:haul < K.hauls.length) :
  Calls (Pf fs) 30 #[ktV K gA0 dA0 hA0 gc0 dc0 hc0,.int .i64 haul,.int .i64 n] w fun e w'=>∃ gA gc dA dc hA hc,e=.returned (ktV (covK K haul n) gA dA hA gc dc hc)∧KtAt w' (covK K haul n) gA dA hA∧Grown w w':=by
 have hCK:=fun W (g:Grown w W)=>copyKitchen_any (fs:=fs) K gA0 dA0 hA0 gc0 dc0 hc0 W (hK.grown g)
 have HCK:=Lib.hid hCK
 clear hCK
 unfold ktV at *
 go_enter LK.func30,Try.ntmps30
 have hG2:Grown w ((w.alloc (.cells #[.slice gA0 K.goods.length gc0,.slice dA0 K.dishes.length dc0,.slice hA0 K.hauls.length hc0] 29)).alloc (.cells #[.slice none 0 0,.slice none 0 0,.slice none 0 0] 29)):=(Grown.alloc _ _).trans (Grown.alloc _ _)
 have hbx:((w.alloc (.cells #[.slice gA0 K.goods.length gc0,.slice dA0 K.dishes.length dc0,.slice hA0 K.hauls.length hc0] 29)).alloc (.cells #[.slice none 0 0,.slice none 0 0,.slice none 0 0] 29)).heap[w.heap.size]? = some (.cells #[.slice gA0 K.goods.length gc0,.slice dA0 K.dishes.length dc0,.slice hA0 K.hauls.length hc0] 29 (0,0)):=blk_alloc (heap_alloc_new w _) _
 have hrs:((w.alloc (.cells #[.slice gA0 K.goods.length gc0,.slice dA0 K.dishes.length dc0,.slice hA0 K.hauls.length hc0] 29)).alloc (.cells #[.slice none 0 0,.slice none 0 0,.slice none 0 0] 29)).heap[w.heap.size + 1]? = some (.cells #[.slice none 0 0,.slice none 0 0,.slice none 0 0] 29 (0,0)):=by
  have:=heap_alloc_new (w.alloc (.cells #[.slice gA0 K.goods.length gc0,.slice dA0 K.dishes.length dc0,.slice hA0 K.hauls.length hc0] 29)) (.cells #[.slice none 0 0,.slice none 0 0,.slice none 0 0] 29)
  simpa using this
 have HG2:=Lib.hid hG2
 have HBX:=Lib.hid hbx
 have HRS:=Lib.hid hrs
 have HK:=Lib.hid hK
 have hz2:((w.alloc (.cells #[.slice gA0 K.goods.length gc0,.slice dA0 K.dishes.length dc0,.slice hA0 K.hauls.length hc0] 29)).alloc (.cells #[.slice none 0 0,.slice none 0 0,.slice none 0 0] 29)).heap.size=w.heap.size + 1 + 1:=by simp
 have HZ2:=Lib.hid hz2
 have hlD:∀ d∈K.dishes,d.length≤1000:=fun d hd=>by
  obtain ⟨j,hj,rfl⟩:=List.getElem_of_mem hd
  obtain ⟨_,_,_,_,_,_,_,h⟩:=hK.dishes j _ (List.getElem?_eq_getElem hj)
  exact h
 have hlP:∀ x∈K.hauls,x.prices.length≤1000:=fun d hd=>by
  obtain ⟨j,hj,rfl⟩:=List.getElem_of_mem hd
  obtain ⟨_,_,_,_,_,_,_,_,_,h⟩:=hK.hauls j _ (List.getElem?_eq_getElem hj)
  exact h
 have HLD:=Lib.hid hlD
 have HLP:=Lib.hid hlP
 clear hG2 hbx hrs hK hz2 hlD hlP
 go_upto_region 2 with (go_at_call 26;refine (HCK.out _ HG2.out).mono ?_;rintro e w1 ⟨gA,gc,dA,dc,hA,hc,rfl,hO1,hg1⟩;have hb1:=blk_grown HBX.out hg1;have a0:=blk_cell hb1 0;have a1:=blk_cell hb1 1;have a2:=blk_cell hb1 2;have f0:=blk_frozen hb1 0;have f1:=blk_frozen hb1 1;have f2:=blk_frozen hb1 2;simp only [List.getElem?_toArray,List.getElem?_cons_zero,List.getElem?_cons_succ] at a0 a1 a2;have HB1:=Lib.hid hb1;have HR1:=Lib.hid (blk_grown HRS.out hg1);have HO1:=Lib.hid hO1;have HG1:=Lib.hid (HG2.out.trans hg1);clear hb1 hO1 hg1)
 have hb2:=blk_set3 HB1.out (.slice gA K.goods.length gc) (.slice dA K.dishes.length dc) (.slice hA K.hauls.length hc)
 have hO2:=HO1.out.box3 HB1.out (.slice gA K.goods.length gc) (.slice dA K.dishes.length dc) (.slice hA K.hauls.length hc)
 have hg2:=grown_set3 HG1.out (Nat.le_refl _) (.slice gA K.goods.length gc) (.slice dA K.dishes.length dc) (.slice hA K.hauls.length hc)
 have hr2:(((w1.setCell ⟨w.heap.size,0,none⟩ (.slice gA K.goods.length gc)).setCell ⟨w.heap.size,1,none⟩ (.slice dA K.dishes.length dc)).setCell ⟨w.heap.size,2,none⟩ (.slice hA K.hauls.length hc)).heap[w.heap.size + 1]? = some (.cells #[.slice none 0 0,.slice none 0 0,.slice none 0 0] 29 (0,0)):=by
  rw [Below.heap_setCell _ _ _ _ (by simp),Below.heap_setCell _ _ _ _ (by simp),Below.heap_setCell _ _ _ _ (by simp)]
  exact HR1.out
 generalize (((w1.setCell ⟨w.heap.size,0,none⟩ (.slice gA K.goods.length gc)).setCell ⟨w.heap.size,1,none⟩ (.slice dA K.dishes.length dc)).setCell ⟨w.heap.size,2,none⟩ (.slice hA K.hauls.length hc))=w2 at hb2 hO2 hg2 hr2 ⊢
 clear a0 a1 a2 f0 f1 f2 HB1 HR1 HO1 HG1
 obtain ⟨hb,rfl,hbb,⟨old,c1⟩,f1,hO3⟩:=hO2.covers (v:=n) (List.getElem?_eq_getElem hh)
 rw [HZ2.out] at hbb
 have a0:=blk_cell hb2 0
 have a1:=blk_cell hb2 1
 have a2:=blk_cell hb2 2
 simp only [List.getElem?_toArray,List.getElem?_cons_zero,List.getElem?_cons_succ] at a0 a1 a2
 have hhi:(haul:Int) < (K.hauls.length:Int):=by omega
 have hO3':KOwn (w2.setCell ⟨hb,haul * 3 + 1,none⟩ (.int .i64 n)) ((w.alloc (.cells #[.slice gA0 K.goods.length gc0,.slice dA0 K.dishes.length dc0,.slice hA0 K.hauls.length hc0] 29)).alloc (.cells #[.slice none 0 0,.slice none 0 0,.slice none 0 0] 29)).heap.size (covK K haul n) gA gc dA dc (some ⟨hb,0,none⟩) hc:=by
  unfold covK
  rw [show hlAt K.hauls haul=K.hauls[haul] by unfold hlAt;rw [List.getD_eq_getElem?_getD,List.getElem?_eq_getElem hh];rfl]
  exact hO3
 have hb3:(w2.setCell ⟨hb,haul * 3 + 1,none⟩ (.int .i64 n)).heap[w.heap.size]? = _:=(Below.heap_setCell _ _ _ _ (by simp only;omega)).trans hb2
 have hr3:(w2.setCell ⟨hb,haul * 3 + 1,none⟩ (.int .i64 n)).heap[w.heap.size + 1]? = _:=(Below.heap_setCell _ _ _ _ (by simp only;omega)).trans hr2
 have hg3:Grown w (w2.setCell ⟨hb,haul * 3 + 1,none⟩ (.int .i64 n)):=⟨by rw [size_setCell];exact hg2.size,fun b hb=>by rw [Below.heap_setCell _ _ _ _ (by simp only;omega)];exact hg2.same b hb,hg2.os⟩
 have HO3:=Lib.hid hO3'
 have HB3:=Lib.hid hb3
 have HR3:=Lib.hid hr3
 have HG3:=Lib.hid hg3
 clear hO3 hO3' hb2 hO2 hg2 hr2 hb3 hr3 hg3
 go_upto_region 3 with fail
 generalize w2.setCell ⟨hb,haul * 3 + 1,none⟩ (.int .i64 n)=w3 at HO3 HB3 HR3 HG3 ⊢
 clear a0 a1 a2 c1 f1
 have a0:=blk_cell HB3.out 0
 have a1:=blk_cell HB3.out 1
 have a2:=blk_cell HB3.out 2
 have r0:=blk_cell HR3.out 0
 have r1:=blk_cell HR3.out 1
 have r2:=blk_cell HR3.out 2
 have f0:=blk_frozen HR3.out 0
 have f1:=blk_frozen HR3.out 1
 have f2:=blk_frozen HR3.out 2
 simp only [List.getElem?_toArray,List.getElem?_cons_zero,List.getElem?_cons_succ] at a0 a1 a2 r0 r1 r2
 have hF:=blk_set3 HR3.out (.slice gA K.goods.length gc) (.slice dA K.dishes.length dc) (.slice (some ⟨hb,0,none⟩) K.hauls.length hc)
 have HF:=Lib.hid hF
 have hO4:=HO3.out.box3 HR3.out (.slice gA K.goods.length gc) (.slice dA K.dishes.length dc) (.slice (some ⟨hb,0,none⟩) K.hauls.length hc)
 have hg4:=grown_set3 HG3.out (Nat.le_succ _) (.slice gA K.goods.length gc) (.slice dA K.dishes.length dc) (.slice (some ⟨hb,0,none⟩) K.hauls.length hc)
 have HO4:=Lib.hid hO4
 have HG4:=Lib.hid hg4
 clear hF hO4 hg4
 go_wp2_with fail
 have c0:=blk_cell HF.out 0
 have c1:=blk_cell HF.out 1
 have c2:=blk_cell HF.out 2
 simp only [List.getElem?_toArray,List.getElem?_cons_zero,List.getElem?_cons_succ] at c0 c1 c2
 refine bodyPost_ret (v:=.agg #[.slice gA K.goods.length gc,.slice dA K.dishes.length dc,.slice (some ⟨hb,0,none⟩) K.hauls.length hc]) (by simp [results,Try.results30,go_sem,c0,c1,c2]) rfl ?_
 refine ⟨gA,gc,dA,dc,some ⟨hb,0,none⟩,hc,by simp [covK],HO4.out.kt HLD.out (fun x hx=>?_) HK.out.ng HK.out.nd (by simpa [covK] using HK.out.nh),HG4.out⟩
 unfold covK at hx
 rcases List.mem_or_eq_of_mem_set hx with hx | rfl
 ·exact HLP.out x hx
 ·simp only
  rw [show hlAt K.hauls haul=K.hauls[haul] by unfold hlAt;rw [List.getD_eq_getElem?_getD,List.getElem?_eq_getElem hh];rfl]
  exact HLP.out _ (List.getElem_mem hh)
end
end Go.Gal
end
section
namespace Go.Gal
open Go Go.Par Go.Proofs Go.RowKit
def feas (D:Good1) (hs:List Haul1) (t:Nat):Bool:=!(planFrom D hs t).2.2
def goes (D:Good1) (h:Haul1) (rest:Nat→Bool) (t n:Nat):Bool:=decide ((D.reserve:Int)≤after D h (t + n)) && rest (after D h (t + n)).toNat
theorem fold_bad {D:Good1} {h:Haul1} {R:Nat→Plan} {t:Nat} : ∀ (l:List Nat) (b:Plan),(l.foldl (tryN D h R t) b).2.2=(b.2.2 && !(l.any fun n=>goes D h (fun x=>!(R x).2.2) t n))
 | [],b=>by simp
 | n :: l,b=>by
  rw [List.foldl_cons,fold_bad l,List.any_cons]
  have key:(tryN D h R t b n).2.2=(b.2.2 && !(goes D h (fun x=>!(R x).2.2) t n)):=by
   unfold tryN goes
   split
   ·rename_i h1
    have:decide ((D.reserve:Int)≤after D h (t + n))=false:=decide_eq_false (by omega)
    rw [this];simp
   ·rename_i h1
    have:decide ((D.reserve:Int)≤after D h (t + n))=true:=decide_eq_true (by omega)
    rw [this]
    dsimp only
    cases hR:(R (after D h (t + n)).toNat).2.2<;>cases hb:b.2.2<;>simp<;>(try split)<;>simp_all
  rw [key]
  cases b.2.2<;>cases goes D h (fun x=>!(R x).2.2) t n<;>simp
theorem feas_cons (D:Good1) (h:Haul1) (hs:List Haul1) (t:Nat):feas D (h :: hs) t=(List.range (tries D h t)).any (goes D h (feas D hs) t):=by
 unfold feas
 rw [planFrom,fold_bad]
 simp
theorem feas_iff {D:Good1} {h:Haul1} {hs:List Haul1} {t:Nat} : feas D (h :: hs) t=true↔∃ n,n < tries D h t∧(D.reserve:Int)≤after D h (t + n)∧feas D hs (after D h (t + n)).toNat=true:=by
 rw [feas_cons,List.any_eq_true]
 constructor
 ·rintro ⟨n,hn,hg⟩
  unfold goes at hg
  simp only [Bool.and_eq_true,decide_eq_true_eq] at hg
  exact ⟨n,by simpa using hn,hg.1,hg.2⟩
 ·rintro ⟨n,hn,h1,h2⟩
  exact ⟨n,by simpa using hn,by unfold goes;simp [h1,h2]⟩
theorem after_mono {D:Good1} {h:Haul1} {x y:Nat} (hxy:x≤y):after D h x≤after D h y:=by
 unfold after
 split
 ·have:min x (h.hours / D.melts) + (y - x) ≥ min y (h.hours / D.melts):=by omega
  omega
 ·omega
structure Easier (h h':Haul1):Prop where
 hours:h.hours=h'.hours
 price:h.price=h'.price
 eaten:h.covers * h.need≤h'.covers * h'.need
theorem after_easier {D:Good1} {h h':Haul1} (e:Easier h h') (x:Nat):after D h' x≤after D h x:=by
 unfold after
 rw [e.hours]
 have:=e.eaten
 omega
theorem tries_room {D:Good1} {h:Haul1} {t n:Nat} (hn:n < tries D h t):t + n≤D.room:=by
 unfold tries at hn
 split at hn<;>omega
theorem feas_more {D:Good1} : ∀ {hs:List Haul1} {t t':Nat},t≤t'→t'≤D.room→feas D hs t=true→feas D hs t'=true
 | [],t,t',_,_,_=>rfl
 | h :: hs,t,t',ht,hr,hf=>by
  obtain ⟨n,hn,h1,h2⟩:=feas_iff.1 hf
  have hx:=tries_room hn
  have key:∃ n',n' < tries D h t'∧t + n≤t' + n'∧t' + n'≤D.room:=by
   rcases Nat.lt_or_ge t' (t + n) with q | q
   ·refine ⟨t + n - t',?_,by omega,by omega⟩
    unfold tries at hn ⊢
    split at hn<;>split<;>omega
   ·refine ⟨0,?_,by omega,by omega⟩
    unfold tries at hn ⊢
    split at hn<;>split<;>omega
  obtain ⟨n',hn',hle,hle2⟩:=key
  have hm:=after_mono (D:=D) (h:=h) hle
  refine feas_iff.2 ⟨n',hn',by omega,feas_more (t:=(after D h (t + n)).toNat) (by omega) ?_ h2⟩
  have:=after_le D h (t' + n')
  omega
inductive EasyAll:List Haul1→List Haul1→Prop
 | nil:EasyAll [] []
 | cons {h h':Haul1} {hs hs':List Haul1} : Easier h h'→EasyAll hs hs'→EasyAll (h :: hs) (h' :: hs')
theorem feas_easier {D:Good1} : ∀ {hs hs':List Haul1} {t:Nat},EasyAll hs hs'→t≤D.room→feas D hs' t=true→feas D hs t=true
 | _,_,t,.nil,_,_=>rfl
 | _,_,t,.cons (h:=h) (h':=h') (hs:=hs) (hs':=hs') e es,ht,hf=>by
  obtain ⟨n,hn,h1,h2⟩:=feas_iff.1 hf
  have hx:=tries_room hn
  have hn':n < tries D h t:=by unfold tries at hn ⊢;rw [e.price];exact hn
  have hm:=after_easier (D:=D) e (t + n)
  have hl:=after_le D h (t + n)
  have hl':=after_le D h' (t + n)
  exact feas_iff.2 ⟨n,hn',by omega,feas_more (t:=(after D h' (t + n)).toNat) (by omega) (by omega) (feas_easier es (by omega) h2)⟩
theorem none_feas (K:Kt) (xs:List Int):noneB K xs=false↔∀ D∈dsOf K xs,feas D D.hauls D.start=true:=by
 unfold noneB
 rw [List.any_eq_false]
 constructor
 ·intro h D hD
  have:=h D hD
  unfold feas
  unfold planOf at this
  simpa using this
 ·intro h D hD
  have:=h D hD
  unfold feas at this
  unfold planOf
  simpa using this
theorem forall_set {l:List Hl} {xs:List Int} {K:Kt} {i j:Nat} {a b:Hl} (hab:∀ x,Easier (haulOf K i a x) (haulOf K i b x)):EasyAll (((l.set j a).zip xs).map fun p=>haulOf K i p.1 p.2) (((l.set j b).zip xs).map fun p=>haulOf K i p.1 p.2):=by
 induction l generalizing xs j with
 | nil=>exact .nil
 | cons y l ih =>
  cases xs with
  | nil=>cases j<;>exact .nil
  | cons x xs =>
   cases j with
   | zero =>
    refine .cons (hab x) ?_
    have:∀ (l:List Hl) (xs:List Int),EasyAll ((l.zip xs).map fun p=>haulOf K i p.1 p.2) ((l.zip xs).map fun p=>haulOf K i p.1 p.2):=by
     intro l
     induction l with
     | nil=>exact fun _=>.nil
     | cons z l ih=>exact fun xs=>by cases xs with
      | nil=>exact .nil
      | cons x xs=>exact .cons ⟨rfl,rfl,Nat.le_refl _⟩ (ih xs)
    exact this l xs
   | succ j=>exact .cons ⟨rfl,rfl,Nat.le_refl _⟩ ih
theorem none_covers {K:Kt} {xs:List Int} {haul:Nat} {c c':Nat} (hC:checkE K=0) (hc:c≤c') (h:noneB (covK K haul c') xs=false):noneB (covK K haul c) xs=false:=by
 rw [none_feas] at h ⊢
 intro D hD
 obtain ⟨i,hi⟩:=List.getElem?_of_mem hD
 rw [dsOf_get] at hi
 cases hg:K.goods[i]? with
 | none=>rw [show (covK K haul c).goods=K.goods from rfl,hg] at hi;cases hi
 | some g =>
  rw [show (covK K haul c).goods=K.goods from rfl,hg] at hi
  cases hi
  have hd':goodOf (covK K haul c') xs i g∈dsOf (covK K haul c') xs:=List.mem_of_getElem? (i:=i) (by rw [dsOf_get,show (covK K haul c').goods=K.goods from rfl,hg];rfl)
  have h1:=h _ hd'
  have hbad:=badGood_false ((goodsE_zero (checkE_zero hC).1).2.2 g (List.mem_of_getElem? hg))
  have hpl:∀ (D D':Good1),D.room=D'.room→D.reserve=D'.reserve→D.melts=D'.melts→∀ hs t,feas D hs t=feas D' hs t:=by
   intro D D' e1 e2 e3 hs
   induction hs with
   | nil=>intro t;rfl
   | cons h hs ih =>
    intro t
    rw [feas_cons,feas_cons]
    have ha:∀ x,after D h x=after D' h x:=fun x=>by unfold after;rw [e3]
    have ht:tries D h t=tries D' h t:=by unfold tries;rw [e1]
    rw [ht]
    congr 1
    funext n
    unfold goes
    rw [e2,ha,ih]
  have e2:∀ c:Nat,feas (goodOf (covK K haul c) xs i g) (goodOf (covK K haul c) xs i g).hauls (goodOf (covK K haul c) xs i g).start=feas (goodOf K xs i g) (((K.hauls.set haul { hlAt K.hauls haul with covers:=(c:Int) }).zip xs).map fun p=>haulOf K i p.1 p.2) (goodOf K xs i g).start:=fun c=>hpl (goodOf (covK K haul c) xs i g) (goodOf K xs i g) rfl rfl rfl _ _
  rw [e2] at h1 ⊢
  have hs:(goodOf K xs i g).start≤(goodOf K xs i g).room:=by unfold goodOf;simp only;omega
  refine feas_easier (forall_set (a:={ hlAt K.hauls haul with covers:=(c:Int) }) (b:={ hlAt K.hauls haul with covers:=(c':Int) }) fun x=>⟨rfl,rfl,?_⟩) hs h1
  unfold haulOf
  exact Nat.mul_le_mul_right _ (by simp;exact hc)
theorem mostTo_some {K:Kt} {xs:List Int} {haul:Nat} : ∀ {n k:Nat},mostTo K xs haul n=some k→k < n∧noneB (covK K haul k) xs=false∧∀ j,k < j→j < n→noneB (covK K haul j) xs=true
 | 0,k,h=>by cases h
 | n + 1,k,h=>by
  unfold mostTo at h
  split at h
  ·rename_i h1
   obtain ⟨a,b,c⟩:=mostTo_some h
   refine ⟨by omega,b,fun j hj hn=>?_⟩
   rcases Nat.lt_or_ge j n with q | q
   ·exact c j hj q
   ·rw [show j=n by omega];exact h1
  ·rename_i h1
   cases h
   exact ⟨by omega,by simpa using h1,fun j hj hn=>by omega⟩
theorem mostTo_none {K:Kt} {xs:List Int} {haul:Nat} : ∀ {n:Nat},mostTo K xs haul n=none→∀ j,j < n→noneB (covK K haul j) xs=true
 | 0,_,j,hj=>by omega
 | n + 1,h,j,hj=>by
  unfold mostTo at h
  split at h
  ·rename_i h1
   rcases Nat.lt_or_ge j n with q | q
   ·exact mostTo_none h j q
   ·rw [show j=n by omega];exact h1
  ·cases h
theorem most_law {K:Kt} {xs:List Int} {haul c:Nat} (hC:checkE K=0) (hc:c≤9):(noneB (covK K haul c) xs=false)↔∃ n,mostTo K xs haul 10=some n∧c≤n:=by
 constructor
 ·intro h
  cases hm:mostTo K xs haul 10 with
  | none=>rw [mostTo_none hm c (by omega)] at h;cases h
  | some n =>
   refine ⟨n,rfl,?_⟩
   obtain ⟨_,_,h3⟩:=mostTo_some hm
   rcases Nat.lt_or_ge n c with q | q
   ·rw [h3 c q (by omega)] at h;cases h
   ·exact q
 ·rintro ⟨n,hm,hcn⟩
  exact none_covers hC hcn (mostTo_some hm).2.1
end Go.Gal
end
section
namespace Go.Gal
open Go Go.Par Go.Proofs Go.RowKit
theorem dealt_valid {K:Kt} {goods room hauls:Nat} (h1 : 1≤K.goods.length∧K.goods.length≤goods∧∀ x∈K.goods,GdOk room x) (h2 : 1≤K.dishes.length∧K.dishes.length≤3∧∀ x∈K.dishes,DsOk K.goods.length x) (h3 : 1≤K.hauls.length∧K.hauls.length≤hauls∧∀ x∈K.hauls,HlOk K.goods.length x)
  (hg:goods≤3) (hr:room≤20) (hh:hauls≤5):checkE K=0:=by
 have e1:goodsE K.goods=0:=by
  unfold goodsE
  rw [manyE_ok (by omega) (by omega),if_neg (by simp),if_neg]
  rw [List.any_eq_true]
  rintro ⟨x,hx,hb⟩
  obtain ⟨⟨a1,a2⟩,⟨b1,b2⟩,⟨c1,c2⟩,⟨d1,d2⟩⟩:=h1.2.2 x hx
  simp [badGood,outB] at hb
  omega
 have e2:dishesE K.goods.length K.dishes=0:=by
  unfold dishesE
  rw [manyE_ok (by omega) (by omega),if_neg (by simp)]
  exact firstE_ok fun d hd=>eachE_ok (by have:=(h2.2.2 d hd).1;omega) (h2.2.2 d hd).2
 have e3:haulsE K.goods.length K.hauls=0:=haulsE_ok h3.1 (by omega) fun x hx=>by
  obtain ⟨⟨a1,a2⟩,⟨b1,b2⟩,c,d⟩:=h3.2.2 x hx
  exact ⟨a1,by omega,b1,b2,c,fun p hp=>⟨(d p hp).1,by have:=(d p hp).2;omega⟩⟩
 unfold checkE
 rw [e1,e2,if_neg (by simp),if_neg (by simp),e3]
theorem asked_of {K:Kt} {xs:List Int} (h1:checkE K=0) (h2:rightE K.dishes.length K.hauls.length xs=0):askedE K xs=0:=by
 unfold askedE
 rw [h1,if_neg (by simp)]
 exact h2
section
variable {fs:Array Func} [LikeS fs]
theorem cheapest_ok (K:Kt) (gA dA hA:Option Addr) (gc dc hc:Nat) (xs:List Int) (mA:Option Addr) (mc:Nat) (w:World) (k:KtAt w K gA dA hA) (m:Ints w mA xs) (hlen:xs.length≤1000) (ha:askedE K xs=0) :
  Calls (Pf fs) 29 #[ktV K gA dA hA gc dc hc,.slice mA xs.length mc] w fun e w'=>∃ (a:Value) (b f:Int),e=.returned (.tuple #[a,.int .i64 b,.int .i64 f])∧Grown w w'∧f=if noneB K xs then 11 else 0:=
 (cheapest_any K gA dA hA gc dc hc xs mA mc w k m hlen).mono fun e w' ⟨v,e1,g,h⟩=>by
  cases h with
  | asked h1=>exact absurd ha h1
  | bad _ h1=>exact ⟨_,_,_,e1,g,by rw [h1];rfl⟩
  | good _ h1 M hM=>exact ⟨_,_,_,e1,g,by rw [h1];rfl⟩
theorem most_ok (K:Kt) (gA dA hA:Option Addr) (gc dc hc:Nat) (xs:List Int) (mA:Option Addr) (mc:Nat) (haul:Nat) (w:World) (k:KtAt w K gA dA hA) (m:Ints w mA xs) (hlen:xs.length≤1000) (hA':askedE K xs=0) (hh:haul < K.hauls.length) :
  Calls (Pf fs) 28 #[ktV K gA dA hA gc dc hc,.slice mA xs.length mc,.int .i64 haul] w fun e w'=>∃ (n f:Int),e=.returned (.tuple #[.int .i64 n,.int .i64 f])∧Grown w w'∧((f=0∧∃ k:Nat,n=k∧mostTo K xs haul 10=some k)∨(f=11∧mostTo K xs haul 10=none)):=by
 obtain ⟨b,o,rfl,_⟩:=k.hauls haul _ (List.getElem?_eq_getElem hh)
 refine (most_any K gA dA b o gc dc hc xs mA mc haul w k m hlen hA' hh).mono fun e w' h=>?_
 obtain ⟨h1,h2⟩:=h
 cases hm:mostTo K xs haul 10 with
 | none=>rw [hm] at h1;exact ⟨_,_,h1,h2,.inr ⟨rfl,rfl⟩⟩
 | some n=>rw [hm] at h1;exact ⟨_,_,h1,h2,.inl ⟨rfl,n,rfl,rfl⟩⟩
set_option maxRecDepth 20000 in
set_option maxHeartbeats 8000000 in
theorem law4 (ns:List Int) (A:Option Addr) (c:Nat) (w:World) (hx:Ints w A ns) (hl:ns.length≤9223372036854775807):Calls (Pf fs) 4 #[.slice A ns.length c] w fun e _=>e=.returned (.bool true):=by
 have HB:=Lib.hid (newBag_any (fs:=fs) A c ns w hx.toB hl)
 clear hx
 go_enter LK.func4,Try.ntmps4
 go_wp2_with (go_at_call 17;refine HB.out.mono ?_;rintro e w1 ⟨g,rfl,_,hb1,_⟩;clear HB)
 go_wp2_with (go_at_call 18;refine (kitchenOf_any g 3 12 4 w1 hb1 (by decide) (by decide) (by decide) (by decide) (by decide) (by decide)).mono ?_;rintro e w2 ⟨K,gA,gc,dA,dc,hA,hc,rfl,hK2,hkb2,h1,h2,h3,_⟩;have HC:=Lib.hid (dealt_valid h1 h2 h3 (by decide) (by decide) (by decide));have HK2:=Lib.hid hK2;have HB2:=Lib.hid hkb2.bag;have H1:=Lib.hid h1;have H2:=Lib.hid h2;have H3:=Lib.hid h3;clear hb1 hK2 hkb2 h1 h2 h3;unfold ktV)
 have hbx:(w2.alloc (.cells #[.slice gA K.goods.length gc,.slice dA K.dishes.length dc,.slice hA K.hauls.length hc] 29)).drew.heap[w2.heap.size]? = some (.cells #[.slice gA K.goods.length gc,.slice dA K.dishes.length dc,.slice hA K.hauls.length hc] 29 (0,0)):=heap_alloc_new w2 _
 have hS:(w2.alloc (.cells #[.slice gA K.goods.length gc,.slice dA K.dishes.length dc,.slice hA K.hauls.length hc] 29)).drew.cell? ⟨w2.heap.size,0,none⟩=some (.slice gA K.goods.length gc)∧(w2.alloc (.cells #[.slice gA K.goods.length gc,.slice dA K.dishes.length dc,.slice hA K.hauls.length hc] 29)).drew.cell? ⟨w2.heap.size,1,none⟩=some (.slice dA K.dishes.length dc)∧(w2.alloc (.cells #[.slice gA K.goods.length gc,.slice dA K.dishes.length dc,.slice hA K.hauls.length hc] 29)).drew.cell? ⟨w2.heap.size,2,none⟩=some (.slice hA K.hauls.length hc):=⟨blk_cell hbx 0,blk_cell hbx 1,blk_cell hbx 2⟩
 have HBX:=Lib.hid hbx
 have HK3:=Lib.hid (show KtAt (w2.alloc (.cells #[.slice gA K.goods.length gc,.slice dA K.dishes.length dc,.slice hA K.hauls.length hc] 29)).drew K gA dA hA from (HK2.out.grown (Grown.alloc w2 (.cells #[.slice gA K.goods.length gc,.slice dA K.dishes.length dc,.slice hA K.hauls.length hc] 29))).grown ((Grown.refl _).drewN 1))
 have HB3:=Lib.hid ((HB2.out.alloc (.cells #[.slice gA K.goods.length gc,.slice dA K.dishes.length dc,.slice hA K.hauls.length hc] 29)).drew)
 have hne:=HB2.out.lt
 have hh1:=H3.out.1
 have hh5:=H3.out.2.1
 generalize hw3:(w2.alloc (.cells #[.slice gA K.goods.length gc,.slice dA K.dishes.length dc,.slice hA K.hauls.length hc] 29)).drew=w3 at HBX HK3 HB3 hS
 have HW3:=Lib.hid hw3
 clear hw3 hbx HK2 HB2
 have HHS:=Lib.hid hS
 have key:∀ W,Kb g w3 W→W.cell? ⟨w2.heap.size,0,none⟩=some (.slice gA K.goods.length gc)∧W.cell? ⟨w2.heap.size,1,none⟩=some (.slice dA K.dishes.length dc)∧W.cell? ⟨w2.heap.size,2,none⟩=some (.slice hA K.hauls.length hc):=fun W k=>⟨k.cell HB3.out HHS.out.1 (by simp),k.cell HB3.out HHS.out.2.1 (by simp),k.cell HB3.out HHS.out.2.2 (by simp)⟩
 have KEY:=Lib.hid key
 have HR:=Lib.hid (Kb.refl HB3.out)
 clear key
 generalize hbxn:w2.heap.size=bx at *
 clear hbxn
 refine wp_region_L (by kernel_rfl) (fun W=>W.cell? ⟨bx,0,none⟩=some (.slice gA K.goods.length gc)∧W.cell? ⟨bx,1,none⟩=some (.slice dA K.dishes.length dc)∧W.cell? ⟨bx,2,none⟩=some (.slice hA K.hauls.length hc)) [] ?_
 rw [HW3.out]
 refine wpAnyL_p 0 ?_ rfl ?_ ?_;case refine_2=>(intro w _;go_simp;try rfl)
 refine wpAnyL_t 1 ?_ rfl hS ?_ ?_;case refine_2=>(intro w hSw;(try dsimp only at hSw);go_simp;try rfl)
 refine wpAnyL_p 3 ?_ rfl ?_ ?_;case refine_2=>(intro w _;go_simp;try rfl)
 refine wpAnyL_p 4 ?_ rfl ?_ ?_;case refine_2=>(intro w _;go_simp;try rfl)
 refine wpAnyL_t 5 ?_ rfl hS ?_ ?_;case refine_2=>(intro w hSw;(try dsimp only at hSw);go_simp;try rfl)
 refine wpAnyL_p 6 ?_ rfl ?_ ?_;case refine_2=>(intro w _;go_simp;try rfl)
 refine wpAnyL_p 7 ?_ rfl ?_ ?_;case refine_2=>(intro w _;go_simp;try rfl)
 refine wpAnyL_one (i:=2) rfl (by kernel_rfl) ?_
 intro Kq hKq
 go_simp
 refine (menuOf_any g K gA dA hA gc dc hc w3 HB3.out (by have:=H2.out.1;omega) (by have:=H2.out.2.1;omega) (by omega)).mono ?_
 rintro e w4 ⟨mA,mc,ms,rfl,hm4,hkb4,hml4,hmt4,_⟩
 have hS:=KEY.out w4 hkb4
 have HK4:=Lib.hid hkb4
 have HM4:=Lib.hid hm4
 have HML:=Lib.hid hml4
 have HMT:=Lib.hid hmt4
 clear hm4 hkb4 hml4 hmt4
 refine hKq.out _ _ hS (fun _=>?_)
 clear hKq Kq
 refine wpAnyL_one (i:=8) rfl (by kernel_rfl) ?_
 intro Kq hKq
 go_simp
 rw [show IntKind.i64.wrap ((K.hauls.length:Int) - 1)=(K.hauls.length:Int) - 1 by rw [IntKind.wrap_i64];omega]
 refine (up_any g _ _ HK4.out.bag (by omega)).mono ?_
 rintro e w5 ⟨hl,rfl,hl0,hl1,hB5⟩
 have hkb5:=HK4.out.bagged hB5
 have hS:=KEY.out w5 hkb5
 have HM5:=Lib.hid (HM4.out.kb (Kb.of_bagged HK4.out.bag hB5) HK4.out.bag)
 have HK5:=Lib.hid hkb5
 clear hkb5 hB5 HM4 HK4
 refine hKq.out _ _ hS (fun _=>?_)
 clear hKq Kq
 refine wpAnyL_one (i:=9) rfl (by kernel_rfl) ?_
 intro Kq hKq
 go_simp
 refine hKq.out _ _ hS (fun _=>?_)
 clear hKq Kq
 refine wpAnyL_one (i:=10) rfl (by kernel_rfl) ?_
 intro Kq hKq
 go_simp
 refine hKq.out _ _ hS (fun _=>?_)
 clear hKq Kq
 try simp only [Act.put,List.setIfInBounds_toArray,List.set_cons_zero,List.set_cons_succ]
 refine wpAnyL_done (by kernel_rfl) ?_
 try simp only [Act.put,List.getElem_toArray,List.getElem_cons_succ,List.getElem_cons_zero,List.setIfInBounds_toArray,List.set_cons_zero,List.set_cons_succ]
 obtain ⟨haul,rfl⟩:∃ haul:Nat,hl=haul:=⟨hl.toNat,by omega⟩
 have hhl:haul < K.hauls.length:=by omega
 have hbx5:=HK5.out.ke.block HBX.out (by omega)
 have HBX5:=Lib.hid hbx5
 have HKT:=Lib.hid (HK3.out.kb HK5.out HB3.out)
 obtain ⟨a0,a1,a2⟩:=hS
 have hsi:=single_any (fs:=fs) K gA dA hA gc dc hc w5 HKT.out
 clear hbx5 HK5 HBX HK3 HB3 HW3 HHS KEY HR hl0 hl1 hne
 by_cases hsing:K.dishes.length=1∧1 < K.hauls.length
 ·rw [show (decide (K.dishes.length=1) && decide (1 < K.hauls.length))=true by simp [hsing]] at hsi
  have HSI:=Lib.hid hsi
  clear hsi hsing
  go_wp2_with (first | (go_at_call 21;refine HSI.out.mono ?_;rintro e w6 ⟨rfl,g6⟩) | (go_at_call 22;refine (served_any _).mono ?_;rintro e w7 ⟨rfl,g7⟩))
  go_ret
  rfl
 ·rw [show (decide (K.dishes.length=1) && decide (1 < K.hauls.length))=false by simp;omega] at hsi
  have HSI:=Lib.hid hsi
  have HA:=Lib.hid (asked_of HC.out (menuTo_zero HMT.out HML.out H2.out.1 hsing))
  have hml:ms.length≤1000:=by have:=HML.out;omega
  clear hsi hsing
  go_wp2_with (go_at_call 21;refine HSI.out.mono ?_;rintro e w6 ⟨rfl,g6⟩;have HB6:=Lib.hid (blk_grown HBX5.out g6);have HK6:=Lib.hid (HKT.out.grown g6);have HM6:=Lib.hid (HM5.out.grown g6);have b0:=blk_cell HB6.out 0;have b1:=blk_cell HB6.out 1;have b2:=blk_cell HB6.out 2;simp only [List.getElem?_toArray,List.getElem?_cons_zero,List.getElem?_cons_succ] at b0 b1 b2;clear g6 HBX5 HKT HM5 HSI)
  go_wp2_with (go_at_call 28;refine (most_ok K gA dA hA gc dc hc ms mA mc haul _ HK6.out HM6.out hml HA.out hhl).mono ?_;rintro e w7 ⟨nn,ff,rfl,g7,hmo⟩;rcases hmo with ⟨rfl,kk,rfl,hmo⟩ | ⟨rfl,hmo⟩<;>(have HB7:=Lib.hid (blk_grown HB6.out g7);have HK7:=Lib.hid (HK6.out.grown g7);have HM7:=Lib.hid (HM6.out.grown g7);have HMO:=Lib.hid hmo;clear g7 hmo HB6 HK6 HM6))
  ·go_loopw [9] (fun i W=>∃ c:Nat,i=.int .i64 c∧c≤10∧Hid (W.heap[bx]? = some (.cells #[.slice gA K.goods.length gc,.slice dA K.dishes.length dc,.slice hA K.hauls.length hc] 29 (0,0))∧KtAt W K gA dA hA∧Ints W mA ms)) (fun i _=>11 - (intOf i).toNat)
   case atStart=>exact ⟨0,rfl,by decide,HB7.out,HK7.out,HM7.out⟩
   case round =>
    obtain ⟨c,rfl,hc10,HS⟩:=hrel
    clear HB7 HK7 HM7
    have b0:=blk_cell HS.out.1 0
    have b1:=blk_cell HS.out.1 1
    have b2:=blk_cell HS.out.1 2
    simp only [List.getElem?_toArray,List.getElem?_cons_zero,List.getElem?_cons_succ] at b0 b1 b2
    by_cases hc9:c≤9
    ·have hci:(c:Int)≤9:=by omega
     have hlaw:=most_law (xs:=ms) (haul:=haul) HC.out hc9
     have hask:askedE (covK K haul c) ms=0:=asked_of (covK_valid HC.out hhl hc9) (by have h:=askedE_zero HA.out;simpa [covK] using h.2)
     have HCV:=Lib.hid (covered_any (fs:=fs) K gA dA hA gc dc hc haul c wr HS.out.2.1 hhl)
     have HAS:=Lib.hid hask
     clear hask
     cases hnb:noneB (covK K haul c) ms with
     | true =>
      rw [hnb,HMO.out] at hlaw
      have hle:¬ (c:Int)≤kk:=by simp at hlaw;omega
      have HNB:=Lib.hid hnb
      clear hlaw hnb
      go_wp2_with (first | (go_at_call 30;refine HCV.out.mono ?_;rintro e w8 ⟨gA2,gc2,dA2,dc2,hA2,hc2,rfl,hk8,g8⟩;have HK8:=Lib.hid hk8;have HG8:=Lib.hid g8;clear hk8 g8) | (go_at_call 29;refine (cheapest_ok (covK K haul c) gA2 dA2 hA2 gc2 dc2 hc2 ms mA mc w8 HK8.out (HS.out.2.2.grown HG8.out) hml HAS.out).mono ?_;rintro e w9 ⟨v9,n9,f9,rfl,g9,hf9⟩;rw [HNB.out] at hf9;simp only [if_true] at hf9;subst hf9;have HG9:=Lib.hid (HG8.out.trans g9);clear g9 HG8 HK8))
      go_roundw
      case rel=>exact ⟨c + 1,by go_num,by omega,blk_grown HS.out.1 HG9.out,HS.out.2.1.grown HG9.out,HS.out.2.2.grown HG9.out⟩
      case measure=>simp [intOf];omega
     | false =>
      rw [hnb,HMO.out] at hlaw
      have hle:(c:Int)≤kk:=by simp at hlaw;omega
      have HNB:=Lib.hid hnb
      clear hlaw hnb
      go_wp2_with (first | (go_at_call 30;refine HCV.out.mono ?_;rintro e w8 ⟨gA2,gc2,dA2,dc2,hA2,hc2,rfl,hk8,g8⟩;have HK8:=Lib.hid hk8;have HG8:=Lib.hid g8;clear hk8 g8) | (go_at_call 29;refine (cheapest_ok (covK K haul c) gA2 dA2 hA2 gc2 dc2 hc2 ms mA mc w8 HK8.out (HS.out.2.2.grown HG8.out) hml HAS.out).mono ?_;rintro e w9 ⟨v9,n9,f9,rfl,g9,hf9⟩;rw [HNB.out] at hf9;simp only [if_false,Bool.false_eq_true] at hf9;subst hf9;have HG9:=Lib.hid (HG8.out.trans g9);clear g9 HG8 HK8))
      go_roundw
      case rel=>exact ⟨c + 1,by go_num,by omega,blk_grown HS.out.1 HG9.out,HS.out.2.1.grown HG9.out,HS.out.2.2.grown HG9.out⟩
      case measure=>simp [intOf];omega
    ·have hci:¬ (c:Int)≤9:=by omega
     go_wp2_with (go_at_call 22;refine (served_any _).mono ?_;rintro e w10 ⟨rfl,g10⟩)
     go_ret
     rfl
  ·go_loopw [9] (fun i W=>∃ c:Nat,i=.int .i64 c∧c≤10∧Hid (W.heap[bx]? = some (.cells #[.slice gA K.goods.length gc,.slice dA K.dishes.length dc,.slice hA K.hauls.length hc] 29 (0,0))∧KtAt W K gA dA hA∧Ints W mA ms)) (fun i _=>11 - (intOf i).toNat)
   case atStart=>exact ⟨0,rfl,by decide,HB7.out,HK7.out,HM7.out⟩
   case round =>
    obtain ⟨c,rfl,hc10,HS⟩:=hrel
    clear HB7 HK7 HM7
    have b0:=blk_cell HS.out.1 0
    have b1:=blk_cell HS.out.1 1
    have b2:=blk_cell HS.out.1 2
    simp only [List.getElem?_toArray,List.getElem?_cons_zero,List.getElem?_cons_succ] at b0 b1 b2
    by_cases hc9:c≤9
    ·have hci:(c:Int)≤9:=by omega
     have hlaw:=most_law (xs:=ms) (haul:=haul) HC.out hc9
     have hask:askedE (covK K haul c) ms=0:=asked_of (covK_valid HC.out hhl hc9) (by have h:=askedE_zero HA.out;simpa [covK] using h.2)
     have HCV:=Lib.hid (covered_any (fs:=fs) K gA dA hA gc dc hc haul c wr HS.out.2.1 hhl)
     have HAS:=Lib.hid hask
     clear hask
     cases hnb:noneB (covK K haul c) ms with
     | true =>
      rw [hnb,HMO.out] at hlaw
      skip
      have HNB:=Lib.hid hnb
      clear hlaw hnb
      go_wp2_with (first | (go_at_call 30;refine HCV.out.mono ?_;rintro e w8 ⟨gA2,gc2,dA2,dc2,hA2,hc2,rfl,hk8,g8⟩;have HK8:=Lib.hid hk8;have HG8:=Lib.hid g8;clear hk8 g8) | (go_at_call 29;refine (cheapest_ok (covK K haul c) gA2 dA2 hA2 gc2 dc2 hc2 ms mA mc w8 HK8.out (HS.out.2.2.grown HG8.out) hml HAS.out).mono ?_;rintro e w9 ⟨v9,n9,f9,rfl,g9,hf9⟩;rw [HNB.out] at hf9;simp only [if_true] at hf9;subst hf9;have HG9:=Lib.hid (HG8.out.trans g9);clear g9 HG8 HK8))
      go_roundw
      case rel=>exact ⟨c + 1,by go_num,by omega,blk_grown HS.out.1 HG9.out,HS.out.2.1.grown HG9.out,HS.out.2.2.grown HG9.out⟩
      case measure=>simp [intOf];omega
     | false =>
      rw [hnb,HMO.out] at hlaw
      exact absurd hlaw (by simp)
    ·have hci:¬ (c:Int)≤9:=by omega
     go_wp2_with (go_at_call 22;refine (served_any _).mono ?_;rintro e w10 ⟨rfl,g10⟩)
     go_ret
     rfl
end
end Go.Gal
end
