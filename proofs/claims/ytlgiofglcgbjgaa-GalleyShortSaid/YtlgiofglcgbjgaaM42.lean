/- Plain laws of runs: each good by itself, haul by haul. Walks: first (the first hauls of a kitchen, a menu and loads). -/
import Derived.Test.YtlgiofglcgbjgaaM41
section
namespace Go.Gal
open Go Go.Par Go.Proofs Go.RowKit
section
variable (D:Good1) (ld:Nat→Nat)
def nowD:Nat→Nat
 | 0=>D.start
 | h+1=>(after D (hlG D h) (nowD h+ld h)).toNat
def barD (h:Nat):Bool:=barB (hlG D h).price D.room (ld h) (nowD D ld h)
def shortD (h:Nat):Bool:=decide (after D (hlG D h) (nowD D ld h+ld h)<D.reserve)
end
abbrev ldI (ls:List (List Int)) (i:Nat):Nat→Nat:=fun h=>ldN ls h i
section
variable {Ds:List Good1} {ls:List (List Int)} {h i:Nat} {now:Nat→Nat}
theorem barAt_eq (hn:now i=nowD (atG Ds i) (ldI ls i) h):barAt Ds ls h now i=barD (atG Ds i) (ldI ls i) h:=by
 unfold barAt barD
 rw[hn]
theorem shortAt_eq (hn:now i=nowD (atG Ds i) (ldI ls i) h):shortAt Ds ls h now i=shortD (atG Ds i) (ldI ls i) h:=by
 unfold shortAt shortD
 rw[hn]
theorem nextN_eq (hn:now i=nowD (atG Ds i) (ldI ls i) h):nextN Ds ls h now i=nowD (atG Ds i) (ldI ls i) (h+1):=by
 unfold nextN
 rw[hn]
 rfl
end
section
variable {Ds:List Good1} {ls:List (List Int)}
def WellAt (Ds:List Good1) (ls:List (List Int)) (h:Nat):Prop:=∀ i,i<Ds.length→barD (atG Ds i) (ldI ls i) h=false∧shortD (atG Ds i) (ldI ls i) h=false
def EndsAt (Ds:List Good1) (ls:List (List Int)) (h i:Nat) (er:Int):Prop:=i<Ds.length∧((er=9∧barD (atG Ds i) (ldI ls i) h=true)∨(er=11∧(∀ j,j<Ds.length→barD (atG Ds j) (ldI ls j) h=false)∧shortD (atG Ds i) (ldI ls i) h=true∧∀ j,j<i→shortD (atG Ds j) (ldI ls j) h=false))
theorem step_now {h:Nat} {now:Nat→Nat} (hn:∀ i,i<Ds.length→now i=nowD (atG Ds i) (ldI ls i) h):∀ i,i<Ds.length→stepTo Ds.length now (nextN Ds ls h now) i=nowD (atG Ds i) (ldI ls i) (h+1):=fun i hi=>by
 unfold stepTo
 rw[if_pos hi]
 exact nextN_eq (hn i hi)
theorem runG_ends:∀ {r h:Nat} {now mel:Nat→Nat} {h' i:Nat} {er:Int},(∀ i,i<Ds.length→now i=nowD (atG Ds i) (ldI ls i) h)→(runG Ds ls r h now mel).stop=some (h',i,er) →
  h≤h'∧h'<h+r∧(∀ j,h≤j→j<h'→WellAt Ds ls j)∧EndsAt Ds ls h' i er
 | 0,h,now,mel,h',i,er,_,hs=>by cases hs
 | r+1,h,now,mel,h',i,er,hn,hs=>by
  cases hf:(List.range Ds.length).find? (barAt Ds ls h now) with
  | some k =>
   rw[runG_bar hf] at hs
   cases hs
   obtain⟨h1,h2,_⟩:=find_some hf
   exact⟨Nat.le_refl _,by omega,fun j a b=>by omega,h1,.inl ⟨rfl,by rw[← barAt_eq (hn _ h1)];exact h2⟩⟩
  | none =>
   have hb:=find_none hf
   have hb':∀ j,j<Ds.length→barD (atG Ds j) (ldI ls j) h=false:=fun j hj=>by rw[← barAt_eq (hn j hj)];exact hb j hj
   cases hg:(List.range Ds.length).find? (shortAt Ds ls h now) with
   | some k =>
    rw[runG_short hf hg] at hs
    cases hs
    obtain⟨h1,h2,h3⟩:=find_some hg
    exact⟨Nat.le_refl _,by omega,fun j a b=>by omega,h1,.inr ⟨rfl,hb',by rw[← shortAt_eq (hn _ h1)];exact h2,fun j hj=>by rw[← shortAt_eq (hn j (by omega))];exact h3 j hj⟩⟩
   | none =>
    have hc:=find_none hg
    rw[runG_step hf hg] at hs
    obtain⟨a1,a2,a3,a4⟩:=runG_ends (step_now hn) hs
    refine⟨by omega,by omega,fun j x y=>?_,a4⟩
    rcases Nat.lt_or_ge h j with q|q
    ·exact a3 j (by omega) y
    ·obtain rfl:j=h:=by omega
     exact fun i hi=>⟨hb' i hi,by rw[← shortAt_eq (hn i hi)];exact hc i hi⟩
def leftRow (Ds:List Good1) (ls:List (List Int)) (h:Nat):List Int:=(List.range Ds.length).map fun i=>((nowD (atG Ds i) (ldI ls i) (h+1):Nat):Int)
theorem runG_well:∀ {r h:Nat} {now mel:Nat→Nat},(∀ i,i<Ds.length→now i=nowD (atG Ds i) (ldI ls i) h)→(runG Ds ls r h now mel).stop=none →
  (∀ j,h≤j→j<h+r→WellAt Ds ls j)∧(runG Ds ls r h now mel).left=(List.range r).map fun j=>leftRow Ds ls (h+j)
 | 0,h,now,mel,_,_=>⟨fun j a b=>by omega,rfl⟩
 | r+1,h,now,mel,hn,hs=>by
  cases hf:(List.range Ds.length).find? (barAt Ds ls h now) with
  | some k=>rw[runG_bar hf] at hs;cases hs
  | none =>
   have hb:=find_none hf
   cases hg:(List.range Ds.length).find? (shortAt Ds ls h now) with
   | some k=>rw[runG_short hf hg] at hs;cases hs
   | none =>
    have hc:=find_none hg
    rw[runG_step hf hg] at hs ⊢
    obtain⟨a1,a2⟩:=runG_well (step_now hn) hs
    refine⟨fun j x y=>?_,?_⟩
    ·rcases Nat.lt_or_ge h j with q|q
     ·exact a1 j (by omega) (by omega)
     ·obtain rfl:j=h:=by omega
      exact fun i hi=>⟨by rw[← barAt_eq (hn i hi)];exact hb i hi,by rw[← shortAt_eq (hn i hi)];exact hc i hi⟩
    ·show _::(runG Ds ls r (h+1) _ _).left=_
     rw[a2,List.range_succ_eq_map,List.map_cons,List.map_map]
     congr 1
     ·unfold leftRow
      refine List.map_congr_left fun i hi=>?_
      rw[nextN_eq (hn i (by simpa using hi))]
     ·refine List.map_congr_left fun j _=>?_
      show leftRow Ds ls (h+1+j)=leftRow Ds ls (h+(j+1))
      rw[show h+1+j=h+(j+1) by omega]
theorem start_now:∀ i,i<Ds.length→stepTo Ds.length (fun _=>0) (fun i=>(atG Ds i).start) i=nowD (atG Ds i) (ldI ls i) 0:=fun i hi=>by
 unfold stepTo
 rw[if_pos hi]
 rfl
end
theorem runK_ends {K:Kt} {xs:List Int} {ls:List (List Int)} {h i:Nat} {er:Int} (hs:(runK K xs ls).stop=some (h,i,er)):h<K.hauls.length∧(∀ j,j<h→WellAt (dsOf K xs) ls j)∧EndsAt (dsOf K xs) ls h i er:=by
 obtain⟨_,h2,h3,h4⟩:=runG_ends start_now hs
 exact⟨by omega,fun j hj=>h3 j (Nat.zero_le _) hj,h4⟩
theorem runK_well {K:Kt} {xs:List Int} {ls:List (List Int)} (hs:(runK K xs ls).stop=none):(∀ j,j<K.hauls.length→WellAt (dsOf K xs) ls j)∧(runK K xs ls).left=(List.range K.hauls.length).map (leftRow (dsOf K xs) ls):=by
 obtain⟨h1,h2⟩:=runG_well start_now hs
 refine⟨fun j hj=>h1 j (Nat.zero_le _) (by omega),?_⟩
 unfold runK runOf
 rw[h2]
 exact List.map_congr_left fun j _=>by rw[Nat.zero_add]
theorem runK_none_of {K:Kt} {xs:List Int} {ls:List (List Int)} (hw:∀ j,j<K.hauls.length→WellAt (dsOf K xs) ls j):(runK K xs ls).stop=none:=by
 cases hs:(runK K xs ls).stop with
 | none=>rfl
 | some p =>
  obtain⟨h,i,er⟩:=p
  obtain⟨h1,_,h3,h4⟩:=runK_ends hs
  obtain⟨w1,w2⟩:=hw h h1 i h3
  rcases h4 with ⟨_,q⟩|⟨_,_,q,_⟩
  ·rw[w1] at q;cases q
  ·rw[w2] at q;cases q
structure AlikeTo (m:Nat) (D D':Good1) (ld ld':Nat→Nat):Prop where
 room:D'.room=D.room
 melts:D'.melts=D.melts
 start:D'.start=D.start
 reserve:D'.reserve=D.reserve
 haul:∀ h,h<m→hlG D' h=hlG D h
 load:∀ h,h<m→ld' h=ld h
section
variable {m:Nat} {D D':Good1} {ld ld':Nat→Nat}
theorem AlikeTo.after (a:AlikeTo m D D' ld ld') (H:Haul1) (x:Nat):after D' H x=after D H x:=by unfold Go.Gal.after;rw[a.melts]
theorem AlikeTo.now (a:AlikeTo m D D' ld ld'):∀ {h:Nat},h≤m→nowD D' ld' h=nowD D ld h
 | 0,_=>a.start
 | h+1,hh=>by
  unfold nowD
  rw[a.now (h:=h) (by omega),a.haul h (by omega),a.load h (by omega),a.after]
theorem AlikeTo.bar (a:AlikeTo m D D' ld ld') {h:Nat} (hh:h<m):barD D' ld' h=barD D ld h:=by
 unfold barD
 rw[a.now (by omega),a.haul h hh,a.load h hh,a.room]
theorem AlikeTo.short (a:AlikeTo m D D' ld ld') {h:Nat} (hh:h<m):shortD D' ld' h=shortD D ld h:=by
 unfold shortD
 rw[a.now (by omega),a.haul h hh,a.load h hh,a.after,a.reserve]
end
theorem atG_dsOf {K:Kt} {xs:List Int} {i:Nat} (hi:i<K.goods.length):atG (dsOf K xs) i=goodOf K xs i K.goods[i]:=by
 unfold atG
 rw[List.getD_eq_getElem?_getD,dsOf_get,List.getElem?_eq_getElem hi]
 rfl
theorem hlG_goodOf {K:Kt} {xs:List Int} {i h:Nat} {g:Gd} (hl:xs.length=K.hauls.length) (hh:h<K.hauls.length):hlG (goodOf K xs i g) h=haulOf K i K.hauls[h] (xs[h]'(by omega)):=by
 unfold hlG goodOf
 simp only
 rw[List.getD_eq_getElem?_getD,List.getElem?_map,List.getElem?_eq_getElem (by simp;omega)]
 simp
theorem ldN_take {ls:List (List Int)} {m h i:Nat} (hh:h<m):ldN (ls.take m) h i=ldN ls h i:=by
 unfold ldN
 rw[List.getD_eq_getElem?_getD,List.getD_eq_getElem?_getD,List.getElem?_take,if_pos hh]
 simp
def firstK (K:Kt) (m:Nat):Kt:={ K with hauls:=K.hauls.take m }
theorem alike_first {K:Kt} {xs:List Int} {ls:List (List Int)} {m i:Nat} (hl:xs.length=K.hauls.length) (hm:m≤K.hauls.length) (hi:i<K.goods.length) :
  AlikeTo m (atG (dsOf K xs) i) (atG (dsOf (firstK K m) (xs.take m)) i) (ldI ls i) (ldI (ls.take m) i):=by
 rw[atG_dsOf hi,atG_dsOf (K:=firstK K m) hi]
 refine⟨rfl,rfl,rfl,rfl,fun h hh=>?_,fun h hh=>ldN_take hh⟩
 have e1:(firstK K m).hauls.length=m:=by simp[firstK];omega
 rw[hlG_goodOf (K:=firstK K m) (by simp[e1];omega) (by omega),hlG_goodOf hl (by omega)]
 simp[firstK,haulOf]
theorem checkE_take {K:Kt} (hC:checkE K=0) {m:Nat} (h1 : 1≤m):checkE (firstK K m)=0:=by
 obtain⟨c1,c2,c3⟩:=checkE_zero hC
 unfold checkE
 rw[show (firstK K m).goods=K.goods from rfl,show (firstK K m).dishes=K.dishes from rfl,c1,c2,if_neg (by simp),if_neg (by simp)]
 obtain⟨d1,d2,d3⟩:=haulsE_zero c3
 refine haulsE_ok ?_ ?_ fun x hx=>?_
 ·simp[firstK];omega
 ·simp[firstK];omega
 ·have hx':x∈K.hauls:=List.mem_of_mem_take hx
  obtain⟨a,b,c,d,e,f⟩:=d3 x hx'
  exact⟨a,b,c,d,e,f⟩
theorem rightL_take {nd:Int} : ∀ {l:List Int} {p:Option Int} (m:Nat),rightL nd p l=0→rightL nd p (l.take m)=0
 | [],_,m,_=>by simp[rightL]
 | x::l,p,0,_=>rfl
 | x::l,p,m+1,h=>by
  unfold rightL at h
  rw[List.take_succ_cons]
  unfold rightL
  split at h
  ·cases h
  ·rename_i h1
   split at h
   ·cases h
   ·rename_i h2
    rw[if_neg h1,if_neg h2]
    exact rightL_take m h
theorem rightE_take {nd nh:Nat} {xs:List Int} (h:rightE nd nh xs=0) {m:Nat} (hm:m≤nh):rightE nd m (xs.take m)=0:=by
 unfold rightE at h
 split at h
 ·rename_i h1;exact absurd h h1
 ·rename_i h1
  have h2:=manyE_zero (Decidable.not_not.1 h1)
  unfold rightE
  rw[if_neg (by rw[List.length_take];simp[manyE];omega)]
  exact rightL_take m h
theorem loadedE_take {K K':Kt} {ls:List (List Int)} (h:loadedE K ls=0) {m:Nat} (hm:m≤K.hauls.length) (e1:K'.hauls.length=m) (e2:K'.goods.length=K.goods.length):loadedE K' (ls.take m)=0:=by
 obtain⟨h1,h2⟩:=loadedE_zero h
 unfold loadedE
 rw[e1,e2,List.length_take,manyE_ok (by omega) (by omega),if_neg (by simp)]
 exact firstE_ok fun l hl=>by
  obtain⟨q1,q2⟩:=h2 l (List.mem_of_mem_take hl)
  exact eachE_ok (by omega) q2
theorem givenE_take {K K':Kt} {xs:List Int} {ls:List (List Int)} (hG:givenE K xs ls=0) {m:Nat} (hm:m≤K.hauls.length) (hC:checkE K'=0) (e1:K'.hauls.length=m) (e2:K'.goods.length=K.goods.length) (e3:K'.dishes.length=K.dishes.length):givenE K' (xs.take m) (ls.take m)=0:=by
 obtain⟨hA,hL⟩:=givenE_zero hG
 obtain⟨_,hR⟩:=askedE_zero hA
 unfold givenE
 rw[asked_of hC (by rw[e1,e3];exact rightE_take hR hm),if_neg (by simp)]
 exact loadedE_take hL hm e1 e2
def gdAt (gs:List Gd) (i:Nat):Gd:=gs.getD i ⟨0,0,0,0⟩
theorem gdAt_get {gs:List Gd} {i:Nat} (h:i<gs.length):gs[i]?=some (gdAt gs i):=by
 unfold gdAt
 rw[List.getD_eq_getElem?_getD,List.getElem?_eq_getElem h]
 rfl
def spareTo (ds:List (List Int)) (g n:Nat):List (List Int):=(ds.take n).map (fun d=>d.set g 0)++ds.drop n
theorem spareTo_at {ds:List (List Int)} {g n:Nat} (h:n<ds.length):(spareTo ds g n)[n]?=some ds[n]:=by
 unfold spareTo
 rw[List.getElem?_append_right (by simp;omega)]
 simp[Nat.min_eq_left (Nat.le_of_lt h),List.getElem?_eq_getElem h]
theorem spareTo_succ {ds:List (List Int)} {g n:Nat} (h:n<ds.length):(spareTo ds g n).set n (ds[n].set g 0)=spareTo ds g (n+1):=by
 have hm:(List.map (fun d=>d.set g 0) (List.take n ds)).length=n:=by simp;omega
 unfold spareTo
 rw[List.set_append,if_neg (by omega),hm,Nat.sub_self,List.drop_eq_getElem_cons h,List.set_cons_zero,List.take_add_one,List.getElem?_eq_getElem h]
 simp only[List.map_append,Option.toList_some,List.map_cons,List.map_nil,List.append_assoc,List.cons_append,List.nil_append]
theorem spareTo_all (ds:List (List Int)) (g:Nat):spareTo ds g ds.length=ds.map fun d=>d.set g 0:=by simp[spareTo]
def spareK (K:Kt) (g m:Nat):Kt:=⟨K.goods.set g { gdAt K.goods g with reserve:=0 },K.dishes.map fun d=>d.set g 0,K.hauls.take m⟩
theorem spareK_valid {K:Kt} (hC:checkE K=0) {g m:Nat} (hg:g<K.goods.length) (h1 : 1≤m):checkE (spareK K g m)=0:=by
 obtain⟨c1,c2,c3⟩:=checkE_zero hC
 obtain⟨g1,g2,g3⟩:=goodsE_zero c1
 have hf:=checkE_zero (checkE_take hC (m:=m) h1)
 have e1:goodsE (spareK K g m).goods=0:=by
  unfold goodsE
  rw[show (spareK K g m).goods.length=K.goods.length by simp[spareK],manyE_ok (by omega) (by omega),if_neg (by simp),if_neg]
  rw[List.any_eq_true]
  rintro⟨x,hx,hb⟩
  have hx':=List.mem_or_eq_of_mem_set hx
  rcases hx' with q|q
  ·rw[g3 x q] at hb;cases hb
  ·obtain⟨b1,b2,b3,b4,b5,b6,b7,b8⟩:=badGood_false (g3 _ (List.mem_of_getElem? (gdAt_get hg)))
   subst q
   simp[badGood,outB] at hb
   omega
 have e2:dishesE (spareK K g m).goods.length (spareK K g m).dishes=0:=by
  unfold dishesE at c2 ⊢
  rw[show (spareK K g m).goods.length=K.goods.length by simp[spareK],show (spareK K g m).dishes.length=K.dishes.length by simp[spareK]]
  split at c2
  ·rename_i q;exact absurd c2 q
  ·rename_i q
   rw[if_neg q]
   refine firstE_ok fun d hd=>?_
   simp only[spareK,List.mem_map] at hd
   obtain⟨d0,hd0,rfl⟩:=hd
   obtain⟨a1,a2⟩:=eachE_zero (firstE_zero c2 d0 hd0)
   refine eachE_ok (by simpa using a1) fun x hx=>?_
   rcases List.mem_or_eq_of_mem_set hx with q|q
   ·exact a2 x q
   ·subst q;decide
 unfold checkE
 rw[e1,e2,if_neg (by simp),if_neg (by simp)]
 have:=hf.2.2
 rwa [show (spareK K g m).goods.length=K.goods.length by simp[spareK]]
theorem after_nonneg {D:Good1} {H:Haul1} {x:Nat} (h0:H.need=0) : 0≤after D H x:=by
 rw[after_eq,h0]
 have:=melted_le H.hours D.melts x
 omega
section
variable {K:Kt} {xs:List Int} {ls:List (List Int)} {m g:Nat}
theorem hl_spare {i h:Nat} {G:Gd} (hl:xs.length=K.hauls.length) (hm:m≤K.hauls.length) (hh:h<m):hlG (goodOf (spareK K g m) (xs.take m) i G) h=haulOf (spareK K g m) i (K.hauls[h]'(by omega)) (xs[h]'(by omega)):=by
 have e1:(spareK K g m).hauls.length=m:=by simp[spareK];omega
 rw[hlG_goodOf (by simp[e1];omega) (by omega)]
 simp[spareK]
theorem alike_spare (hl:xs.length=K.hauls.length) (hm:m≤K.hauls.length) {i:Nat} (hi:i<K.goods.length) (hne:i≠g) :
  AlikeTo m (atG (dsOf K xs) i) (atG (dsOf (spareK K g m) (xs.take m)) i) (ldI ls i) (ldI (ls.take m) i):=by
 have hi2:i<(spareK K g m).goods.length:=by simpa[spareK] using hi
 have eg:(spareK K g m).goods[i]=K.goods[i]:=by simp[spareK,List.getElem_set_ne (Ne.symm hne)]
 rw[atG_dsOf hi,atG_dsOf hi2,eg]
 refine⟨rfl,rfl,rfl,rfl,fun h hh=>?_,fun h hh=>ldN_take hh⟩
 rw[hl_spare hl hm hh,hlG_goodOf hl (by omega)]
 unfold haulOf
 congr 1
 simp only[spareK,List.getD_eq_getElem?_getD,List.getElem?_map]
 cases K.dishes[(xs[h]'(by omega)).toNat]? with
 | none=>rfl
 | some d=>simp[List.getElem?_set_ne (Ne.symm hne)]
theorem spare_never (hl:xs.length=K.hauls.length) (hm:m≤K.hauls.length) (hg:g<K.goods.length) {h:Nat} (hh:h<m):shortD (atG (dsOf (spareK K g m) (xs.take m)) g) (ldI (ls.take m) g) h=false:=by
 have hg2:g<(spareK K g m).goods.length:=by simpa[spareK] using hg
 unfold shortD
 rw[atG_dsOf hg2,hl_spare hl hm hh,decide_eq_false_iff_not]
 have hn:(haulOf (spareK K g m) g (K.hauls[h]'(by omega)) (xs[h]'(by omega))).need=0:=by
  unfold haulOf
  simp only[spareK,List.getD_eq_getElem?_getD,List.getElem?_map]
  cases K.dishes[(xs[h]'(by omega)).toNat]? with
  | none=>rfl
  | some d =>
   simp only[Option.map_some,Option.getD_some,List.getElem?_set_self']
   cases d[g]?<;>rfl
 have hr:(goodOf (spareK K g m) (xs.take m) g (spareK K g m).goods[g]).reserve=0:=by
  simp[goodOf,spareK]
 rw[hr]
 have:=after_nonneg (D:=goodOf (spareK K g m) (xs.take m) g (spareK K g m).goods[g]) (x:=nowD (goodOf (spareK K g m) (xs.take m) g (spareK K g m).goods[g]) (ldI (ls.take m) g) h+ldI (ls.take m) g h) hn
 omega
end
theorem short_law {K:Kt} {xs:List Int} {ls:List (List Int)} {haul good:Nat} (hG:givenE K xs ls=0) (hs:(runK K xs ls).stop=some (haul,good,11)) :
  haul<K.hauls.length∧good<K.goods.length ∧
  (1≤haul→givenE (firstK K haul) (xs.take haul) (ls.take haul)=0∧(runK (firstK K haul) (xs.take haul) (ls.take haul)).stop=none∧(runK (firstK K haul) (xs.take haul) (ls.take haul)).left.length=haul ∧
   ∃ row,(runK (firstK K haul) (xs.take haul) (ls.take haul)).left[haul-1]?=some row∧row.length=K.goods.length∧row[good]?=some ((nowD (atG (dsOf K xs) good) (ldI ls good) haul:Nat):Int)) ∧
  shortD (atG (dsOf K xs) good) (ldI ls good) haul=true∧nowD (atG (dsOf K xs) good) (ldI ls good) haul+ldN ls haul good≤(atG (dsOf K xs) good).room ∧
  givenE (spareK K good (haul+1)) (xs.take (haul+1)) (ls.take (haul+1))=0 ∧
  ∀ h i er,(runK (spareK K good (haul+1)) (xs.take (haul+1)) (ls.take (haul+1))).stop=some (h,i,er)→er=9∨(er=11∧h=haul∧good<i∧i<K.goods.length):=by
 obtain⟨hA,hL⟩:=givenE_zero hG
 obtain⟨hC,hR⟩:=askedE_zero hA
 obtain⟨l1,l2⟩:=loadedE_zero hL
 have hxl:xs.length=K.hauls.length:=by
  unfold rightE at hR
  split at hR
  ·rename_i q;exact absurd hR q
  ·rename_i q
   have:=manyE_zero (Decidable.not_not.1 q)
   omega
 obtain⟨e1,e2,e3,e4⟩:=runK_ends hs
 rw[dsOf_len] at e3
 rcases e4 with ⟨q,_⟩|⟨_,f1,f2,f3⟩
 ·cases q
 refine⟨e1,e3,fun h1=>?_,f2,?_,?_,fun h i er hq=>?_⟩
 ·have efl:(firstK K haul).hauls.length=haul:=by simp[firstK];omega
  have hw:∀ j,j<(firstK K haul).hauls.length→WellAt (dsOf (firstK K haul) (xs.take haul)) (ls.take haul) j:=fun j hj i hi=>by
   rw[dsOf_len] at hi
   have al:=alike_first (ls:=ls) hxl (Nat.le_of_lt e1) (m:=haul) (i:=i) hi
   obtain⟨w1,w2⟩:=e2 j (by omega) i (by rw[dsOf_len];exact hi)
   exact⟨(al.bar (by omega)).trans w1,(al.short (by omega)).trans w2⟩
  have hn:=runK_none_of hw
  obtain⟨_,hleft⟩:=runK_well hn
  refine⟨givenE_take hG (Nat.le_of_lt e1) (checkE_take hC h1) efl rfl rfl,hn,by rw[hleft];simp[efl],leftRow (dsOf (firstK K haul) (xs.take haul)) (ls.take haul) (haul-1),?_,?_,?_⟩
  ·rw[hleft,List.getElem?_map,efl,List.getElem?_range (by omega)]
   rfl
  ·simp[leftRow,dsOf_len,firstK]
  ·unfold leftRow
   rw[List.getElem?_map,dsOf_len,List.getElem?_range (by exact e3)]
   have al:=alike_first (ls:=ls) hxl (Nat.le_of_lt e1) (m:=haul) (i:=good) e3
   simp only[Option.map_some]
   rw[show haul-1+1=haul by omega,al.now (Nat.le_refl _)]
 ·have hb:=f1 good (by rw[dsOf_len];exact e3)
  unfold barD barB at hb
  simp only[Bool.or_eq_false_iff,decide_eq_false_iff_not] at hb
  have:=hb.2
  simp only[ldI] at this
  omega
 ·exact givenE_take hG (by omega) (spareK_valid hC e3 (by omega)) (by simp[spareK];omega) (by simp[spareK]) (by simp[spareK])
 ·obtain⟨k1,k2,k3,k4⟩:=runK_ends hq
  have hm:(spareK K good (haul+1)).hauls.length=haul+1:=by simp[spareK];omega
  rw[hm] at k1
  rw[dsOf_len] at k3
  have k3':i<K.goods.length:=by simpa[spareK] using k3
  rcases k4 with ⟨q,_⟩|⟨q,_,s1,_⟩
  ·exact .inl q
  ·refine .inr ⟨q,?_⟩
   by_cases hig:i=good
   ·subst hig
    rw[spare_never hxl (by omega) e3 (by omega)] at s1
    cases s1
   ·have al:=alike_spare (ls:=ls) (m:=haul+1) hxl (by omega) k3' hig
    rw[al.short (by omega)] at s1
    have hh:h=haul:=by
     rcases Nat.lt_or_ge h haul with q2|q2
     ·have:=(e2 h q2 i (by rw[dsOf_len];exact k3')).2
      rw[this] at s1
      cases s1
     ·omega
    subst hh
    refine⟨rfl,?_,k3'⟩
    rcases Nat.lt_or_ge good i with q2|q2
    ·exact q2
    ·have:=f3 i (by omega)
     rw[this] at s1
     cases s1
theorem given_of {K:Kt} {xs:List Int} {ls:List (List Int)} (ha:askedE K xs=0) (h1:ls.length=K.hauls.length) (h2:∀ l∈ls,l.length=K.goods.length∧∀ x∈l,0≤x∧x≤20):givenE K xs ls=0:=by
 unfold givenE
 rw[ha,if_neg (by simp)]
 unfold loadedE
 rw[manyE_ok (by omega) (by omega),if_neg (by simp)]
 exact firstE_ok fun l hl=>eachE_ok (by have:=(h2 l hl).1;omega) (h2 l hl).2
structure ShortN (K:Kt) (ms:List Int) (ls:List (List Int)) (haul good:Nat) (room res mel st hours covers d nq N X:Nat) (l ds:List Int):Prop where
 hh:haul<K.hauls.length
 hg:good<K.goods.length
 gd:K.goods[good]?=some ⟨room,res,mel,st⟩
 hl:∃ pr,K.hauls[haul]?=some ⟨hours,covers,pr⟩
 menu:ms[haul]?=some (d:Int)
 hd:d<K.dishes.length
 dish:K.dishes[d]?=some ds
 dlen:ds.length=K.goods.length
 need:ds[good]?=some (nq:Int)
 load:ls[haul]?=some l
 llen:l.length=K.goods.length
 ld:l[good]?=some (X:Int)
 zero:haul=0→N=st
 more : 1≤haul→givenE (firstK K haul) (ms.take haul) (ls.take haul)=0∧(runK (firstK K haul) (ms.take haul) (ls.take haul)).stop=none∧(runK (firstK K haul) (ms.take haul) (ls.take haul)).left.length=haul ∧
   ∃ row,(runK (firstK K haul) (ms.take haul) (ls.take haul)).left[haul-1]?=some row∧row.length=K.goods.length∧row[good]?=some (N:Int)
 short:((N+X-melted hours mel (N+X):Nat):Int)-((covers*nq:Nat):Int)<(res:Int)
 bds:N+X≤room∧room≤20∧hours≤24∧covers≤9∧nq≤3∧mel≤12∧res≤20∧N≤20∧X≤20
 spare:givenE (spareK K good (haul+1)) (ms.take (haul+1)) (ls.take (haul+1))=0
 last:∀ h i er,(runK (spareK K good (haul+1)) (ms.take (haul+1)) (ls.take (haul+1))).stop=some (h,i,er)→er=9∨(er=11∧h=haul∧good<i∧i<K.goods.length)
theorem short_nums {K:Kt} {xs:List Int} {ls:List (List Int)} {haul good:Nat} (hG:givenE K xs ls=0) (hs:(runK K xs ls).stop=some (haul,good,11)) :
  ∃ room res mel st hours covers d nq N X l ds,ShortN K xs ls haul good room res mel st hours covers d nq N X l ds:=by
 obtain⟨s1,s2,s3,s4,s5,s6,s7⟩:=short_law hG hs
 obtain⟨hA,hL⟩:=givenE_zero hG
 obtain⟨hC,hR⟩:=askedE_zero hA
 obtain⟨l1,l2⟩:=loadedE_zero hL
 obtain⟨c1,c2,c3⟩:=checkE_zero hC
 obtain⟨_,_,g3⟩:=goodsE_zero c1
 obtain⟨_,_,h3⟩:=haulsE_zero c3
 have hxl:xs.length=K.hauls.length∧∀ x∈xs,0≤x∧x≤(K.dishes.length:Int)-1:=by
  unfold rightE at hR
  split at hR
  ·rename_i q;exact absurd hR q
  ·rename_i q
   have:=manyE_zero (Decidable.not_not.1 q)
   exact⟨by omega,rightL_zero hR⟩
 have hd3:∀ d∈K.dishes,d.length=K.goods.length∧∀ x∈d,0≤x∧x≤3:=fun d hd=>by
  unfold dishesE at c2
  split at c2
  ·rename_i q;exact absurd c2 q
  ·obtain⟨a1,a2⟩:=eachE_zero (firstE_zero c2 d hd)
   exact⟨by omega,a2⟩
 obtain⟨⟨room,res,mel,st⟩,hgd⟩:∃ G,K.goods[good]?=some G:=⟨_,List.getElem?_eq_getElem s2⟩
 obtain⟨b1,b2,b3,b4,b5,b6,b7,b8⟩:=badGood_false (g3 _ (List.mem_of_getElem? hgd))
 simp only at b1 b2 b3 b4 b5 b6 b7 b8
 obtain⟨⟨hours,covers,pr⟩,hhl⟩:∃ H,K.hauls[haul]?=some H:=⟨_,List.getElem?_eq_getElem s1⟩
 obtain⟨p1,p2,p3,p4,_,_⟩:=h3 _ (List.mem_of_getElem? hhl)
 simp only at p1 p2 p3 p4
 obtain⟨x,hx⟩:∃ x,xs[haul]?=some x:=⟨_,List.getElem?_eq_getElem (by omega)⟩
 obtain⟨x1,x2⟩:=hxl.2 x (List.mem_of_getElem? hx)
 obtain⟨ds,hds⟩:∃ ds,K.dishes[x.toNat]?=some ds:=⟨_,List.getElem?_eq_getElem (by omega)⟩
 obtain⟨d1,d2⟩:=hd3 ds (List.mem_of_getElem? hds)
 obtain⟨y,hy⟩:∃ y,ds[good]?=some y:=⟨_,List.getElem?_eq_getElem (by omega)⟩
 obtain⟨y1,y2⟩:=d2 y (List.mem_of_getElem? hy)
 obtain⟨l,hl⟩:∃ l,ls[haul]?=some l:=⟨_,List.getElem?_eq_getElem (by omega)⟩
 obtain⟨q1,q2⟩:=l2 l (List.mem_of_getElem? hl)
 obtain⟨z,hz⟩:∃ z,l[good]?=some z:=⟨_,List.getElem?_eq_getElem (by omega)⟩
 obtain⟨z1,z2⟩:=q2 z (List.mem_of_getElem? hz)
 have eg:K.goods[good]=⟨room,res,mel,st⟩:=by
  rw[List.getElem?_eq_getElem s2] at hgd
  injection hgd
 have eh:K.hauls[haul]=⟨hours,covers,pr⟩:=by
  rw[List.getElem?_eq_getElem s1] at hhl
  injection hhl
 have ex:xs[haul]'(by omega)=x:=by
  rw[List.getElem?_eq_getElem (by omega)] at hx
  injection hx
 have eD:atG (dsOf K xs) good=goodOf K xs good ⟨room,res,mel,st⟩:=by rw[atG_dsOf s2,eg]
 have eX:ldN ls haul good=z.toNat:=by
  unfold ldN
  rw[List.getD_eq_getElem?_getD,List.getD_eq_getElem?_getD,hl]
  simp[hz]
 have eH:hlG (goodOf K xs good ⟨room,res,mel,st⟩) haul={ hours:=hours.toNat,covers:=covers.toNat,price:=(pr.getD good 0).toNat,need:=y.toNat }:=by
  rw[hlG_goodOf hxl.1 s1,eh,ex]
  unfold haulOf
  rw[List.getD_eq_getElem?_getD (l:=K.dishes),hds,Option.getD_some,List.getD_eq_getElem?_getD (l:=ds),hy]
  rfl
 rw[eX] at s5
 unfold shortD at s4
 rw[decide_eq_true_eq,eD,eH,after_eq] at s4
 rw[eD] at s3 s5
 simp only[ldI,eX] at s4
 refine⟨room.toNat,res.toNat,mel.toNat,st.toNat,hours.toNat,covers.toNat,x.toNat,y.toNat,nowD (goodOf K xs good ⟨room,res,mel,st⟩) (ldI ls good) haul,z.toNat,l,ds,s1,s2,?_,⟨pr,?_⟩,?_,by omega,hds,d1,?_,hl,q1,?_,fun h0=>?_,s3,s4,?_,s6,s7⟩
 ·rw[hgd,Int.toNat_of_nonneg (by omega),Int.toNat_of_nonneg b3,Int.toNat_of_nonneg b5,Int.toNat_of_nonneg b7]
 ·rw[hhl,Int.toNat_of_nonneg p1,Int.toNat_of_nonneg p3]
 ·rw[hx,Int.toNat_of_nonneg x1]
 ·rw[hy,Int.toNat_of_nonneg y1]
 ·rw[hz,Int.toNat_of_nonneg z1]
 ·subst h0;rfl
 ·have:(goodOf K xs good ⟨room,res,mel,st⟩).room=room.toNat:=rfl
  rw[this] at s5
  omega
end Go.Gal
end
section
namespace Go.Gal
open Go Go.Par Go.Proofs Go.RowKit
theorem wrap_of {x v:Int} (h:v=x) (h1 : -1000000≤v) (h2:v≤1000000):IntKind.i64.wrap x=v:=by
 subst h
 rw[IntKind.wrap_i64]
 omega
theorem wrap_quo {a b:Nat} (ha:a≤1000000):wrap64 ((a:Int) / (b:Int))=((a / b:Nat):Int):=by
 have h:a / b≤a:=Nat.div_le_self _ _
 rw[← Int.natCast_ediv]
 generalize a / b=q at h ⊢
 rw[IntWalk.wrap64_in _ (by omega)]
section
variable {fs:Array Func} [LikeS fs]
variable (K:Kt) (gA dA hA:Option Addr) (gc dc hc:Nat) (xs:List Int) (mA:Option Addr) (mc:Nat) (ls:List (List Int)) (lA:Option Addr) (lc:Nat) (w:World) (k:KtAt w K gA dA hA) (m:Ints w mA xs) (hlen:xs.length≤1000) (hl:DishesAt w lA ls) (hll:ls.length≤1000) (hG:givenE K xs ls=0)
include k m hlen hl hll hG
theorem out_bar {h i:Nat} (hs:(runK K xs ls).stop=some (h,i,9)) :
  Calls (Pf fs) 23 #[ktV K gA dA hA gc dc hc,.slice mA xs.length mc,.slice lA ls.length lc] w fun e w'=>e=.returned (.tuple #[.int .i64 0,.int .i64 0,.int .i64 9])∧Grown w w':=
 (out_run (fs:=fs) K gA dA hA gc dc hc xs mA mc ls lA lc w k m hlen hl hll).mono fun e w' ⟨v,e1,g1,ho⟩=>by
  rcases ho with hne|⟨_,_,_,_⟩|⟨_,_,_,hne⟩|⟨_,hne⟩
  ·exact absurd hG hne
  ·exact⟨e1,g1⟩
  ·exact absurd (hs.symm.trans hne) (by simp)
  ·exact absurd (hs.symm.trans hne) (by simp)
theorem out_short {h i:Nat} (hs:(runK K xs ls).stop=some (h,i,11)) :
  Calls (Pf fs) 23 #[ktV K gA dA hA gc dc hc,.slice mA xs.length mc,.slice lA ls.length lc] w fun e w'=>e=.returned (.tuple #[.int .i64 h,.int .i64 i,.int .i64 0])∧Grown w w':=
 (out_run (fs:=fs) K gA dA hA gc dc hc xs mA mc ls lA lc w k m hlen hl hll).mono fun e w' ⟨v,e1,g1,ho⟩=>by
  rcases ho with hne|⟨_,_,_,hne⟩|⟨_,_,_,hne⟩|⟨_,hne⟩
  ·exact absurd hG hne
  ·exact absurd (hs.symm.trans hne) (by simp)
  ·cases hs.symm.trans hne
   exact⟨e1,g1⟩
  ·exact absurd (hs.symm.trans hne) (by simp)
theorem out_none (hs:(runK K xs ls).stop=none) :
  Calls (Pf fs) 23 #[ktV K gA dA hA gc dc hc,.slice mA xs.length mc,.slice lA ls.length lc] w fun e w'=>e=.returned (.tuple #[.int .i64 (-1),.int .i64 (-1),.int .i64 0])∧Grown w w':=
 (out_run (fs:=fs) K gA dA hA gc dc hc xs mA mc ls lA lc w k m hlen hl hll).mono fun e w' ⟨v,e1,g1,ho⟩=>by
  rcases ho with hne|⟨_,_,_,hne⟩|⟨_,_,_,hne⟩|⟨_,hne⟩
  ·exact absurd hG hne
  ·exact absurd (hs.symm.trans hne) (by simp)
  ·exact absurd (hs.symm.trans hne) (by simp)
  ·exact⟨e1,g1⟩
theorem runs_stop {h i:Nat} {er:Int} (hs:(runK K xs ls).stop=some (h,i,er)) :
  Calls (Pf fs) 24 #[ktV K gA dA hA gc dc hc,.slice mA xs.length mc,.slice lA ls.length lc] w fun e w'=>e=.returned (.tuple #[.slice none 0 0,.int .i64 er])∧Grown w w':=
 (runs_any (fs:=fs) K gA dA hA gc dc hc xs mA mc ls lA lc w k m hlen hl hll).mono fun e w' ⟨v,e1,g1,ho⟩=>by
  rcases ho with hne|⟨_,_,_,_,hne⟩|⟨_,_,_,hne,_⟩
  ·exact absurd hG hne
  ·cases hs.symm.trans hne
   exact⟨e1,g1⟩
  ·exact absurd (hs.symm.trans hne) (by simp)
theorem runs_none (hs:(runK K xs ls).stop=none) :
  Calls (Pf fs) 24 #[ktV K gA dA hA gc dc hc,.slice mA xs.length mc,.slice lA ls.length lc] w fun e w'=>∃ M c,e=.returned (.tuple #[.slice M (runK K xs ls).left.length c,.int .i64 0])∧Grown w w'∧DishesAt w' M (runK K xs ls).left:=
 (runs_any (fs:=fs) K gA dA hA gc dc hc xs mA mc ls lA lc w k m hlen hl hll).mono fun e w' ⟨v,e1,g1,ho⟩=>by
  rcases ho with hne|⟨_,_,_,_,hne⟩|⟨M,c,_,_,hd⟩
  ·exact absurd hG hne
  ·exact absurd (hs.symm.trans hne) (by simp)
  ·exact⟨M,c,e1,g1,hd⟩
theorem out_spare {haul good:Nat} (hs:∀ h i er,(runK K xs ls).stop=some (h,i,er)→er=9∨(er=11∧h=haul∧good<i)) :
  Calls (Pf fs) 23 #[ktV K gA dA hA gc dc hc,.slice mA xs.length mc,.slice lA ls.length lc] w fun e w'=>∃ a b j:Int,e=.returned (.tuple #[.int .i64 a,.int .i64 b,.int .i64 j])∧Grown w w'∧((a=0∧j=9)∨(a=-1∧j=0)∨(a=haul∧j=0∧(good:Int)<b)):=by
 cases hq:(runK K xs ls).stop with
 | none=>exact (out_none (fs:=fs) K gA dA hA gc dc hc xs mA mc ls lA lc w k m hlen hl hll hG hq).mono fun e w' ⟨e1,g1⟩=>⟨_,_,_,e1,g1,.inr (.inl ⟨rfl,rfl⟩)⟩
 | some p =>
  obtain⟨h,i,er⟩:=p
  rcases hs h i er hq with rfl|⟨rfl,rfl,hi⟩
  ·exact (out_bar (fs:=fs) K gA dA hA gc dc hc xs mA mc ls lA lc w k m hlen hl hll hG hq).mono fun e w' ⟨e1,g1⟩=>⟨_,_,_,e1,g1,.inl ⟨rfl,rfl⟩⟩
  ·exact (out_short (fs:=fs) K gA dA hA gc dc hc xs mA mc ls lA lc w k m hlen hl hll hG hq).mono fun e w' ⟨e1,g1⟩=>⟨_,_,_,e1,g1,.inr (.inr ⟨rfl,rfl,by omega⟩)⟩
end
section
variable {fs:Array Func} [Like fs]
set_option maxRecDepth 20000 in
set_option maxHeartbeats 1000000 in
theorem first_any (K:Kt) (gA dA hA:Option Addr) (gc dc hc:Nat) (n:Nat) (mA:Option Addr) (mc:Nat) (nl:Nat) (lA:Option Addr) (lc:Nat) (m:Nat) (w:World) (h1:m≤K.hauls.length) (h2:K.hauls.length≤hc) (h3:m≤mc) (h4:m≤lc) :
  Calls (Pf fs) 25 #[ktV K gA dA hA gc dc hc,.slice mA n mc,.slice lA nl lc,.int .i64 m] w fun e w'=>e=.returned (.tuple #[.agg #[.slice gA K.goods.length gc,.slice dA K.dishes.length dc,.slice hA m hc],.slice mA m mc,.slice lA m lc])∧Grown w w':=by
 have hm1:(0:Int)≤m:=by omega
 have hm2:(m:Int)≤hc:=by omega
 have hm3:(m:Int)≤mc:=by omega
 have hm4:(m:Int)≤lc:=by omega
 unfold ktV
 generalize K.goods.length=ng
 generalize K.dishes.length=nd
 generalize K.hauls.length=nh
 clear h1 h2 h3 h4
 go_enter LK.func25,Try.ntmps25
 go_upto_region 2 with fail
 have hbx:((w.alloc (.cells #[.slice gA ng gc,.slice dA nd dc,.slice hA m hc] 29)).alloc (.cells #[.slice none 0 0,.slice none 0 0,.slice none 0 0] 29)).heap[w.heap.size]?=some (.cells #[.slice gA ng gc,.slice dA nd dc,.slice hA m hc] 29 (0,0)):=blk_alloc (heap_alloc_new w _) _
 have hrs:((w.alloc (.cells #[.slice gA ng gc,.slice dA nd dc,.slice hA m hc] 29)).alloc (.cells #[.slice none 0 0,.slice none 0 0,.slice none 0 0] 29)).heap[w.heap.size+1]?=some (.cells #[.slice none 0 0,.slice none 0 0,.slice none 0 0] 29 (0,0)):=by
  have:=heap_alloc_new (w.alloc (.cells #[.slice gA ng gc,.slice dA nd dc,.slice hA m hc] 29)) (.cells #[.slice none 0 0,.slice none 0 0,.slice none 0 0] 29)
  simpa using this
 have hg:Grown w ((w.alloc (.cells #[.slice gA ng gc,.slice dA nd dc,.slice hA m hc] 29)).alloc (.cells #[.slice none 0 0,.slice none 0 0,.slice none 0 0] 29)):=(Grown.alloc _ _).trans (Grown.alloc _ _)
 generalize (w.alloc (.cells #[.slice gA ng gc,.slice dA nd dc,.slice hA m hc] 29)).alloc (.cells #[.slice none 0 0,.slice none 0 0,.slice none 0 0] 29)=w2 at hbx hrs hg ⊢
 have a0:=blk_cell hbx 0
 have a1:=blk_cell hbx 1
 have a2:=blk_cell hbx 2
 have r0:=blk_cell hrs 0
 have r1:=blk_cell hrs 1
 have r2:=blk_cell hrs 2
 have f0:=blk_frozen hrs 0
 have f1:=blk_frozen hrs 1
 have f2:=blk_frozen hrs 2
 simp only[List.getElem?_toArray,List.getElem?_cons_zero,List.getElem?_cons_succ] at a0 a1 a2 r0 r1 r2
 have hF:=blk_set3 hrs (.slice gA ng gc) (.slice dA nd dc) (.slice hA m hc)
 have HF:=Lib.hid hF
 have hg4:=grown_set3 hg (Nat.le_succ _) (.slice gA ng gc) (.slice dA nd dc) (.slice hA m hc)
 have HG4:=Lib.hid hg4
 have hS:w2.cell? ⟨w.heap.size,0,none⟩=some (.slice gA ng gc)∧w2.cell? ⟨w.heap.size,1,none⟩=some (.slice dA nd dc)∧w2.cell? ⟨w.heap.size,2,none⟩=some (.slice hA m hc):=⟨a0,a1,a2⟩
 have HR:=Lib.hid (And.intro r0 (And.intro r1 (And.intro r2 (And.intro f0 (And.intro f1 f2)))))
 clear hF hg4 hbx hrs hg a0 a1 a2 r0 r1 r2 f0 f1 f2
 refine wp_region_L (by kernel_rfl) (fun W=>W.cell? ⟨w.heap.size,0,none⟩=some (.slice gA ng gc)∧W.cell? ⟨w.heap.size,1,none⟩=some (.slice dA nd dc)∧W.cell? ⟨w.heap.size,2,none⟩=some (.slice hA m hc)) [7] ?_
 refine wpAnyL_p 1 ?_ rfl ?_ ?_;case refine_2=>(intro w _;go_simp;try rfl)
 refine wpAnyL_p 2 ?_ rfl ?_ ?_;case refine_2=>(intro w _;go_simp;try rfl)
 refine wpAnyL_p 4 ?_ rfl ?_ ?_;case refine_2=>(intro w _;go_simp;try rfl)
 refine wpAnyL_p 5 ?_ rfl ?_ ?_;case refine_2=>(intro w _;go_simp;try rfl)
 refine wpAnyL_p 3 ?_ rfl ?_ ?_;case refine_2=>(intro w _;go_simp;try rfl)
 refine wpAnyL_p 6 ?_ rfl ?_ ?_;case refine_2=>(intro w _;go_simp;try rfl)
 refine wpAnyL_t 0 ?_ rfl hS ?_ ?_;case refine_2=>(intro w hSw;(try dsimp only at hSw);go_simp;try rfl)
 obtain⟨r0,r1,r2,f0,f1,f2⟩:=HR.out
 refine wpAnyL_late (i:=7) rfl (by kernel_rfl) (by rfl) ?_
 intro Kq hKq
 go_simp
 refine hKq.out _ _ ?_
 clear hKq Kq
 refine wpAnyL_p 8 ?_ rfl ?_ ?_;case refine_2=>(intro w _;go_simp;try rfl)
 refine wpAnyL_p 9 ?_ rfl ?_ ?_;case refine_2=>(intro w _;go_simp;try rfl)
 refine wpAnyL_done (by kernel_rfl) ?_
 have c0:=blk_cell HF.out 0
 have c1:=blk_cell HF.out 1
 have c2:=blk_cell HF.out 2
 simp only[List.getElem?_toArray,List.getElem?_cons_zero,List.getElem?_cons_succ] at c0 c1 c2
 clear HR r0 r1 r2 f0 f1 f2 hS
 try simp only[Act.put,List.getElem_toArray,List.getElem_cons_succ,List.getElem_cons_zero,List.setIfInBounds_toArray,List.set_cons_zero,List.set_cons_succ]
 go_wp2_with fail
 refine bodyPost_ret (v:=.tuple #[.agg #[.slice gA ng gc,.slice dA nd dc,.slice hA m hc],.slice mA m mc,.slice lA m lc]) (by simp[results,Try.results25,go_sem,c0,c1,c2]) rfl ⟨rfl,?_⟩
 exact HG4.out.drewN _
end
theorem getElem?_of_take {α : Type} {l:List α} {m j:Nat} {x : α} (h:(l.take m)[j]?=some x):l[j]?=some x:=by
 rw[List.getElem?_take] at h
 split at h
 ·exact h
 ·cases h
theorem KtAt.first {w:World} {K:Kt} {gA dA hA:Option Addr} (k:KtAt w K gA dA hA) (m:Nat):KtAt w (firstK K m) gA dA hA:=
 ⟨k.goods,k.dishes,fun j x hx=>k.hauls j x (getElem?_of_take hx),k.ng,k.nd,by have:=k.nh;simp[firstK];omega⟩
theorem Ints.take {w:World} {A:Option Addr} {xs:List Int} (h:Ints w A xs) (m:Nat):Ints w A (xs.take m):=fun j x hx=>h j x (getElem?_of_take hx)
theorem DishesAt.take {w:World} {A:Option Addr} {ds:List (List Int)} (h:DishesAt w A ds) (m:Nat):DishesAt w A (ds.take m):=fun j x hx=>h j x (getElem?_of_take hx)
section
variable {fs:Array Func} [LikeS fs]
theorem runs_first (K:Kt) (gA dA hA:Option Addr) (gc dc hc:Nat) (xs:List Int) (mA:Option Addr) (mc:Nat) (ls:List (List Int)) (lA:Option Addr) (lc:Nat) (m:Nat) (w:World) (k:KtAt w K gA dA hA) (hm:Ints w mA xs) (hl:DishesAt w lA ls) (h1:m≤K.hauls.length) (h2:m≤xs.length) (h3:m≤ls.length) (h4:m≤1000)
  (hG:givenE (firstK K m) (xs.take m) (ls.take m)=0) (hs:(runK (firstK K m) (xs.take m) (ls.take m)).stop=none) (hn:(runK (firstK K m) (xs.take m) (ls.take m)).left.length=m) :
  Calls (Pf fs) 24 #[.agg #[.slice gA K.goods.length gc,.slice dA K.dishes.length dc,.slice hA m hc],.slice mA m mc,.slice lA m lc] w fun e w'=>∃ M c,e=.returned (.tuple #[.slice M m c,.int .i64 0])∧Grown w w'∧DishesAt w' M (runK (firstK K m) (xs.take m) (ls.take m)).left:=by
 have e1:(firstK K m).hauls.length=m:=by simp[firstK];omega
 have e2:(xs.take m).length=m:=by simp;omega
 have e3:(ls.take m).length=m:=by simp;omega
 have h:=runs_none (fs:=fs) (firstK K m) gA dA hA gc dc hc (xs.take m) mA mc (ls.take m) lA lc w (k.first m) (hm.take m) (by omega) (hl.take m) (by omega) hG hs
 unfold ktV at h
 rw[e1,e2,e3,hn] at h
 exact h
end
def behindN:Nat→Code→Code
 | 0,c=>c
 | n+1,.seq _ b=>behindN n b
 | _,c=>c
end Go.Gal
end
