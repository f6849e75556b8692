/- A price in a kitchen of one's own is put; prices, one by one, so many times as much. Walks: GalleyApart, where loads will do not (printed by lawapart.py bad). A kitchen of one's own in .. -/
import Derived.Test.YtlgiofglcgbjgaaM42
namespace Go.Gal
open Go Go.Par Go.Proofs Go.RowKit
section
theorem HlList.putIn {w:World} {base top c:Nat} {A:Option Addr} {hs:List Hl} (h:RecList 46 3 encH innH w base top A c hs) {j i:Nat} {x:Hl} {v:Int} (hj:hs[j]?=some x) (hi:i<x.prices.length) :
  ∃ b b2 cc,A=some ⟨b,0,none⟩∧w.cell? ⟨b,j*3+2,none⟩=some (.slice (some ⟨b2,0,none⟩) x.prices.length cc)∧base≤b∧base≤b2∧b2<top∧(∃ cur,w.heap[b2]?=some (.cells cur 3 (0,0)))∧w.cell? ⟨b2,i,none⟩=some (.int .i64 x.prices[i])∧w.frozen? ⟨b2,i,none⟩=false ∧
   RecList 46 3 encH innH (w.setCell ⟨b2,i,none⟩ (.int .i64 v)) base top A c (hs.set j { x with prices:=x.prices.set i v }):=by
 obtain⟨cells,As,cs,h1,h2,h3⟩:=h
 have hjl:j<hs.length:=(List.getElem?_eq_some_iff.1 hj).1
 obtain⟨k1,k2,k3⟩:=h2 j x hj
 have k2':w.ownsRow base 3 1 (.slice (As j) x.prices.length (cs j)) x.prices.length (x.prices.map (Value.int .i64)):=k2
 obtain⟨b2,cur2,hA2,hb2,hh2,hold,hp⟩:=own_put k2' (i:=i) (by omega) (.int .i64 v)
 obtain⟨b,B,cc,hA,hbb,hcell,_⟩:=RecList.at_ (enc:=encH) (inn:=innH) ⟨cells,As,cs,h1,h2,h3⟩ (fun _ _ _=>rfl) hj
 have hne:∀ k,(∃ cs',w.heap[k]?=some (.cells cs' 46 (0,0)))→k≠b2:=fun k ⟨cs',q⟩=>tag_ne q hh2 (by decide)
 have hc1:cells[j*3+2]?=some (.slice (As j) x.prices.length (cs j)):=k1 2 _ rfl
 have hcw:w.cell? ⟨b,j*3+2,none⟩=some (.slice (some ⟨b2,0,none⟩) x.prices.length (cs j)):=by
  rcases h1.2 with ⟨_,q⟩|⟨g,cap,cur,q,hg,hh,hn,hm,hsz,htk⟩
  ·omega
  ·injection q with q _ _
   rw[hA] at q
   injection q with q
   injection q with q _ _
   subst q
   rw[za hh,← Array.getElem?_toList]
   rw[← htk,List.getElem?_take] at hc1
   split at hc1
   ·rw[hc1,hA2]
   ·cases hc1
 have hval:w.cell? ⟨b2,i,none⟩=some (.int .i64 x.prices[i]):=by
  obtain⟨b',o',e,q⟩:=ints_own k2 i _ (List.getElem?_eq_getElem (l:=x.prices) hi)
  rw[hA2] at e
  cases e
  simpa using q
 refine⟨b,b2,cs j,hA,hcw,hbb,hb2,k3 b2 (by rw[hA2];rfl),⟨cur2,hh2⟩,hval,zk hh2 _,cells,As,cs,?_,fun j' z hz=>?_,by rw[List.length_set];exact h3⟩
 ·rw[List.length_set]
  exact qw h1 fun k hk _=>Below.heap_setCell _ _ _ _ (hne k (own_tag h1 hk))
 ·by_cases hjj:j'=j
  ·subst hjj
   rw[List.getElem?_set_self hjl] at hz
   cases hz
   refine⟨fun i' u hu=>?_,?_,k3⟩
   ·refine k1 i' u ?_
    unfold encH at hu ⊢
    simp only[List.length_set] at hu
    exact hu
   ·show World.ownsRow _ _ _ _ _ _ _
    rw[show innH { x with prices:=x.prices.set i v }=x.prices.set i v from rfl,List.length_set,List.map_set]
    exact hp
  ·rw[List.getElem?_set_ne (fun q=>hjj q.symm)] at hz
   obtain⟨m1,m2,m3⟩:=h2 j' z hz
   refine⟨m1,qw m2 fun k hk _=>Below.heap_setCell _ _ _ _ (fun q=>?_),m3⟩
   rw[qx] at hk
   have hj'l:j'<hs.length:=(List.getElem?_eq_some_iff.1 hz).1
   exact hjj (h3 j' j k hj'l hjl hk (by rw[hA2,q];rfl))
theorem KOwn.price {w:World} {base:Nat} {K:Kt} {gA:Option Addr} {gc:Nat} {dA:Option Addr} {dc:Nat} {hA:Option Addr} {hc:Nat} (h:KOwn w base K gA gc dA dc hA hc) {j i:Nat} {x:Hl} {v:Int} (hj:K.hauls[j]?=some x) (hi:i<x.prices.length) :
  ∃ b b2 cc,hA=some ⟨b,0,none⟩∧base≤b∧base≤b2∧w.cell? ⟨b,j*3+2,none⟩=some (.slice (some ⟨b2,0,none⟩) x.prices.length cc)∧w.cell? ⟨b2,i,none⟩=some (.int .i64 x.prices[i])∧w.frozen? ⟨b2,i,none⟩=false ∧
   KOwn (w.setCell ⟨b2,i,none⟩ (.int .i64 v)) base { K with hauls:=K.hauls.set j { x with prices:=x.prices.set i v } } gA gc dA dc hA hc:=by
 obtain⟨m,h1,h2,h3,h4,h5⟩:=h
 obtain⟨b,b2,cc,e1,e2,e0,e3,e4,⟨cur,e5⟩,e6,e7,e8⟩:=HlList.putIn (v:=v) h5 hj hi
 refine⟨b,b2,cc,e1,by omega,by omega,e2,e6,e7,m,h1,by rw[zu];exact h2,?_,?_,by rw[zu];exact e8⟩
 ·obtain⟨cells,As,cs,g1,g2,g3⟩:=h3
  refine⟨cells,fun _=>none,fun _=>0,qw g1 fun k hk _=>Below.heap_setCell _ _ _ _ (by
   obtain⟨cc',q⟩:=own_tag g1 hk
   exact tag_ne q e5 (by decide)),fun j' z hz=>⟨(g2 j' z hz).1,L.OwnInts.nil _ _,fun k hk=>by simp at hk⟩,fun _ _ k _ _ hk=>by simp at hk⟩
 ·obtain⟨cells,As,cs,g1,g2,g3⟩:=h4
  refine⟨cells,As,cs,qw g1 fun k hk _=>Below.heap_setCell _ _ _ _ (by
   obtain⟨cc',q⟩:=own_tag g1 hk
   exact tag_ne q e5 (by decide)),fun j' z hz=>?_,g3⟩
  obtain⟨q1,q2,q3⟩:=g2 j' z hz
  refine⟨q1,qw q2 fun k hk _=>Below.heap_setCell _ _ _ _ (fun q=>?_),q3⟩
  rw[qx] at hk
  have:=q3 k hk
  simp only at q
  omega
def timesTo (k:Nat) (l:List Int) (g:Nat):List Int:=(l.take g).map (fun p=>(k:Int)*p)++l.drop g
theorem timesTo_len (k:Nat) (l:List Int) (g:Nat):(timesTo k l g).length=l.length:=by simp[timesTo];omega
theorem timesTo_at {k:Nat} {l:List Int} {g:Nat} (h:g<l.length):(timesTo k l g)[g]'(by rw[timesTo_len];exact h)=l[g]:=by
 have:(timesTo k l g)[g]?=some l[g]:=by
  unfold timesTo
  rw[List.getElem?_append_right (by simp;omega)]
  simp[Nat.min_eq_left (Nat.le_of_lt h),List.getElem?_eq_getElem h]
 rw[List.getElem?_eq_getElem (by rw[timesTo_len];exact h)] at this
 injection this
theorem timesTo_succ {k:Nat} {l:List Int} {g:Nat} (h:g<l.length):(timesTo k l g).set g ((k:Int)*l[g])=timesTo k l (g+1):=by
 have hm:(List.map (fun p=>(k:Int)*p) (List.take g l)).length=g:=by simp;omega
 unfold timesTo
 rw[List.set_append,if_neg (by omega),hm,Nat.sub_self,List.drop_eq_getElem_cons h,List.set_cons_zero,List.take_add_one,List.getElem?_eq_getElem h]
 simp only[List.map_append,Option.toList_some,List.map_cons,List.map_nil,List.append_assoc,List.cons_append,List.nil_append]
def timesH2 (K:Kt) (k i g:Nat):List Hl:=K.hauls.mapIdx fun j h=>if j<i then { h with prices:=timesTo k h.prices h.prices.length } else if j=i then { h with prices:=timesTo k h.prices g } else h
def timesK2 (K:Kt) (k i g:Nat):Kt:={ K with hauls:=timesH2 K k i g }
theorem timesTo_zero (k:Nat) (l:List Int):timesTo k l 0=l:=by simp[timesTo]
theorem timesTo_all (k:Nat) (l:List Int):timesTo k l l.length=l.map fun p=>(k:Int)*p:=by simp[timesTo]
theorem timesK2_zero (K:Kt) (k:Nat):timesK2 K k 0 0=K:=by
 unfold timesK2 timesH2
 congr 1
 apply List.ext_getElem?
 intro j
 rw[List.getElem?_mapIdx]
 cases K.hauls[j]? with
 | none=>rfl
 | some h =>
  simp only[Option.map_some,Nat.not_lt_zero,if_false]
  split
  ·rw[timesTo_zero]
  ·rfl
theorem timesK2_next (K:Kt) (k i:Nat) {n:Nat} (hl:∀ h∈K.hauls,h.prices.length=n):timesK2 K k i n=timesK2 K k (i+1) 0:=by
 unfold timesK2 timesH2
 congr 1
 apply List.ext_getElem?
 intro j
 rw[List.getElem?_mapIdx,List.getElem?_mapIdx]
 cases hj:K.hauls[j]? with
 | none=>rfl
 | some h =>
  have hlen:=hl h (List.mem_of_getElem? hj)
  simp only[Option.map_some,Option.some.injEq]
  by_cases q1:j<i
  ·rw[if_pos q1,if_pos (by omega)]
  ·by_cases q2:j=i
   ·rw[if_neg q1,if_pos q2,if_pos (by omega),hlen]
   ·rw[if_neg q1,if_neg q2,if_neg (by omega)]
    by_cases q3:j=i+1
    ·rw[if_pos q3,timesTo_zero]
    ·rw[if_neg q3]
theorem timesK2_all (K:Kt) (k:Nat):timesK2 K k K.hauls.length 0=zW K k:=by
 unfold timesK2 timesH2 zW
 congr 1
 apply List.ext_getElem?
 intro j
 rw[List.getElem?_mapIdx,List.getElem?_map]
 cases hj:K.hauls[j]? with
 | none=>rfl
 | some h =>
  have:=(List.getElem?_eq_some_iff.1 hj).1
  simp only[Option.map_some,if_pos this,timesTo_all]
theorem timesK2_at {K:Kt} {k i g:Nat} (hi:i<K.hauls.length):(timesK2 K k i g).hauls[i]?=some { hlAt K.hauls i with prices:=timesTo k (hlAt K.hauls i).prices g }:=by
 unfold timesK2 timesH2
 rw[List.getElem?_mapIdx,qn hi]
 simp
theorem timesK2_set {K:Kt} {k i g:Nat} (hi:i<K.hauls.length) (hg:g<(hlAt K.hauls i).prices.length) :
  { timesK2 K k i g with hauls:=(timesK2 K k i g).hauls.set i { hlAt K.hauls i with prices:=(timesTo k (hlAt K.hauls i).prices g).set g ((k:Int)*(hlAt K.hauls i).prices[g]) } }=timesK2 K k i (g+1):=by
 rw[timesTo_succ hg]
 unfold timesK2
 simp only
 congr 1
 apply List.ext_getElem?
 intro j
 by_cases hj:j=i
 ·subst hj
  rw[List.getElem?_set_self (by simp[timesH2];exact hi)]
  have:=timesK2_at (K:=K) (k:=k) (g:=g+1) hi
  unfold timesK2 at this
  exact this.symm
 ·rw[List.getElem?_set_ne (Ne.symm hj)]
  unfold timesH2
  rw[List.getElem?_mapIdx,List.getElem?_mapIdx]
  cases K.hauls[j]? with
  | none=>rfl
  | some h=>simp[hj]
theorem wrap_big {n:Nat} (h:n≤9223372036854775807):IntKind.i64.wrap ((n:Nat):Int)=(n:Int):=by
 rw[IntKind.wrap_i64]
 omega
section
variable {fs:Array Func} [LikeS fs]
theorem timesK_asked {K:Kt} {xs:List Int} {k:Nat} (hA:qe K xs=0) (hk:k≤5) (h9:∀ x∈K.hauls,∀ y∈x.prices,0≤y∧y≤9):qe (zW K k) xs=0:=by
 obtain⟨hC,hR⟩:=askedE_zero hA
 obtain⟨c1,c2,c3⟩:=zV hC
 obtain⟨h1,h2,h3⟩:=qd c3
 refine asked_of ?_ (by simpa[zW] using hR)
 unfold zF
 rw[show (zW K k).goods=K.goods from rfl,show (zW K k).dishes=K.dishes from rfl,c1,c2,if_neg (by simp),if_neg (by simp)]
 refine haulsE_ok (by simpa[zW] using h1) (by simpa[zW] using h2) fun x hx=>?_
 simp only[zW,List.mem_map] at hx
 obtain⟨x0,hx0,rfl⟩:=hx
 obtain⟨a,b,c,d,e,_⟩:=h3 x0 hx0
 refine⟨a,b,c,d,by simpa using e,fun p hp=>?_⟩
 obtain⟨y,hy,rfl⟩:=List.mem_map.1 hp
 have hb:=h9 x0 hx0 y hy
 have q1:(k:Int)*y≤5*9:=Int.mul_le_mul (by omega) (by omega) (by omega) (by omega)
 have q2 : 0≤(k:Int)*y:=Int.mul_nonneg (by omega) (by omega)
 omega
theorem times_bad (K:Kt) (k:Nat) (gA dA hA:Option Addr) (gc dc hc:Nat) (xs:List Int) (mA:Option Addr) (mc:Nat) (w:World) (kt:KtAt w (zW K k) gA dA hA) (m:Ints w mA xs) (hlen:xs.length≤1000) (ha:qe K xs=0) (hk : 2≤k∧k≤5) (h9:∀ x∈K.hauls,∀ y∈x.prices,0≤y∧y≤9) (hn:noneB K xs=true) :
  Calls (Pf fs) 29 #[.agg #[.slice gA K.goods.length gc,.slice dA K.dishes.length dc,.slice hA K.hauls.length hc],.slice mA xs.length mc] w fun e w'=>e=.returned (.tuple #[.slice none 0 0,.int .i64 0,.int .i64 11])∧Grown w w':=by
 have h:=cheapest_bad (fs:=fs) (zW K k) gA dA hA gc dc hc xs mA mc w kt m hlen (timesK_asked ha hk.2 h9) (by rw[fine_times (askedE_zero ha).1 (by omega)];exact hn)
 unfold ktV at h
 rw[show (zW K k).goods=K.goods from rfl,show (zW K k).dishes=K.dishes from rfl,show (zW K k).hauls.length=K.hauls.length by simp[zW]] at h
 exact h
theorem times_good (K:Kt) (k:Nat) (gA dA hA:Option Addr) (gc dc hc:Nat) (xs:List Int) (mA:Option Addr) (mc:Nat) (w:World) (kt:KtAt w (zW K k) gA dA hA) (m:Ints w mA xs) (hlen:xs.length≤1000) (ha:qe K xs=0) (hk : 2≤k∧k≤5) (h9:∀ x∈K.hauls,∀ y∈x.prices,0≤y∧y≤9) (hn:noneB K xs=false) :
  Calls (Pf fs) 29 #[.agg #[.slice gA K.goods.length gc,.slice dA K.dishes.length dc,.slice hA K.hauls.length hc],.slice mA xs.length mc] w fun e w'=>∃ M,e=.returned (.tuple #[.slice (some ⟨M,0,none⟩) K.hauls.length K.hauls.length,.int .i64 ((k*zR K xs:Nat):Int),.int .i64 0])∧Grown w w'∧DishesAt w' (some ⟨M,0,none⟩) (rowsOf K xs):=by
 have h:=cheapest_good (fs:=fs) (zW K k) gA dA hA gc dc hc xs mA mc w kt m hlen (timesK_asked ha hk.2 h9) (by rw[fine_times (askedE_zero ha).1 (by omega)];exact hn)
 unfold ktV at h
 rw[show (zW K k).goods=K.goods from rfl,show (zW K k).dishes=K.dishes from rfl,show (zW K k).hauls.length=K.hauls.length by simp[zW],rows_times (askedE_zero ha).1 (by omega),cost_times (askedE_zero ha).1 (by omega) hn] at h
 exact h
theorem rows_same (K:Kt) (xs:List Int) (A B:Option Addr) (ca cb:Nat) (w:World) (hx:DishesAt w A (rowsOf K xs)) (hy:DishesAt w B (rowsOf K xs)) (hn:K.hauls.length≤1000) :
  Calls (Pf fs) 38 #[.slice A K.hauls.length ca,.slice B K.hauls.length cb] w fun e w'=>e=.returned (.bool true)∧Grown w w':=by
 have h:=equalRows_any (fs:=fs) A B ca cb (rowsOf K xs) (rowsOf K xs) w hx hy (by rw[rowsOf_len];exact hn) (by rw[rowsOf_len];exact hn)
 rw[rowsOf_len] at h
 exact h.mono fun e w' ⟨e1,q,e2⟩=>⟨by rw[e1];simp,by rw[e2];exact (Grown.refl _).drewN _⟩
theorem none_same (w:World):Calls (Pf fs) 38 #[.slice none 0 0,.slice none 0 0] w fun e w'=>e=.returned (.bool true)∧Grown w w':=
 (equalRows_any (fs:=fs) none none 0 0 [] [] w (fun j d h=>by simp at h) (fun j d h=>by simp at h) (by simp) (by simp)).mono fun e w' ⟨e1,q,e2⟩=>⟨by rw[e1];simp,by rw[e2];exact (Grown.refl _).drewN _⟩
end
end
section
structure Apart5 (wS:World) (K:Kt) (ms:List Int) (gA dA hA mA:Option Addr) (gc dc hc bx:Nat):Prop where
 kt:KtAt wS K gA dA hA
 m:Ints wS mA ms
 box:wS.heap[bx]?=some (.cells #[.slice gA K.goods.length gc,.slice dA K.dishes.length dc,.slice hA K.hauls.length hc] 29 (0,0))
 valid:zF K=0
 asked:qe K ms=0
 ml:ms.length≤1000
 n : 1≤K.goods.length∧1≤K.dishes.length∧1≤K.hauls.length
 n3:K.goods.length≤3
 dlen:∀ d∈K.dishes,d.length=K.goods.length
 plen:∀ x∈K.hauls,x.prices.length=K.goods.length
theorem Apart5.cells {wS:World} {K:Kt} {ms:List Int} {gA dA hA mA:Option Addr} {gc dc hc bx:Nat} (s:Apart5 wS K ms gA dA hA mA gc dc hc bx) {W:World} (g:Grown wS W):W.cell? ⟨bx,0,none⟩=some (.slice gA K.goods.length gc)∧W.cell? ⟨bx,1,none⟩=some (.slice dA K.dishes.length dc)∧W.cell? ⟨bx,2,none⟩=some (.slice hA K.hauls.length hc):=⟨za (zh s.box g) 0,za (zh s.box g) 1,za (zh s.box g) 2⟩
section
variable {fs:Array Func} [LikeS fs]
end
end
section
section
variable {w W:World} {base:Nat} {K:Kt} {gb db hb h g:Nat} {nb nc pb pc:Nat→Nat}
end
theorem fits_le {D:Good1} : ∀ {hs:List Haul1} {t:Nat} {l:List Nat},Fits D hs t l→∀ x∈l,x≤D.room
 | [],_,[],_,x,hx=>by simp at hx
 | h::hs,t,n::l,⟨h1,_,h3⟩,x,hx=>by
  rcases List.mem_cons.1 hx with q|q
  ·subst q
   unfold tries at h1
   split at h1<;>omega
  ·exact fits_le h3 x q
 | [],_,_::_,h,_,_=>h.elim
 | _::_,_,[],h,_,_=>h.elim
theorem row_small {K:Kt} {xs:List Int} (hA:qe K xs=0) (hn:noneB K xs=false) {h:Nat} : ∀ x∈(dsOf K xs).map (ldAt h),0≤x∧x≤1000:=fun x hx=>by
 obtain⟨D,hD,rfl⟩:=List.mem_map.1 hx
 obtain⟨i,hi⟩:=List.getElem?_of_mem hD
 have hig:i<K.goods.length:=by
  have:=(List.getElem?_eq_some_iff.1 hi).1
  rwa [dsOf_len] at this
 rw[dsOf_at hig] at hi
 cases hi
 have hp:(zf (oneG K xs i)).2.2=false:=fineTo_iff.1 (show fineTo K xs K.goods.length=true by rw[fineTo_all,hn];rfl) i hig
 have hf:=planFrom_fits _ _ _ hp
 obtain⟨c1,_,_⟩:=zV (askedE_zero hA).1
 obtain⟨_,_,g3⟩:=goodsE_zero c1
 obtain⟨b1,b2,_⟩:=badGood_false (g3 _ (List.mem_of_getElem? (gdAt_get hig)))
 refine⟨Int.natCast_nonneg _,?_⟩
 unfold ldAt
 rw[List.getD_eq_getElem?_getD]
 cases hq:(zf (oneG K xs i)).1[h]? with
 | none=>simp
 | some q =>
  have:=fits_le hf q (List.mem_of_getElem? hq)
  have hr:(oneG K xs i).room=(gdAt K.goods i).room.toNat:=rfl
  simp only[Option.getD_some]
  omega
section
variable {fs:Array Func} [LikeS fs]
end
end
section
noncomputable def body11:Code:=Try.f11.body.getD .skip
section
variable {fs:Array Func} [LikeS fs]
set_option maxRecDepth 100000 in
set_option maxHeartbeats 8000000 in
theorem law11b {wS:World} {K:Kt} {ms:List Int} {gA dA mA:Option Addr} {gc dc hc mc bx g hb ho haul good:Nat} (S:Hid (Apart5 wS K ms gA dA (some ⟨hb,ho,none⟩) mA gc dc hc bx)) (HN:noneB K ms=true) (HH:haul<K.hauls.length) (HGD:good<K.goods.length) (HP9:∀ x∈K.hauls,∀ y∈x.prices,0≤y∧y≤9) (HBG:Hid (BagAt wS g)) (hbxg:bx≠g) {u0 u1 u2 u6 u7 u8 u9 u10 u11 u13 u14 u15 u18 u19 u20 u21 u22 u23 u24 u25 u26 u27 u28 u29 u30 u31 u32 u33 u34 u35 u36 u37 u38 u39 u40 u41 u42 u43 u44 u45 u46 u47 u48 u49 u50 u51 u52 u53 u54 u55 u56 u57 u58 u59 u60 u61 u62 u63 u64 u65 u66 u67 u68 u69 u70 u71 u72 u73 u74 u75 u76 u77 u78 u79 u80 u81 u82 u83 u84 u85 u86 u87 u88 u89 u90 u91 u92 u93 u94 u95 u96 u97 u98 u99 u100 u101 u102 u103 u104 u105 u106 u107 u108 u109 u110 u111 u112 u113 u114 u115 u116 u117 u118 u119 u120 u121 u122 u123 u124 u125 u126 u127 u128 u129 u130 u131 u132 u133 u134 u135 u136 u137 u138 u139 u140 u141 u142 u143 u144 u145 u146 u147 u148 u149 u150 u151 u152 u153 u154 u155 u156 u157 u158 u159 u160 u161 u162 u163 u164 u165 u166 u167 u168 u169 u170 u171 u172 u173 u174 u175 u176 u177 u178 u179 u180 u181 u182 u183 u184:Value} :
  Code.wp (Pf fs) (behindN 11 body11) (bodyPost (Pf fs) Try.f11 fun e _=>e=.returned (.bool true)) ⟨#[u0,u1,u2,.pointer (some ⟨g,0,none⟩),.pointer (some ⟨bx,0,none⟩),.slice mA ms.length mc,u6,u7,u8,u9,u10,u11,.int .i64 11,u13,u14,u15,.int .i64 haul,.int .i64 good,u18,u19,u20,u21,u22,u23,u24,u25,u26,u27,u28,u29,u30,u31,u32,u33,u34,u35,u36,u37,u38,u39,u40,u41,u42,u43,u44,u45,u46,u47,u48,u49,u50,u51,u52,u53,u54,u55,u56,u57,u58,u59,u60,u61,u62,u63,u64,u65,u66,u67,u68,u69,u70,u71,u72,u73,u74,u75,u76,u77,u78,u79,u80,u81,u82,u83,u84,u85,u86,u87,u88,u89,u90,u91,u92,u93,u94,u95,u96,u97,u98,u99,u100,u101,u102,u103,u104,u105,u106,u107,u108,u109,u110,u111,u112,u113,u114,u115,u116,u117,u118,u119,u120,u121,u122,u123,u124,u125,u126,u127,u128,u129,u130,u131,u132,u133,u134,u135,u136,u137,u138,u139,u140,u141,u142,u143,u144,u145,u146,u147,u148,u149,u150,u151,u152,u153,u154,u155,u156,u157,u158,u159,u160,u161,u162,u163,u164,u165,u166,u167,u168,u169,u170,u171,u172,u173,u174,u175,u176,u177,u178,u179,u180,u181,u182,u183,u184],[]⟩ wS:=by
 have i1:(haul:Int)<K.hauls.length:=by omega
 have i2:(good:Int)<K.goods.length:=by omega
 obtain⟨hb',ho',eh,pA,pc,_,_,y3,y4,_⟩:=S.out.kt.hauls haul _ (qn HH)
 cases eh
 have hpl:=S.out.plen _ (List.mem_of_getElem? (qn HH))
 have hpg:=getD_of (l:=(hlAt K.hauls haul).prices) (g:=good) (by omega)
 have hp9:=HP9 _ (List.mem_of_getElem? (qn HH)) _ (List.mem_of_getElem? hpg)
 obtain⟨pb,po,rfl,y5⟩:=y4 good _ hpg
 rw[hpl] at y3
 obtain⟨a0,a1,a2⟩:=S.out.cells (Grown.refl _)
 obtain⟨pr,hpr⟩:∃ pr,pr=(hlAt K.hauls haul).prices.getD good 0:=⟨_,rfl⟩
 rw[← hpr] at y5 hp9
 have HPR:=Lib.hid hpr
 clear y4 hpl hpg hpr
 conv=>arg 2;whnf
 by_cases hp0:pr=0
 ·subst hp0
  go_wp2_with (go_at_call 22;refine (served_any _).mono ?_;rintro e w9 ⟨rfl,g9⟩)
  go_ret
  rfl
 ·have i3:(pr==0)=false:=by simp[hp0]
  go_upto_region 23 with (go_at_call 27;refine (up_any g 9 _ (HBG.out.of_block rfl) (by decide)).mono ?_;rintro e w2 ⟨more,rfl,hm0,hm1,hB⟩;have HKB:=Lib.hid (Kb.of_bagged HBG.out hB);clear hB)
  have hkt2:=S.out.kt.kb HKB.out HBG.out
  have HS2:=Lib.hid (show Apart5 w2 K ms gA dA (some ⟨hb,ho,none⟩) mA gc dc hc bx from ⟨hkt2,S.out.m.kb HKB.out HBG.out,HKB.out.ke.block S.out.box (by omega),S.out.valid,S.out.asked,S.out.ml,S.out.n,S.out.n3,S.out.dlen,S.out.plen⟩)
  obtain⟨d,rfl⟩:∃ d:Nat,more=d:=⟨more.toNat,by omega⟩
  have hw:IntKind.i64.wrap (pr+(d:Int))=pr+d:=wrap_of rfl (by omega) (by omega)
  clear a0 a1 a2 y3 y5 hkt2
  obtain⟨a0,a1,a2⟩:=HS2.out.cells (Grown.refl _)
  have HRI:=Lib.hid (rise_bad (fs:=fs) K gA dA hb ho gc dc hc ms mA mc haul good (pr+d) w2 HS2.out.kt HS2.out.m S.out.ml S.out.asked HH HGD (by omega) HN)
  clear hm0 hm1
  go_wp2_with (first|(go_at_call 52;refine HRI.out.mono ?_;rintro e w3 ⟨rfl,g3⟩)|(go_at_call 22;refine (served_any _).mono ?_;rintro e w9 ⟨rfl,g9⟩))
  go_ret
  rfl
end
end
section
section
variable {fs:Array Func} [LikeS fs]
set_option maxRecDepth 100000 in
set_option maxHeartbeats 8000000 in
theorem law11g {wS:World} {K:Kt} {ms:List Int} {gA dA mA:Option Addr} {gc dc hc mc bx g hb ho haul good:Nat} (S:Hid (Apart5 wS K ms gA dA (some ⟨hb,ho,none⟩) mA gc dc hc bx)) (HN:noneB K ms=false) {M:Nat} (HM:Hid (DishesAt wS (some ⟨M,0,none⟩) (rowsOf K ms))) (HH:haul<K.hauls.length) (HGD:good<K.goods.length) (HP9:∀ x∈K.hauls,∀ y∈x.prices,0≤y∧y≤9) (HBG:Hid (BagAt wS g)) (hbxg:bx≠g) {u0 u1 u2 u6 u7 u8 u9 u13 u14 u15 u18 u19 u20 u21 u22 u23 u24 u25 u26 u27 u28 u29 u30 u31 u32 u33 u34 u35 u36 u37 u38 u39 u40 u41 u42 u43 u44 u45 u46 u47 u48 u49 u50 u51 u52 u53 u54 u55 u56 u57 u58 u59 u60 u61 u62 u63 u64 u65 u66 u67 u68 u69 u70 u71 u72 u73 u74 u75 u76 u77 u78 u79 u80 u81 u82 u83 u84 u85 u86 u87 u88 u89 u90 u91 u92 u93 u94 u95 u96 u97 u98 u99 u100 u101 u102 u103 u104 u105 u106 u107 u108 u109 u110 u111 u112 u113 u114 u115 u116 u117 u118 u119 u120 u121 u122 u123 u124 u125 u126 u127 u128 u129 u130 u131 u132 u133 u134 u135 u136 u137 u138 u139 u140 u141 u142 u143 u144 u145 u146 u147 u148 u149 u150 u151 u152 u153 u154 u155 u156 u157 u158 u159 u160 u161 u162 u163 u164 u165 u166 u167 u168 u169 u170 u171 u172 u173 u174 u175 u176 u177 u178 u179 u180 u181 u182 u183 u184:Value} :
  Code.wp (Pf fs) (behindN 11 body11) (bodyPost (Pf fs) Try.f11 fun e _=>e=.returned (.bool true)) ⟨#[u0,u1,u2,.pointer (some ⟨g,0,none⟩),.pointer (some ⟨bx,0,none⟩),.slice mA ms.length mc,u6,u7,u8,u9,.slice (some ⟨M,0,none⟩) K.hauls.length K.hauls.length,.int .i64 (zR K ms),.int .i64 0,u13,u14,u15,.int .i64 haul,.int .i64 good,u18,u19,u20,u21,u22,u23,u24,u25,u26,u27,u28,u29,u30,u31,u32,u33,u34,u35,u36,u37,u38,u39,u40,u41,u42,u43,u44,u45,u46,u47,u48,u49,u50,u51,u52,u53,u54,u55,u56,u57,u58,u59,u60,u61,u62,u63,u64,u65,u66,u67,u68,u69,u70,u71,u72,u73,u74,u75,u76,u77,u78,u79,u80,u81,u82,u83,u84,u85,u86,u87,u88,u89,u90,u91,u92,u93,u94,u95,u96,u97,u98,u99,u100,u101,u102,u103,u104,u105,u106,u107,u108,u109,u110,u111,u112,u113,u114,u115,u116,u117,u118,u119,u120,u121,u122,u123,u124,u125,u126,u127,u128,u129,u130,u131,u132,u133,u134,u135,u136,u137,u138,u139,u140,u141,u142,u143,u144,u145,u146,u147,u148,u149,u150,u151,u152,u153,u154,u155,u156,u157,u158,u159,u160,u161,u162,u163,u164,u165,u166,u167,u168,u169,u170,u171,u172,u173,u174,u175,u176,u177,u178,u179,u180,u181,u182,u183,u184],[]⟩ wS:=by
 have i1:(haul:Int)<K.hauls.length:=by omega
 have i2:(good:Int)<K.goods.length:=by omega
 obtain⟨hb',ho',eh,pA,pc,_,_,y3,y4,_⟩:=S.out.kt.hauls haul _ (qn HH)
 cases eh
 have hpl:=S.out.plen _ (List.mem_of_getElem? (qn HH))
 have hpg:=getD_of (l:=(hlAt K.hauls haul).prices) (g:=good) (by omega)
 have hp9:=HP9 _ (List.mem_of_getElem? (qn HH)) _ (List.mem_of_getElem? hpg)
 obtain⟨pb,po,rfl,y5⟩:=y4 good _ hpg
 rw[hpl] at y3
 obtain⟨a0,a1,a2⟩:=S.out.cells (Grown.refl _)
 obtain⟨pr,hpr⟩:∃ pr,pr=(hlAt K.hauls haul).prices.getD good 0:=⟨_,rfl⟩
 rw[← hpr] at y5 hp9
 have HPR:=Lib.hid hpr
 clear y4 hpl hpg hpr
 conv=>arg 2;whnf
 by_cases hp0:pr=0
 ·subst hp0
  go_wp2_with (go_at_call 22;refine (served_any _).mono ?_;rintro e w9 ⟨rfl,g9⟩)
  go_ret
  rfl
 ·have i3:(pr==0)=false:=by simp[hp0]
  go_upto_region 23 with (go_at_call 27;refine (up_any g 9 _ (HBG.out.of_block rfl) (by decide)).mono ?_;rintro e w2 ⟨more,rfl,hm0,hm1,hB⟩;have HKB:=Lib.hid (Kb.of_bagged HBG.out hB);clear hB)
  have hkt2:=S.out.kt.kb HKB.out HBG.out
  have HS2:=Lib.hid (show Apart5 w2 K ms gA dA (some ⟨hb,ho,none⟩) mA gc dc hc bx from ⟨hkt2,S.out.m.kb HKB.out HBG.out,HKB.out.ke.block S.out.box (by omega),S.out.valid,S.out.asked,S.out.ml,S.out.n,S.out.n3,S.out.dlen,S.out.plen⟩)
  obtain⟨d,rfl⟩:∃ d:Nat,more=d:=⟨more.toNat,by omega⟩
  have hw:IntKind.i64.wrap (pr+(d:Int))=pr+d:=wrap_of rfl (by omega) (by omega)
  clear a0 a1 a2 y3 y5 hkt2
  obtain⟨a0,a1,a2⟩:=HS2.out.cells (Grown.refl _)
  obtain⟨l1,l2,l3⟩:=rise_law (p:=pr+d) (d:=d) S.out.asked HN HH HGD (by rw[← HPR.out];omega) (by rw[HPR.out])
  have HRI:=Lib.hid (rise_good (fs:=fs) K gA dA hb ho gc dc hc ms mA mc haul good (pr+d) w2 HS2.out.kt HS2.out.m S.out.ml S.out.asked HH HGD (by omega) HN l1)
  obtain⟨qb,qo,qc,e3,e4⟩:=all_row (g:=good) (HM.out.kb HKB.out HBG.out) HH HGD
  have HE:=Lib.hid (And.intro e3 e4)
  have HM2:=Lib.hid (HM.out.kb HKB.out HBG.out)
  have hsm:=row_small (h:=haul) S.out.asked HN _ (List.mem_of_getElem? (rowsOf_cell (K:=K) (xs:=ms) (h:=haul) HGD))
  have hc1:zR K ms≤3*(5*65025):=by rw[← sumTo_full HN];exact Nat.le_trans (sumTo_le (xs:=ms) S.out.valid (Nat.le_refl _)) (Nat.mul_le_mul_right _ S.out.n3)
  have hc2:zR (riseK K haul good (pr+d)) ms≤3*(5*65025):=by rw[← sumTo_full l1];exact Nat.le_trans (sumTo_le (xs:=ms) (K:=riseK K haul good (pr+d)) (riseK_valid S.out.valid HH (by omega)) (Nat.le_refl _)) (Nat.mul_le_mul_right _ S.out.n3)
  generalize ldAt haul (oneG K ms good)=ld at l3 hsm HE
  obtain⟨ldn,rfl⟩:∃ q:Nat,ld=q:=⟨ld.toNat,by omega⟩
  generalize zR (riseK K haul good (pr+d)) ms=cb at l2 l3 HRI hc2
  generalize hca:zR K ms=ca at l2 l3 HRI hc1 ⊢
  obtain⟨df,hdf⟩:∃ df,df=cb-ca:=⟨_,rfl⟩
  obtain⟨mu,hmu⟩:∃ mu,mu=d*ldn:=⟨_,rfl⟩
  have hmub:mu≤9*1000:=by rw[hmu];exact Nat.mul_le_mul (by omega) (by omega)
  have hw2:IntKind.i64.wrap ((cb:Int)-ca)=(df:Int):=wrap_of (by omega) (by omega) (by omega)
  have hw3:IntKind.i64.wrap ((d:Int)*ldn)=(mu:Int):=wrap_of (by rw[hmu];exact Int.natCast_mul _ _) (by omega) (by omega)
  have hle:(df:Int)≤mu:=by
   rw[← Int.natCast_mul,← hmu] at l3
   omega
  have hge:(ca:Int)≤cb:=by omega
  clear l1 l2 l3 hsm hc1 hc2 hdf hmu hmub hca e3 e4 hm0 hm1
  go_wp2_with (first|(go_at_call 52;refine HRI.out.mono ?_;rintro e w3 ⟨rfl,g3⟩;have HG3:=Lib.hid g3;obtain⟨b0,b1,b2⟩:=HS2.out.cells g3;have e3:=g3.cell HE.out.1;have e4:=g3.cell HE.out.2;clear g3)|(go_at_call 31;refine (shaped_rows (fs:=fs) K ms gA dA _ gc dc hc _ _ w3 (HM2.out.grown HG3.out) S.out.kt.nh).mono ?_;rintro e w4 ⟨rfl,g4⟩;have f3:=(HG3.out.trans g4).cell HE.out.1;have f4:=(HG3.out.trans g4).cell HE.out.2;clear g4)|(go_at_call 22;refine (served_any _).mono ?_;rintro e w9 ⟨rfl,g9⟩))
  go_ret
  rfl
end
end
end Go.Gal
