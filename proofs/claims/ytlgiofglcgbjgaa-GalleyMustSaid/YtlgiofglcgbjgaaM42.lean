/- Plain: loads that will do, haul by haul; where nothing is loaded a haul can be closed. A kitchen of one's own in which nothing can be loaded at a haul. Walks: GalleyApart, where loads .. -/
import Derived.Test.YtlgiofglcgbjgaaM41
section
namespace Go.Gal
open Go Go.Par Go.Proofs Go.RowKit
def Fits (D:Good1):List Haul1→Nat→List Nat→Prop
 | [],_,[]=>True
 | h::hs,t,n::l=>n<tries D h t∧(D.reserve:Int)≤after D h (t+n)∧Fits D hs (after D h (t+n)).toNat l
 | [],_,_::_=>False
 | _::_,_,[]=>False
theorem planFrom_fits (D:Good1):∀ (hs:List Haul1) (t:Nat),(planFrom D hs t).2.2=false→Fits D hs t (planFrom D hs t).1
 | [],_,_=>trivial
 | h::hs,t,hf=>by
  have key:∀ k,k≤tries D h t→(bestTo D h hs t k).2.2=false→Fits D (h::hs) t (bestTo D h hs t k).1:=by
   intro k
   induction k with
   | zero=>intro _ hb;simp[bestTo_zero] at hb
   | succ k ih =>
    intro hk hb
    rw[bestTo_succ] at hb ⊢
    unfold tryN at hb ⊢
    split at hb
    ·rename_i h1
     rw[if_pos h1]
     exact ih (by omega) hb
    ·rename_i h1
     rw[if_neg h1]
     dsimp only at hb ⊢
     split at hb
     ·rename_i h2
      rw[if_pos h2]
      simp only[Bool.and_eq_true,Bool.not_eq_true'] at h2
      exact⟨by omega,by omega,planFrom_fits D hs _ h2.1⟩
     ·rename_i h2
      rw[if_neg h2]
      exact ih (by omega) hb
  rw[← bestTo_all] at hf ⊢
  exact key _ (Nat.le_refl _) hf
theorem Fits.feas {D:Good1} : ∀ {hs:List Haul1} {t:Nat} {l:List Nat},Fits D hs t l→feas D hs t=true
 | [],_,[],_=>feas_nil _ _
 | h::hs,t,n::l,⟨h1,h2,h3⟩=>feas_iff.2 ⟨n,h1,h2,Fits.feas h3⟩
 | [],_,_::_,h=>h.elim
 | _::_,_,[],h=>h.elim
theorem Fits.other {D D':Good1} (e1:D'.room=D.room) (e2:D'.reserve=D.reserve) (e3:D'.melts=D.melts):∀ {hs:List Haul1} {t:Nat} {l:List Nat},Fits D hs t l→Fits D' hs t l
 | [],_,[],_=>trivial
 | h::hs,t,n::l,⟨h1,h2,h3⟩=>by
  have ha:after D' h (t+n)=after D h (t+n):=by unfold after;rw[e3]
  have ht:tries D' h t=tries D h t:=by unfold tries;rw[e1]
  refine⟨by rw[ht];exact h1,by rw[e2,ha];exact h2,?_⟩
  rw[ha]
  exact Fits.other e1 e2 e3 h3
 | [],_,_::_,h=>h.elim
 | _::_,_,[],h=>h.elim
theorem Fits.close {D:Good1} : ∀ {hs:List Haul1} {t:Nat} {l:List Nat} {j:Nat} {h':Haul1},Fits D hs t l→l[j]?=some 0→(∀ h,hs[j]?=some h→h'.hours=h.hours∧h'.covers=h.covers∧h'.need=h.need)→Fits D (hs.set j h') t l
 | [],_,[],j,_,_,hj,_=>by simp at hj
 | h::hs,t,n::l,0,h',⟨h1,h2,h3⟩,hj,he=>by
  simp only[List.getElem?_cons_zero,Option.some.injEq] at hj
  subst hj
  obtain⟨q1,q2,q3⟩:=he h rfl
  have ha:after D h' (t+0)=after D h (t+0):=by unfold after;rw[q1,q2,q3]
  refine⟨?_,by rw[ha];exact h2,by rw[ha];exact h3⟩
  unfold tries at h1 ⊢
  split at h1<;>split<;>omega
 | h::hs,t,n::l,j+1,h',⟨h1,h2,h3⟩,hj,he=>⟨h1,h2,Fits.close h3 (by simpa using hj) (by simpa using he)⟩
 | [],_,_::_,_,_,h,_,_=>h.elim
 | _::_,_,[],_,_,h,_,_=>h.elim
theorem fits_len {D:Good1} : ∀ {hs:List Haul1} {t:Nat} {l:List Nat},Fits D hs t l→l.length=hs.length
 | [],_,[],_=>rfl
 | _::_,_,_::_,⟨_,_,h3⟩=>by simp[fits_len h3]
 | [],_,_::_,h=>h.elim
 | _::_,_,[],h=>h.elim
theorem zip_set {α β γ : Type} {f : α×β→γ} {l:List α} {xs:List β} {j:Nat} {a : α} {x : β} (hx:xs[j]?=some x):((l.set j a).zip xs).map f=((l.zip xs).map f).set j (f (a,x)):=by
 apply List.ext_getElem?
 intro i
 by_cases hij:i=j
 ·subst hij
  rcases Nat.lt_or_ge i l.length with q|q
  ·have hxl:i<xs.length:=(List.getElem?_eq_some_iff.1 hx).1
   have hz:((l.set i a).zip xs)[i]?=some (a,x):=List.getElem?_zip_eq_some.2 ⟨List.getElem?_set_self q,hx⟩
   rw[List.getElem?_set_self (by simp;omega),List.getElem?_map,hz]
   rfl
  ·rw[List.getElem?_eq_none (by simp;omega),List.getElem?_eq_none (by simp;omega)]
 ·rw[List.getElem?_set_ne (Ne.symm hij),List.getElem?_map,List.getElem?_map]
  congr 1
  unfold List.zip
  rw[List.getElem?_zipWith,List.getElem?_zipWith,List.getElem?_set_ne (Ne.symm hij)]
theorem asked_len {K:Kt} {xs:List Int} (hA:askedE K xs=0):xs.length=K.hauls.length:=by
 obtain⟨_,hR⟩:=askedE_zero hA
 unfold rightE at hR
 split at hR
 ·rename_i q;exact absurd hR q
 ·rename_i q
  have:=manyE_zero (Decidable.not_not.1 q)
  omega
theorem clear_some {K:Kt} {xs:List Int} (hA:askedE K xs=0) (hn:noneB K xs=false) {h:Nat} (hh:h<K.hauls.length) (h0:∀ g,g<K.goods.length→ldAt h (oneG K xs g)=0):noneB (clearK K h) xs=false:=by
 have hxl:=asked_len hA
 rw[none_feas]
 intro D hD
 obtain⟨i,hi⟩:=List.getElem?_of_mem hD
 have hig:i<K.goods.length:=by
  have:=(List.getElem?_eq_some_iff.1 hi).1
  rwa [dsOf_len] at this
 rw[dsOf_get,show (clearK K h).goods=K.goods from rfl,gdAt_get hig] at hi
 cases hi
 have hp:(planOf (oneG K xs i)).2.2=false:=fineTo_iff.1 (show fineTo K xs K.goods.length=true by rw[fineTo_all,hn];rfl) i hig
 have hf:=planFrom_fits _ _ _ hp
 have hz:=h0 i hig
 have hx:=List.getElem?_eq_getElem (show h<xs.length by omega)
 have hhl:(oneG K xs i).hauls.length=K.hauls.length:=goodOf_len K xs i _ hxl
 have hl:∀ q,(planOf (oneG K xs i)).1[h]?=some q→q=0:=fun q hq=>by
  unfold ldAt at hz
  rw[List.getD_eq_getElem?_getD,hq] at hz
  simpa using hz
 have hlt:h<(planOf (oneG K xs i)).1.length:=by
  have:=fits_len hf
  unfold planOf
  omega
 have hl0:(planOf (oneG K xs i)).1[h]?=some 0:=by
  have e:=List.getElem?_eq_getElem hlt
  rw[e,hl _ e]
 have hc:Fits (oneG K xs i) ((oneG K xs i).hauls.set h (haulOf K i { hlAt K.hauls h with prices:=List.replicate (hlAt K.hauls h).prices.length 0 } xs[h])) (oneG K xs i).start (planOf (oneG K xs i)).1:=by
  refine hf.close hl0 fun H hH=>?_
  unfold oneG goodOf at hH
  simp only[List.getElem?_map,Option.map_eq_some_iff] at hH
  obtain⟨⟨a,x⟩,hz2,rfl⟩:=hH
  obtain⟨z1,z2⟩:=List.getElem?_zip_eq_some.1 hz2
  rw[hlAt_get hh] at z1
  rw[hx] at z2
  cases z1
  cases z2
  exact⟨rfl,rfl,rfl⟩
 refine Fits.feas (l:=(planOf (oneG K xs i)).1) ?_
 have he:(goodOf (clearK K h) xs i (gdAt K.goods i)).hauls=(oneG K xs i).hauls.set h (haulOf K i { hlAt K.hauls h with prices:=List.replicate (hlAt K.hauls h).prices.length 0 } xs[h]):=by
  show ((clearK K h).hauls.zip xs).map _=((K.hauls.zip xs).map _).set h _
  exact zip_set hx
 rw[he]
 exact Fits.other (D:=oneG K xs i) (D':=goodOf (clearK K h) xs i (gdAt K.goods i)) rfl rfl rfl hc
theorem must_sum {K:Kt} {xs:List Int} (hA:askedE K xs=0) (hn:noneB K xs=false) {h:Nat} (hh:h<K.hauls.length) (hc:noneB (clearK K h) xs=true):¬ ((dsOf K xs).map (ldAt h)).sum=0:=by
 intro h0
 have hz:∀ l:List Int,(∀ x∈l,0≤x)→l.sum=0→∀ x∈l,x=0:=by
  intro l
  induction l with
  | nil=>intro _ _ x hx;simp at hx
  | cons y l ih =>
   intro hp hs x hx
   have hy:=hp y (List.mem_cons_self ..)
   have hs' : 0≤l.sum:=by
    have:∀ l:List Int,(∀ x∈l,0≤x)→0≤l.sum:=by
     intro l
     induction l with
     | nil=>intro _;simp
     | cons z l ih=>intro h;have:=h z (List.mem_cons_self ..);have:=ih fun x hx=>h x (List.mem_cons_of_mem _ hx);rw[List.sum_cons];omega
    exact this l fun x hx=>hp x (List.mem_cons_of_mem _ hx)
   rw[List.sum_cons] at hs
   rcases List.mem_cons.1 hx with q|q
   ·omega
   ·exact ih (fun x hx=>hp x (List.mem_cons_of_mem _ hx)) (by omega) x q
 have hall:=hz _ (fun x hx=>by
  obtain⟨D,_,rfl⟩:=List.mem_map.1 hx
  exact Int.natCast_nonneg _) h0
 have:=clear_some hA hn hh fun g hg=>hall _ (List.mem_of_getElem? (rowsOf_cell (h:=h) hg))
 rw[this] at hc
 cases hc
end Go.Gal
end
section
namespace Go.Gal
open Go Go.Par Go.Proofs Go.RowKit
section
variable {w W:World} {base:Nat} {K:Kt} {gb db hb h g:Nat} {nb nc pb pc:Nat→Nat}
theorem one_clear {nw c:Nat} (F:OneF w base K db hb nb nc pb pc) (J:OneJ w w K g db hb 0 0 nb nc pb pc) (hG:GdsAt w (some ⟨gb,0,none⟩) K.goods) (hgh:gb≠hb) (same:∀ b,b<w.heap.size→b≠hb→W.heap[b]?=w.heap[b]?)
  (hrow:∃ cur,w.heap[hb]?=some (.cells cur 46 (0,0))∧W.heap[hb]?=some (.cells (cur.setIfInBounds (h*3+2) (.slice (some ⟨nw,0,none⟩) K.goods.length c)) 46 (0,0))) (hz:Ints W (some ⟨nw,0,none⟩) (List.replicate K.goods.length 0))
  (hd:∀ d∈K.dishes,d.length=K.goods.length) (hp:∀ x∈K.hauls,x.prices.length=K.goods.length) (ng:K.goods.length≤1000) (nd:K.dishes.length≤1000) (nh:K.hauls.length≤1000) (hh:h<K.hauls.length) :
  KtAt W (clearK K h) (some ⟨gb,0,none⟩) (some ⟨db,0,none⟩) (some ⟨hb,0,none⟩):=by
 obtain⟨dcur,a1,a2⟩:=J.drow
 obtain⟨hcur,b1,b2⟩:=J.hrow
 obtain⟨cur,c1,c2⟩:=hrow
 rw[b1] at c1
 cases c1
 have keep:∀ {b o:Nat} {v:Value},b≠hb→w.cell? ⟨b,o,none⟩=some v→W.cell? ⟨b,o,none⟩=some v:=fun {b o v} hb' hc=>(World.cell?_of_block (a:=⟨b,o,none⟩) (same b (cell_lt hc) hb')).trans hc
 have ints:∀ {b:Nat} {xs:List Int},b≠hb→Ints w (some ⟨b,0,none⟩) xs→Ints W (some ⟨b,0,none⟩) xs:=fun {b xs} hb' hi k x hk=>by
  obtain⟨b',o',e,hc⟩:=hi k x hk
  cases e
  exact⟨_,_,rfl,keep hb' hc⟩
 have hlen:hcur.size > h*3+2:=by
  obtain⟨_,_,q⟩:=b2 h _ (List.getElem?_eq_getElem hh)
  exact (Array.getElem?_eq_some_iff.1 q).1
 refine⟨fun j x hj=>?_,fun j d hj=>?_,fun j x hj=>?_,ng,nd,by rw[clearK_len];exact nh⟩
 ·obtain⟨b,o,e,x1,x2,x3,x4⟩:=hG j x hj
  cases e
  exact⟨gb,0,rfl,keep hgh x1,keep hgh x2,keep hgh x3,keep hgh x4⟩
 ·have hj':K.dishes[j]?=some d:=hj
  have hjl:=(List.getElem?_eq_some_iff.1 hj').1
  obtain⟨q1,q2,q3,_⟩:=F.dish j d hj'
  have hl:=hd d (List.mem_of_getElem? hj')
  have hc:=a2 j hjl
  rw[if_neg (by omega)] at hc
  refine⟨db,0,rfl,_,_,keep F.ne (by rw[Nat.zero_add,blk_cell a1,hl];exact hc),ints q3 q1,by omega⟩
 ·by_cases hjh:j=h
  ·subst hjh
   unfold clearK at hj
   simp only at hj
   rw[List.getElem?_set_self hh] at hj
   cases hj
   obtain⟨e0,e1,e2⟩:=b2 j _ (hlAt_get hh)
   have hpl:=hp _ (List.mem_of_getElem? (hlAt_get hh))
   refine⟨hb,0,rfl,some ⟨nw,0,none⟩,c,?_,?_,?_,?_,by simp only[List.length_replicate];omega⟩
   ·rw[Nat.zero_add,blk_cell c2,Array.getElem?_setIfInBounds_ne (by omega)];exact e0
   ·rw[Nat.zero_add,blk_cell c2,Array.getElem?_setIfInBounds_ne (by omega)];exact e1
   ·rw[Nat.zero_add,blk_cell c2,Array.getElem?_setIfInBounds_self_of_lt hlen,List.length_replicate,hpl]
   ·rw[hpl];exact hz
  ·unfold clearK at hj
   simp only at hj
   rw[List.getElem?_set_ne (fun q=>hjh q.symm)] at hj
   obtain⟨q1,q2,q3,_⟩:=F.haul j x hj
   have hpl:=hp x (List.mem_of_getElem? hj)
   obtain⟨e0,e1,e2⟩:=b2 j x hj
   rw[if_neg (by omega)] at e2
   refine⟨hb,0,rfl,some ⟨pb j,0,none⟩,pc j,?_,?_,?_,ints q3 q1,by omega⟩
   ·rw[Nat.zero_add,blk_cell c2,Array.getElem?_setIfInBounds_ne (by omega)];exact e0
   ·rw[Nat.zero_add,blk_cell c2,Array.getElem?_setIfInBounds_ne (by omega)];exact e1
   ·rw[Nat.zero_add,blk_cell c2,Array.getElem?_setIfInBounds_ne (by omega),hpl];exact e2
end
theorem mustL_le {K:Kt} {xs:List Int} {n m:Nat} (h:n≤m):∃ l,mustL K xs m=mustL K xs n++l:=by
 induction m with
 | zero=>exact⟨[],by rw[show n=0 by omega];simp⟩
 | succ m ih =>
  rcases Nat.lt_or_ge m n with q|q
  ·exact⟨[],by rw[show n=m+1 by omega];simp⟩
  ·obtain⟨l,hl⟩:=ih q
   rw[mustL_succ,hl]
   split
   ·exact⟨l++[(m:Int)],by simp⟩
   ·exact⟨l,rfl⟩
theorem mustL_next {K:Kt} {xs:List Int} {n m:Nat} (hn:n<m) (h:noneB (clearK K n) xs=true):(mustL K xs m)[(mustL K xs n).length]?=some (n:Int)∧(mustL K xs n).length<(mustL K xs m).length∧(mustL K xs (n+1)).length=(mustL K xs n).length+1:=by
 obtain⟨l,hl⟩:=mustL_le (K:=K) (xs:=xs) (show n+1≤m from hn)
 have hs:=mustL_succ K xs n
 rw[if_pos h] at hs
 rw[hl,hs]
 refine⟨?_,by simp,by simp⟩
 rw[List.append_assoc,List.getElem?_append_right (Nat.le_refl _)]
 simp
theorem mustL_same {K:Kt} {xs:List Int} {n:Nat} (h:noneB (clearK K n) xs=false):(mustL K xs (n+1)).length=(mustL K xs n).length:=by
 rw[mustL_succ,if_neg (by simp[h])]
theorem fits_le {D:Good1} : ∀ {hs:List Haul1} {t:Nat} {l:List Nat},Fits D hs t l→∀ x∈l,x≤D.room
 | [],_,[],_,x,hx=>by simp at hx
 | h::hs,t,n::l,⟨h1,_,h3⟩,x,hx=>by
  rcases List.mem_cons.1 hx with q|q
  ·subst q
   unfold tries at h1
   split at h1<;>omega
  ·exact fits_le h3 x q
 | [],_,_::_,h,_,_=>h.elim
 | _::_,_,[],h,_,_=>h.elim
theorem row_small {K:Kt} {xs:List Int} (hA:askedE K xs=0) (hn:noneB K xs=false) {h:Nat} : ∀ x∈(dsOf K xs).map (ldAt h),0≤x∧x≤1000:=fun x hx=>by
 obtain⟨D,hD,rfl⟩:=List.mem_map.1 hx
 obtain⟨i,hi⟩:=List.getElem?_of_mem hD
 have hig:i<K.goods.length:=by
  have:=(List.getElem?_eq_some_iff.1 hi).1
  rwa [dsOf_len] at this
 rw[dsOf_at hig] at hi
 cases hi
 have hp:(planOf (oneG K xs i)).2.2=false:=fineTo_iff.1 (show fineTo K xs K.goods.length=true by rw[fineTo_all,hn];rfl) i hig
 have hf:=planFrom_fits _ _ _ hp
 obtain⟨c1,_,_⟩:=checkE_zero (askedE_zero hA).1
 obtain⟨_,_,g3⟩:=goodsE_zero c1
 obtain⟨b1,b2,_⟩:=badGood_false (g3 _ (List.mem_of_getElem? (gdAt_get hig)))
 refine⟨Int.natCast_nonneg _,?_⟩
 unfold ldAt
 rw[List.getD_eq_getElem?_getD]
 cases hq:(planOf (oneG K xs i)).1[h]? with
 | none=>simp
 | some q =>
  have:=fits_le hf q (List.mem_of_getElem? hq)
  have hr:(oneG K xs i).room=(gdAt K.goods i).room.toNat:=rfl
  simp only[Option.getD_some]
  omega
section
variable {fs:Array Func} [LikeS fs]
theorem clear_bad (K:Kt) (h:Nat) (gA dA hA:Option Addr) (gc dc hc:Nat) (xs:List Int) (mA:Option Addr) (mc:Nat) (w:World) (k:KtAt w (clearK K h) gA dA hA) (m:Ints w mA xs) (hlen:xs.length≤1000) (ha:askedE K xs=0) (hh:h<K.hauls.length) (hn:noneB (clearK K h) xs=true) :
  Calls (Pf fs) 29 #[.agg #[.slice gA K.goods.length gc,.slice dA K.dishes.length dc,.slice hA K.hauls.length hc],.slice mA xs.length mc] w fun e w'=>e=.returned (.tuple #[.slice none 0 0,.int .i64 0,.int .i64 11])∧Grown w w':=by
 have h:=cheapest_bad (fs:=fs) (clearK K h) gA dA hA gc dc hc xs mA mc w k m hlen (clearK_asked ha hh) hn
 unfold ktV at h
 rw[clearK_len] at h
 exact h
theorem clear_good (K:Kt) (h:Nat) (gA dA hA:Option Addr) (gc dc hc:Nat) (xs:List Int) (mA:Option Addr) (mc:Nat) (w:World) (k:KtAt w (clearK K h) gA dA hA) (m:Ints w mA xs) (hlen:xs.length≤1000) (ha:askedE K xs=0) (hh:h<K.hauls.length) (hn:noneB (clearK K h) xs=false) :
  Calls (Pf fs) 29 #[.agg #[.slice gA K.goods.length gc,.slice dA K.dishes.length dc,.slice hA K.hauls.length hc],.slice mA xs.length mc] w fun e w'=>∃ (v:Value) (b:Int),e=.returned (.tuple #[v,.int .i64 b,.int .i64 0])∧Grown w w':=by
 have h:=cheapest_good (fs:=fs) (clearK K h) gA dA hA gc dc hc xs mA mc w k m hlen (clearK_asked ha hh) hn
 unfold ktV at h
 rw[clearK_len] at h
 exact h.mono fun e w' ⟨M,e1,g,_⟩=>⟨_,_,e1,g⟩
theorem sum_row (K:Kt) (xs:List Int) (h:Nat) (A:Option Addr) (c:Nat) (w:World) (hi:Ints w A ((dsOf K xs).map (ldAt h))) (hA:askedE K xs=0) (hn:noneB K xs=false) (hg:K.goods.length≤1000) :
  Calls (Pf fs) 50 #[.slice A K.goods.length c] w fun e w'=>e=.returned (.int .i64 ((dsOf K xs).map (ldAt h)).sum)∧Grown w w':=by
 have h:=sum_any (fs:=fs) A c ((dsOf K xs).map (ldAt h)) w hi (by simpa[dsOf_len] using hg) (row_small hA hn)
 rw[List.length_map,dsOf_len] at h
 exact h
end
theorem made_zero {n k:Nat} (hk:k<n):(madeCells #[Value.int .i64 0] n)[k]?=some (.int .i64 0):=by
 unfold madeCells
 rw[Array.getElem?_map,Array.getElem?_range,if_pos hk]
 simp[Nat.mod_one]
end Go.Gal
end
section
namespace Go.Gal
open Go Go.Par Go.Proofs Go.RowKit
structure Apart5 (wS:World) (K:Kt) (ms:List Int) (gA dA hA mA:Option Addr) (gc dc hc bx:Nat):Prop where
 kt:KtAt wS K gA dA hA
 m:Ints wS mA ms
 box:wS.heap[bx]?=some (.cells #[.slice gA K.goods.length gc,.slice dA K.dishes.length dc,.slice hA K.hauls.length hc] 29 (0,0))
 valid:checkE K=0
 asked:askedE K ms=0
 ml:ms.length≤1000
 n : 1≤K.goods.length∧1≤K.dishes.length∧1≤K.hauls.length
 n3:K.goods.length≤3
 dlen:∀ d∈K.dishes,d.length=K.goods.length
 plen:∀ x∈K.hauls,x.prices.length=K.goods.length
theorem Apart5.cells {wS:World} {K:Kt} {ms:List Int} {gA dA hA mA:Option Addr} {gc dc hc bx:Nat} (s:Apart5 wS K ms gA dA hA mA gc dc hc bx) {W:World} (g:Grown wS W):W.cell? ⟨bx,0,none⟩=some (.slice gA K.goods.length gc)∧W.cell? ⟨bx,1,none⟩=some (.slice dA K.dishes.length dc)∧W.cell? ⟨bx,2,none⟩=some (.slice hA K.hauls.length hc):=⟨blk_cell (blk_grown s.box g) 0,blk_cell (blk_grown s.box g) 1,blk_cell (blk_grown s.box g) 2⟩
section
variable {fs:Array Func} [LikeS fs]
end
end Go.Gal
end
section
namespace Go.Gal
open Go Go.Par Go.Proofs Go.RowKit
noncomputable def body10:Code:=Try.f10.body.getD .skip
section
variable {fs:Array Func} [LikeS fs]
set_option maxRecDepth 100000 in
set_option maxHeartbeats 8000000 in
theorem law10b {wS:World} {K:Kt} {ms:List Int} {gA dA hA mA uA:Option Addr} {gc dc hc mc uc bx g:Nat} (S:Hid (Apart5 wS K ms gA dA hA mA gc dc hc bx)) {wc:World} (HGC:Hid (Grown wS wc)) (HN:noneB K ms=false) {M:Nat} (HM:Hid (DishesAt wS (some ⟨M,0,none⟩) (rowsOf K ms))) (HU:Hid (Ints wS uA (mustL K ms K.hauls.length))) {u0 u1 u2 u7 u9 u11 u12 u13 u14 u15 u16 u17 u18 u19 u20 u21 u22 u23 u24 u25 u26 u27 u28 u29 u30 u31 u32 u33 u34 u35 u36 u37 u38 u39 u40 u41 u42 u43 u44 u45 u46 u47 u48 u49 u50 u51 u52 u53 u54 u55 u56 u57 u58 u59 u60 u61 u62 u63 u64 u65 u66 u67 u68 u69 u70 u71 u72 u73 u74 u75 u76 u77 u78 u79 u80 u81 u82 u83 u84 u85 u86 u87 u88 u89 u90 u91 u92 u93 u94 u95 u96 u97 u98 u99 u100 u101 u102 u103 u104 u105 u106 u107 u108 u109 u110 u111 u112 u113 u114 u115 u116 u117 u118 u119 u120 u121 u122 u123:Value} :
  Code.wp (Pf fs) (behindN 9 body10) (bodyPost (Pf fs) Try.f10 fun e _=>e=.returned (.bool true)) ⟨#[u0,u1,u2,.pointer (some ⟨g,0,none⟩),.pointer (some ⟨bx,0,none⟩),.slice mA ms.length mc,.slice uA (mustL K ms K.hauls.length).length uc,u7,.slice (some ⟨M,0,none⟩) K.hauls.length K.hauls.length,u9,.int .i64 0,u11,u12,u13,u14,u15,u16,u17,u18,u19,u20,u21,u22,u23,u24,u25,u26,u27,u28,u29,u30,u31,u32,u33,u34,u35,u36,u37,u38,u39,u40,u41,u42,u43,u44,u45,u46,u47,u48,u49,u50,u51,u52,u53,u54,u55,u56,u57,u58,u59,u60,u61,u62,u63,u64,u65,u66,u67,u68,u69,u70,u71,u72,u73,u74,u75,u76,u77,u78,u79,u80,u81,u82,u83,u84,u85,u86,u87,u88,u89,u90,u91,u92,u93,u94,u95,u96,u97,u98,u99,u100,u101,u102,u103,u104,u105,u106,u107,u108,u109,u110,u111,u112,u113,u114,u115,u116,u117,u118,u119,u120,u121,u122,u123],[]⟩ wc:=by
 have hul:=mustL_len K ms K.hauls.length
 have hnh:=S.out.kt.nh
 conv=>arg 2;whnf
 go_wp2_with fail
 go_loopw [11,12] (fun a i W=>∃ n:Nat,i=.int .i64 n∧n≤K.hauls.length∧a=.int .i64 (mustL K ms n).length∧Hid (Grown wS W)) (fun _ i _=>K.hauls.length-(intOf i).toNat)
 case atStart=>exact⟨0,rfl,Nat.zero_le _,rfl,HGC⟩
 case round =>
  obtain⟨n,rfl,hn,rfl,HGW⟩:=hrel
  obtain⟨a0,a1,a2⟩:=S.out.cells HGW.out
  by_cases hnl:n<K.hauls.length
  ·have i1:(n:Int)<K.hauls.length:=by omega
   have hcopy:=copyKitchen_any (fs:=fs) K gA dA hA gc dc hc wr (S.out.kt.grown HGW.out)
   unfold ktV at hcopy
   have HCOPY:=Lib.hid hcopy
   have HB:=Lib.hid (show wS.heap.size≤wr.heap.size from HGW.out.size)
   clear hcopy
   go_upto_region 17 with (go_at_call 26;refine HCOPY.out.mono ?_;rintro e w1 ⟨gA2,gc2,dA2,dc2,hA2,hc2,rfl,hO1,hg1⟩;obtain⟨gb,db,hb,nb,nc,pb,pc,rfl,rfl,rfl,q1,q2,q3,q4,q5,q6,q7⟩:=hO1.one S.out.n.1 S.out.n.2.1 S.out.n.2.2 S.out.dlen S.out.plen 0;have HG1:=Lib.hid (HGW.out.trans hg1);have HQ5:=Lib.hid q5;have HQ6:=Lib.hid q6;have HQ7:=Lib.hid q7;clear hO1 hg1 q5 q6 q7)
   have hbx:(w1.alloc (.cells #[.slice (some ⟨gb,0,none⟩) K.goods.length gc2,.slice (some ⟨db,0,none⟩) K.dishes.length dc2,.slice (some ⟨hb,0,none⟩) K.hauls.length hc2] 29)).heap[w1.heap.size]?=some (.cells #[.slice (some ⟨gb,0,none⟩) K.goods.length gc2,.slice (some ⟨db,0,none⟩) K.dishes.length dc2,.slice (some ⟨hb,0,none⟩) K.hauls.length hc2] 29 (0,0)):=heap_alloc_new w1 _
   have HBX:=Lib.hid hbx
   have HGA:=Lib.hid (HG1.out.trans (Grown.alloc w1 (.cells #[.slice (some ⟨gb,0,none⟩) K.goods.length gc2,.slice (some ⟨db,0,none⟩) K.dishes.length dc2,.slice (some ⟨hb,0,none⟩) K.hauls.length hc2] 29)))
   have HF:=Lib.hid (HQ6.out.grown (Grown.alloc w1 (.cells #[.slice (some ⟨gb,0,none⟩) K.goods.length gc2,.slice (some ⟨db,0,none⟩) K.dishes.length dc2,.slice (some ⟨hb,0,none⟩) K.hauls.length hc2] 29)))
   have HJ:=Lib.hid (HQ7.out.refl_grown (Grown.alloc w1 (.cells #[.slice (some ⟨gb,0,none⟩) K.goods.length gc2,.slice (some ⟨db,0,none⟩) K.dishes.length dc2,.slice (some ⟨hb,0,none⟩) K.hauls.length hc2] 29)))
   have hGd:GdsAt (w1.alloc (.cells #[.slice (some ⟨gb,0,none⟩) K.goods.length gc2,.slice (some ⟨db,0,none⟩) K.dishes.length dc2,.slice (some ⟨hb,0,none⟩) K.hauls.length hc2] 29)) (some ⟨gb,0,none⟩) K.goods:=fun j x hx=>by
    obtain⟨b,o,e,e1,e2,e3,e4⟩:=HQ5.out j x hx
    have k:=Grown.alloc w1 (.cells #[.slice (some ⟨gb,0,none⟩) K.goods.length gc2,.slice (some ⟨db,0,none⟩) K.dishes.length dc2,.slice (some ⟨hb,0,none⟩) K.hauls.length hc2] 29)
    exact⟨b,o,e,k.cell e1,k.cell e2,k.cell e3,k.cell e4⟩
   have HGD:=Lib.hid hGd
   have hhlt:hb<w1.heap.size:=by
    obtain⟨cur,z,_⟩:=HQ7.out.hrow
    exact (Array.getElem?_eq_some_iff.1 z).1
   generalize w1.alloc (.cells #[.slice (some ⟨gb,0,none⟩) K.goods.length gc2,.slice (some ⟨db,0,none⟩) K.dishes.length dc2,.slice (some ⟨hb,0,none⟩) K.hauls.length hc2] 29)=w2 at hbx HBX HGA HF HJ HGD ⊢
   generalize w1.heap.size=tb at hbx HBX hhlt ⊢
   have HTD:=Lib.hid (show tb≠hb by omega)
   have HNE:=Lib.hid q4
   clear a0 a1 a2 hGd hhlt HQ5 HQ6 HQ7 HG1 q1 q2 q3 q4
   obtain⟨a0,a1,a2⟩:=S.out.cells HGA.out
   have b2:=blk_cell hbx 2
   simp only[List.getElem?_toArray,List.getElem?_cons_zero,List.getElem?_cons_succ] at b2
   obtain⟨hcur,z1,z2⟩:=HJ.out.hrow
   obtain⟨_,_,z3⟩:=z2 n _ (hlAt_get hnl)
   have HZ:=Lib.hid z1
   have c1:=(blk_cell z1 (n*3+2)).trans z3
   have c2:=blk_frozen z1 (n*3+2)
   simp only[Nat.not_lt_zero,if_false] at c1
   have hS:w2.drew.cell? ⟨tb,2,none⟩=some (.slice (some ⟨hb,0,none⟩) K.hauls.length hc2)∧w2.drew.cell? ⟨bx,0,none⟩=some (.slice gA K.goods.length gc)∧w2.drew.cell? ⟨hb,n*3+2,none⟩=some (.slice (some ⟨pb n,0,none⟩) K.goods.length (pc n))∧w2.drew.frozen? ⟨hb,n*3+2,none⟩=false:=⟨b2,a0,c1,c2⟩
   have hng:=S.out.kt.ng
   have HHS:=Lib.hid hS
   clear hbx a0 a1 a2 b2 z1 z2 z3 c1 c2
   refine wp_region_L (by kernel_rfl) (fun W=>W.cell? ⟨tb,2,none⟩=some (.slice (some ⟨hb,0,none⟩) K.hauls.length hc2)∧W.cell? ⟨bx,0,none⟩=some (.slice gA K.goods.length gc)∧W.cell? ⟨hb,n*3+2,none⟩=some (.slice (some ⟨pb n,0,none⟩) K.goods.length (pc n))∧W.frozen? ⟨hb,n*3+2,none⟩=false) [9] ?_
   refine wpAnyL_p 0 ?_ rfl ?_ ?_;case refine_2=>(intro w _;go_simp;try rfl)
   refine wpAnyL_t 1 ?_ rfl hS ?_ ?_;case refine_2=>(intro w hSw;(try dsimp only at hSw);go_simp;try rfl)
   refine wpAnyL_p 2 ?_ rfl ?_ ?_;case refine_2=>(intro w _;go_simp;try rfl)
   refine wpAnyL_p 3 ?_ rfl ?_ ?_;case refine_2=>(intro w _;go_simp;try rfl)
   refine wpAnyL_t 4 ?_ rfl hS ?_ ?_;case refine_2=>(intro w hSw;(try dsimp only at hSw);go_simp;try rfl)
   refine wpAnyL_one (i:=5) rfl (by kernel_rfl) ?_
   intro Kq hKq
   go_simp
   refine hKq.out _ _ hS (fun _=>?_)
   clear hKq Kq
   have hmk:=make_any (fs:=fs) Try.underlying22 inf3 K.goods.length (by omega) (by omega) (by omega) w2.drew
   have hzs:w2.drew.heap.size=w2.heap.size:=rfl
   refine wpAnyL_one (i:=6) rfl (by kernel_rfl) ?_
   intro Kq hKq
   go_simp
   have hz4:(w2.alloc (.cells (madeCells #[.int .i64 0] K.goods.length) 3)).drew.heap[hb]?=some (.cells hcur 46 (0,0)):=blk_alloc HZ.out _
   have hS:(w2.alloc (.cells (madeCells #[.int .i64 0] K.goods.length) 3)).drew.cell? ⟨tb,2,none⟩=some (.slice (some ⟨hb,0,none⟩) K.hauls.length hc2)∧(w2.alloc (.cells (madeCells #[.int .i64 0] K.goods.length) 3)).drew.cell? ⟨bx,0,none⟩=some (.slice gA K.goods.length gc)∧(w2.alloc (.cells (madeCells #[.int .i64 0] K.goods.length) 3)).drew.cell? ⟨hb,n*3+2,none⟩=some (.slice (some ⟨pb n,0,none⟩) K.goods.length (pc n))∧(w2.alloc (.cells (madeCells #[.int .i64 0] K.goods.length) 3)).drew.frozen? ⟨hb,n*3+2,none⟩=false:=⟨(Grown.alloc _ _).cell HHS.out.1,(Grown.alloc _ _).cell HHS.out.2.1,(Grown.alloc _ _).cell HHS.out.2.2.1,blk_frozen hz4 _⟩
   refine hKq.out _ _ hS (fun _=>?_)
   clear hKq Kq hmk
   refine wpAnyL_p 7 ?_ rfl ?_ ?_;case refine_2=>(intro w _;go_simp;try rfl)
   refine wpAnyL_p 8 ?_ rfl ?_ ?_;case refine_2=>(intro w _;go_simp;try rfl)
   obtain⟨s1,s2,s3,s4⟩:=hS
   refine wpAnyL_late (i:=9) rfl (by kernel_rfl) (by rfl) ?_
   intro Kq hKq
   go_simp
   refine hKq.out _ _ ?_
   clear hKq Kq
   refine wpAnyL_done (by kernel_rfl) ?_
   try simp only[Act.put,List.getElem_toArray,List.getElem_cons_succ,List.getElem_cons_zero,List.setIfInBounds_toArray,List.set_cons_zero,List.set_cons_succ]
   have HZ5:=Lib.hid (show ((w2.alloc (.cells (madeCells #[.int .i64 0] K.goods.length) 3)).setCell ⟨hb,n*3+2,none⟩ (.slice (some ⟨w2.heap.size,0,none⟩) K.goods.length K.goods.length)).drew.heap[hb]?=some (.cells (hcur.setIfInBounds (n*3+2) (.slice (some ⟨w2.heap.size,0,none⟩) K.goods.length K.goods.length)) 46 (0,0)) from blk_set hz4 _)
   have hhl:hb<w2.heap.size:=lt_of_block HZ.out
   have HSM:=Lib.hid (show ∀ b,b<w2.heap.size→b≠hb→((w2.alloc (.cells (madeCells #[.int .i64 0] K.goods.length) 3)).setCell ⟨hb,n*3+2,none⟩ (.slice (some ⟨w2.heap.size,0,none⟩) K.goods.length K.goods.length)).drew.heap[b]?=w2.heap[b]? from fun b hb1 hb2=>(Below.heap_setCell _ _ _ _ hb2).trans (Below.heap_alloc w2 _ b hb1))
   have HNW:=Lib.hid (show ((w2.alloc (.cells (madeCells #[.int .i64 0] K.goods.length) 3)).setCell ⟨hb,n*3+2,none⟩ (.slice (some ⟨w2.heap.size,0,none⟩) K.goods.length K.goods.length)).drew.heap[w2.heap.size]?=some (.cells (madeCells #[.int .i64 0] K.goods.length) 3 (0,0)) from (Below.heap_setCell _ _ _ _ (by simp only;omega)).trans (heap_alloc_new w2 _))
   have HZE:=Lib.hid (show w2.heap.size≤((w2.alloc (.cells (madeCells #[.int .i64 0] K.goods.length) 3)).setCell ⟨hb,n*3+2,none⟩ (.slice (some ⟨w2.heap.size,0,none⟩) K.goods.length K.goods.length)).drew.heap.size by show w2.heap.size≤((w2.alloc (.cells (madeCells #[.int .i64 0] K.goods.length) 3)).setCell _ _).heap.size;rw[size_setCell];simp)
   have HOS:=Lib.hid (show ((w2.alloc (.cells (madeCells #[.int .i64 0] K.goods.length) 3)).setCell ⟨hb,n*3+2,none⟩ (.slice (some ⟨w2.heap.size,0,none⟩) K.goods.length K.goods.length)).drew.os=w2.os from rfl)
   generalize ((w2.alloc (.cells (madeCells #[.int .i64 0] K.goods.length) 3)).setCell ⟨hb,n*3+2,none⟩ (.slice (some ⟨w2.heap.size,0,none⟩) K.goods.length K.goods.length)).drew=wE at HZ5 HSM HNW HZE HOS ⊢
   clear s1 s2 s3 s4 hz4 HHS hzs
   have HKT:=Lib.hid (show KtAt wE (clearK K n) (some ⟨gb,0,none⟩) (some ⟨db,0,none⟩) (some ⟨hb,0,none⟩) from one_clear HF.out HJ.out HGD.out HNE.out HSM.out ⟨hcur,HZ.out,HZ5.out⟩ (fun k x hk=>by
    have hkl:k<K.goods.length:=by have:=(List.getElem?_eq_some_iff.1 hk).1;simpa using this
    rw[List.getElem?_replicate,if_pos hkl] at hk
    cases hk
    exact⟨_,0,rfl,by rw[Nat.zero_add,blk_cell HNW.out];exact made_zero hkl⟩) S.out.dlen S.out.plen S.out.kt.ng S.out.kt.nd S.out.kt.nh hnl)
   have HGE:=Lib.hid (show Grown wS wE from ⟨Nat.le_trans HGA.out.size HZE.out,fun b hb'=>by
    have:=HF.out.bd
    have:=HB.out
    have:=HGA.out.size
    rw[HSM.out b (by omega) (by omega)]
    exact HGA.out.same b hb',HOS.out.trans HGA.out.os⟩)
   have hbx:=(HSM.out tb (lt_of_block HBX.out) HTD.out).trans HBX.out
   have b0:=blk_cell hbx 0
   have b1:=blk_cell hbx 1
   have b2:=blk_cell hbx 2
   simp only[List.getElem?_toArray,List.getElem?_cons_zero,List.getElem?_cons_succ] at b0 b1 b2
   generalize w2.heap.size=wz at *
   clear hbx hhl HZ5 HSM HNW HZE HOS HZ HGD HNE HF HJ HBX
   cases hnc:noneB (clearK K n) ms with
   | true =>
    obtain⟨u1,u2,u3⟩:=mustL_next hnl hnc
    have u4:=must_sum S.out.asked HN hnl hnc
    have HCH:=Lib.hid (clear_bad (fs:=fs) K n _ _ _ gc2 dc2 hc2 ms mA mc wE HKT.out (S.out.m.grown HGE.out) S.out.ml S.out.asked hnl hnc)
    obtain⟨qb,qo,eq1,rA,rc,r1,r2,_⟩:=HM.out n _ (rowsOf_at hnl)
    cases eq1
    obtain⟨vb,vo,rfl,v1⟩:=HU.out _ _ u1
    have HSUM:=Lib.hid (fun W (k:Grown wS W)=>sum_row (fs:=fs) K ms n rA rc W (r2.grown k) S.out.asked HN S.out.kt.ng)
    simp only[List.length_map,dsOf_len] at r1
    have HU3:=Lib.hid u3
    have hat:(mustL K ms n).length≤1000:=by omega
    have i2:((mustL K ms n).length:Int)<(mustL K ms K.hauls.length).length:=by omega
    generalize (mustL K ms n).length=at_ at v1 u2 HU3 i2 hat ⊢
    generalize ((dsOf K ms).map (ldAt n)).sum=sm at u4 HSUM
    have HRV:=Lib.hid (And.intro r1 v1)
    clear hnc u1 u2 u3 r1 r2 v1
    go_wp2_with (first|(go_at_call 29;refine HCH.out.mono ?_;rintro e w5 ⟨rfl,g5⟩;have HG5:=Lib.hid (HGE.out.trans g5);have rr:=HG5.out.cell HRV.out.1;have vv:=HG5.out.cell HRV.out.2;simp only[Nat.zero_add] at rr;clear g5)|(go_at_call 50;refine (HSUM.out w5 HG5.out).mono ?_;rintro e w6 ⟨rfl,g6⟩;have HG6:=Lib.hid (HG5.out.trans g6);clear g6))
    go_roundw
    case rel=>exact⟨n+1,by go_num,by omega,by rw[HU3.out];go_num,HG6⟩
    case measure=>simp[intOf];omega
   | false =>
    have HU3:=Lib.hid (mustL_same hnc)
    have HCH:=Lib.hid (clear_good (fs:=fs) K n _ _ _ gc2 dc2 hc2 ms mA mc wE HKT.out (S.out.m.grown HGE.out) S.out.ml S.out.asked hnl hnc)
    generalize (mustL K ms n).length=at_ at HU3 ⊢
    clear hnc
    go_wp2_with (go_at_call 29;refine HCH.out.mono ?_;rintro e w5 ⟨v5,b5,rfl,g5⟩;have HG5:=Lib.hid (HGE.out.trans g5);clear g5)
    go_roundw
    case rel=>exact⟨n+1,by go_num,by omega,by rw[HU3.out],HG5⟩
    case measure=>simp[intOf];omega
  ·have i1:¬ (n:Int)<K.hauls.length:=by omega
   obtain rfl:n=K.hauls.length:=by omega
   clear hn
   go_wp2_with (go_at_call 22;refine (served_any _).mono ?_;rintro e w9 ⟨rfl,g9⟩)
   go_ret
   rfl
end
end Go.Gal
end
section
namespace Go.Gal
open Go Go.Par Go.Proofs Go.RowKit
section
variable {fs:Array Func} [LikeS fs]
set_option maxRecDepth 20000 in
set_option maxHeartbeats 8000000 in
theorem law10 (ns:List Int) (A:Option Addr) (c:Nat) (w:World) (hx:Ints w A ns) (hl:ns.length≤9223372036854775807):Calls (Pf fs) 10 #[.slice A ns.length c] w fun e _=>e=.returned (.bool true):=by
 have HB:=Lib.hid (newBag_any (fs:=fs) A c ns w hx.toB hl)
 clear hx
 go_enter LK.func10,Try.ntmps10
 go_wp2_with (go_at_call 17;refine HB.out.mono ?_;rintro e w1 ⟨g,rfl,_,hb1,_⟩;clear HB)
 go_wp2_with (go_at_call 18;refine (kitchenOf_any g 3 9 5 w1 hb1 (by decide) (by decide) (by decide) (by decide) (by decide) (by decide)).mono ?_;rintro e w2 ⟨K,gA,gc,dA,dc,hA,hc,rfl,hK2,hkb2,h1,h2,h3,hcap⟩;have HC:=Lib.hid (dealt_valid h1 h2 h3 (by decide) (by decide) (by decide));have HK2:=Lib.hid hK2;have HB2:=Lib.hid hkb2.bag;have H1:=Lib.hid h1;have H2:=Lib.hid h2;have H3:=Lib.hid h3;have HCAP:=Lib.hid hcap;clear hb1 hK2 hkb2 h1 h2 h3 hcap;unfold ktV)
 have hbx:(w2.alloc (.cells #[.slice gA K.goods.length gc,.slice dA K.dishes.length dc,.slice hA K.hauls.length hc] 29)).heap[w2.heap.size]?=some (.cells #[.slice gA K.goods.length gc,.slice dA K.dishes.length dc,.slice hA K.hauls.length hc] 29 (0,0)):=heap_alloc_new w2 _
 have hS:(w2.alloc (.cells #[.slice gA K.goods.length gc,.slice dA K.dishes.length dc,.slice hA K.hauls.length hc] 29)).cell? ⟨w2.heap.size,0,none⟩=some (.slice gA K.goods.length gc)∧(w2.alloc (.cells #[.slice gA K.goods.length gc,.slice dA K.dishes.length dc,.slice hA K.hauls.length hc] 29)).cell? ⟨w2.heap.size,1,none⟩=some (.slice dA K.dishes.length dc)∧(w2.alloc (.cells #[.slice gA K.goods.length gc,.slice dA K.dishes.length dc,.slice hA K.hauls.length hc] 29)).cell? ⟨w2.heap.size,2,none⟩=some (.slice hA K.hauls.length hc):=⟨blk_cell hbx 0,blk_cell hbx 1,blk_cell hbx 2⟩
 have HBX:=Lib.hid hbx
 have HK3:=Lib.hid (show KtAt (w2.alloc (.cells #[.slice gA K.goods.length gc,.slice dA K.dishes.length dc,.slice hA K.hauls.length hc] 29)) K gA dA hA from HK2.out.grown (Grown.alloc w2 (.cells #[.slice gA K.goods.length gc,.slice dA K.dishes.length dc,.slice hA K.hauls.length hc] 29)))
 have HB3:=Lib.hid (HB2.out.alloc (.cells #[.slice gA K.goods.length gc,.slice dA K.dishes.length dc,.slice hA K.hauls.length hc] 29))
 have hne:=HB2.out.lt
 have hg1:=H1.out.1
 have hg3:=H1.out.2.1
 have hh1:=H3.out.1
 have hh5:=H3.out.2.1
 generalize hw3:(w2.alloc (.cells #[.slice gA K.goods.length gc,.slice dA K.dishes.length dc,.slice hA K.hauls.length hc] 29))=w3 at HBX HK3 HB3 hS
 have HW3:=Lib.hid hw3
 clear hw3 hbx HK2 HB2
 have HHS:=Lib.hid hS
 have key:∀ W,Kb g w3 W→W.cell? ⟨w2.heap.size,0,none⟩=some (.slice gA K.goods.length gc)∧W.cell? ⟨w2.heap.size,1,none⟩=some (.slice dA K.dishes.length dc)∧W.cell? ⟨w2.heap.size,2,none⟩=some (.slice hA K.hauls.length hc):=fun W k=>⟨k.cell HB3.out HHS.out.1 (by simp),k.cell HB3.out HHS.out.2.1 (by simp),k.cell HB3.out HHS.out.2.2 (by simp)⟩
 have KEY:=Lib.hid key
 clear key
 generalize hbxn:w2.heap.size=bx at *
 clear hbxn
 clear HW3 hS
 refine (menuOf_any g K gA dA hA gc dc hc w3 HB3.out (by have:=H2.out.1;omega) (by have:=H2.out.2.1;omega) (by omega)).mono ?_
 rintro e w4 ⟨mA,mc,ms,rfl,hm4,hkb4,hml4,hmt4,hmc4⟩
 have HKB5:=Lib.hid hkb4
 have HMS:=Lib.hid hm4
 have HML:=Lib.hid hml4
 have HMT:=Lib.hid hmt4
 have HMC:=Lib.hid hmc4
 clear hm4 hkb4 hml4 hmt4 hmc4
 go_upto_region 4 with fail
 have hS:=KEY.out w4 HKB5.out
 have HBS:=Lib.hid (HKB5.out.ke.block HBX.out (by omega))
 have HKS:=Lib.hid (HK3.out.kb HKB5.out HB3.out)
 obtain⟨a0,a1,a2⟩:=hS
 clear HKB5 HBX HK3 HB3 HHS KEY
 generalize w4=wS at *
 have hsi:=single_any (fs:=fs) K gA dA hA gc dc hc wS HKS.out
 by_cases hsing:K.dishes.length=1∧1<K.hauls.length
 ·rw[show (decide (K.dishes.length=1)&&decide (1<K.hauls.length))=true by simp[hsing]] at hsi
  have HSI:=Lib.hid hsi
  clear hsi hsing
  go_wp2_with (first|(go_at_call 21;refine HSI.out.mono ?_;rintro e w6 ⟨rfl,g6⟩)|(go_at_call 22;refine (served_any _).mono ?_;rintro e w7 ⟨rfl,g7⟩))
  go_ret
  rfl
 ·rw[show (decide (K.dishes.length=1)&&decide (1<K.hauls.length))=false by simp;omega] at hsi
  have HSI:=Lib.hid hsi
  have HA:=Lib.hid (asked_of HC.out (menuTo_zero HMT.out HML.out H2.out.1 hsing))
  have hml:ms.length≤1000:=by have:=HML.out;omega
  have HS:=Lib.hid (show ∀ W,Grown wS W→Apart5 W K ms gA dA hA mA gc dc hc bx from fun W g=>⟨HKS.out.grown g,HMS.out.grown g,blk_grown HBS.out g,HC.out,HA.out,hml,⟨hg1,H2.out.1,hh1⟩,hg3,fun d hd=>(H2.out.2.2 d hd).1,fun x hx=>(H3.out.2.2 x hx).len⟩)
  obtain⟨hb,ho,rfl,_⟩:=HKS.out.hauls 0 _ (List.getElem?_eq_getElem (show 0<K.hauls.length by omega))
  clear hsi hsing
  go_upto_region 6 with (go_at_call 21;refine HSI.out.mono ?_;rintro e w6 ⟨rfl,g6⟩;have HG6:=Lib.hid g6;clear g6)
  have S6:=Lib.hid (HS.out w6 HG6.out)
  clear a0 a1 a2
  obtain⟨a0,a1,a2⟩:=S6.out.cells (Grown.refl _)
  have HMU:=Lib.hid (must_any (fs:=fs) K gA dA hb ho gc dc hc ms mA mc w6 S6.out.kt S6.out.m hml HA.out)
  have HS2:=Lib.hid (show ∀ W,Grown w6 W→Apart5 W K ms gA dA (some ⟨hb,ho,none⟩) mA gc dc hc bx from fun W g=>HS.out W (HG6.out.trans g))
  cases hnb:noneB K ms with
  | true =>
   have HCH:=Lib.hid (fun W (s:Apart5 W K ms gA dA (some ⟨hb,ho,none⟩) mA gc dc hc bx)=>cheapest_bad (fs:=fs) K gA dA (some ⟨hb,ho,none⟩) gc dc hc ms mA mc W s.kt s.m hml HA.out hnb)
   go_wp2_with (first|(go_at_call 47;refine HMU.out.mono ?_;rintro e w7 ⟨uA,uc,ul,ue,rfl,g7,_,hu⟩;rcases hu with ⟨_,rfl,rfl⟩|⟨q,_⟩;rotate_left;(rw[hnb] at q;cases q);have S7:=Lib.hid (HS2.out w7 g7);obtain⟨b0,b1,b2⟩:=S7.out.cells (Grown.refl _))|(go_at_call 29;refine (HCH.out w7 S7.out).mono ?_;rintro e w8 ⟨rfl,g8⟩)|(go_at_call 22;refine (served_any _).mono ?_;rintro e w9 ⟨rfl,g9⟩))
   go_ret
   rfl
  | false =>
   have HCH:=Lib.hid (fun W (s:Apart5 W K ms gA dA (some ⟨hb,ho,none⟩) mA gc dc hc bx)=>cheapest_good (fs:=fs) K gA dA (some ⟨hb,ho,none⟩) gc dc hc ms mA mc W s.kt s.m hml HA.out hnb)
   go_upto_if 65 with (first|(go_at_call 47;refine HMU.out.mono ?_;rintro e w7 ⟨uA,uc,ul,ue,rfl,g7,hu0,hu⟩;rcases hu with ⟨q,_⟩|⟨_,rfl,rfl⟩;(rw[hnb] at q;cases q);have S7:=Lib.hid (HS2.out w7 g7);have HU7:=Lib.hid hu0;have HG7:=Lib.hid g7;obtain⟨b0,b1,b2⟩:=S7.out.cells (Grown.refl _);clear hu0 g7)|(go_at_call 29;refine (HCH.out w7 S7.out).mono ?_;rintro e w8 ⟨M,rfl,g8,hd8⟩;have HD8:=Lib.hid hd8;have HU8:=Lib.hid (HU7.out.grown g8);have S8:=Lib.hid (HS2.out w8 (HG7.out.trans g8));obtain⟨d0,d1,d2⟩:=S8.out.cells (Grown.refl _);clear g8 hd8)|(go_at_call 31;refine (shaped_rows (fs:=fs) K ms gA dA _ gc dc hc _ _ w8 HD8.out S8.out.kt.nh).mono ?_;rintro e w9 ⟨rfl,g9⟩;have HG9:=Lib.hid g9;clear g9))
   go_cut [2] (fun _ W=>Hid (Grown w9 W))
   case first =>
    go_wp2_with fail
    go_meet
    exact Lib.hid (Grown.refl _)
   case rest =>
   refine (show ∀ (a:Act) (w1:World),Code.wp (Pf fs) (behindN 9 body10) (bodyPost (Pf fs) Try.f10 fun e _=>e=.returned (.bool true)) a w1→_ from by assumption) _ _ ?_
   exact law10b S8 (Lib.hid (HG9.out.trans hcut.out)) hnb HD8 HU8
end
end Go.Gal
end
