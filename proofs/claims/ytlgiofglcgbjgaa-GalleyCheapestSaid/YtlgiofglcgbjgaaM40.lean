/- Walks: shaped; plain: the kitchen of one good alone. A kitchen of one's own of which one good alone is kept, list by list. Walks: GalleyApart, where loads will do not (printed by .. -/
import Derived.Test.YtlgiofglcgbjgaaM39
import Derived.Lib.SliceRun
import Derived.Deep.Upon
import Derived.Deep.MidRow
namespace Go.Gal
open Go Go.Par Go.Proofs Go.RowKit
section
section
variable {fs:Array Func} [Like fs]
end
def oneK (K:Kt) (g:Nat):Kt:=⟨[gdAt K.goods g],K.dishes.map fun d=>[d.getD g 0],K.hauls.map fun h=>{ h with prices:=[h.prices.getD g 0] }⟩
def oneG (K:Kt) (xs:List Int) (g:Nat):Good1:=goodOf K xs g (gdAt K.goods g)
theorem oneK_goods {K:Kt} {xs:List Int} {g:Nat} : dsOf (oneK K g) xs=[oneG K xs g]:=by
 unfold dsOf oneG
 show List.mapIdx _ [gdAt K.goods g]=_
 simp only[List.mapIdx_cons,List.mapIdx_nil]
 congr 1
 unfold goodOf
 congr 1
 simp only[oneK,List.zip_map_left,List.map_map]
 refine List.map_congr_left fun p _=>?_
 obtain⟨h,d⟩:=p
 simp only[Function.comp,Prod.map,id,haulOf]
 congr 1
 simp only[List.getD_eq_getElem?_getD,List.getElem?_map]
 cases K.dishes[d.toNat]?<;>simp
theorem dsOf_at {K:Kt} {xs:List Int} {g:Nat} (hg:g<K.goods.length):(dsOf K xs)[g]?=some (oneG K xs g):=by
 rw[dsOf_get,gdAt_get hg]
 rfl
theorem oneK_rows {K:Kt} {xs:List Int} {g h:Nat} (hh:h<K.hauls.length):(qD (oneK K g) xs)[h]?=some [ldAt h (oneG K xs g)]:=by
 unfold qD
 rw[oneK_goods,rowsTo_get (by simpa[oneK] using hh),if_neg (by omega)]
 rfl
theorem rowsOf_at {K:Kt} {xs:List Int} {h:Nat} (hh:h<K.hauls.length):(qD K xs)[h]?=some ((dsOf K xs).map (ldAt h)):=by
 unfold qD
 rw[rowsTo_get hh,if_neg (by omega),List.take_length]
theorem rowsOf_cell {K:Kt} {xs:List Int} {h g:Nat} (hg:g<K.goods.length):((dsOf K xs).map (ldAt h))[g]?=some (ldAt h (oneG K xs g)):=by
 rw[List.getElem?_map,dsOf_at hg]
 rfl
def sumTo (K:Kt) (xs:List Int):Nat→Nat
 | 0=>0
 | g+1=>sumTo K xs g+(if (zh (oneG K xs g)).2.2 then 0 else (zh (oneG K xs g)).2.1)
def fineTo (K:Kt) (xs:List Int):Nat→Bool
 | 0=>true
 | g+1=>fineTo K xs g&&!(zh (oneG K xs g)).2.2
theorem fineTo_iff {K:Kt} {xs:List Int} : ∀ {n:Nat},fineTo K xs n=true↔∀ g,g<n→(zh (oneG K xs g)).2.2=false
 | 0=>⟨fun _ g h=>by omega,fun _=>rfl⟩
 | n+1=>by
  unfold fineTo
  rw[Bool.and_eq_true,fineTo_iff]
  constructor
  ·rintro⟨a,b⟩ g hg
   rcases Nat.lt_or_ge g n with q|q
   ·exact a g q
   ·obtain rfl:g=n:=by omega
    simpa using b
  ·intro h
   exact⟨fun g hg=>h g (by omega),by simpa using h n (by omega)⟩
theorem fineTo_all {K:Kt} {xs:List Int} : fineTo K xs K.goods.length=!noneB K xs:=by
 have key:fineTo K xs K.goods.length=true↔noneB K xs=false:=by
  rw[fineTo_iff]
  unfold noneB
  rw[List.any_eq_false]
  constructor
  ·intro h D hD
   obtain⟨i,hi⟩:=List.getElem?_of_mem hD
   have hlt:i<K.goods.length:=by have:=(List.getElem?_eq_some_iff.1 hi).1;rwa [dsOf_len] at this
   rw[dsOf_at hlt] at hi
   cases hi
   simp[h i hlt]
  ·intro h g hg
   simpa using h _ (List.mem_of_getElem? (dsOf_at hg))
 cases h1:fineTo K xs K.goods.length<;>cases h2:noneB K xs<;>simp_all
theorem sumTo_cost {K:Kt} {xs:List Int} (hf:noneB K xs=false):∀ {n:Nat},n≤K.goods.length→sumTo K xs n=jy (dsOf K xs) n
 | 0,_=>(costTo_zero _).symm
 | n+1,hn=>by
  have hfn:(zh (oneG K xs n)).2.2=false:=by
   have:=fineTo_all (K:=K) (xs:=xs)
   rw[hf] at this
   exact fineTo_iff.1 this n (by omega)
  unfold sumTo
  rw[costTo_step (dsOf_at (by omega)),sumTo_cost hf (by omega),if_neg (by simp[hfn])]
theorem sumTo_full {K:Kt} {xs:List Int} (hf:noneB K xs=false):sumTo K xs K.goods.length=qy K xs:=by
 rw[sumTo_cost hf (Nat.le_refl _)]
 unfold qy
 rw[dsOf_len]
section
variable {fs:Array Func} [LikeS fs]
theorem cheapest_bad (K:Kt) (gA dA hA:Option Addr) (gc dc hc:Nat) (xs:List Int) (mA:Option Addr) (mc:Nat) (w:World) (k:KtAt w K gA dA hA) (m:Ints w mA xs) (hlen:xs.length≤1000) (ha:qn K xs=0) (hn:noneB K xs=true) :
  Calls (Pf fs) 29 #[ktV K gA dA hA gc dc hc,.slice mA xs.length mc] w fun e w'=>e=.returned (.tuple #[.slice none 0 0,.int .i64 0,.int .i64 11])∧Grown w w':=
 (cheapest_any K gA dA hA gc dc hc xs mA mc w k m hlen).mono fun e w' ⟨v,e1,g,h⟩=>by
  cases h with
  | asked h1=>exact absurd ha h1
  | bad _ h1=>exact⟨e1,g⟩
  | good _ h1 M hM=>rw[hn] at h1;cases h1
theorem cheapest_good (K:Kt) (gA dA hA:Option Addr) (gc dc hc:Nat) (xs:List Int) (mA:Option Addr) (mc:Nat) (w:World) (k:KtAt w K gA dA hA) (m:Ints w mA xs) (hlen:xs.length≤1000) (ha:qn K xs=0) (hn:noneB K xs=false) :
  Calls (Pf fs) 29 #[ktV K gA dA hA gc dc hc,.slice mA xs.length mc] w fun e w'=>∃ M,e=.returned (.tuple #[.slice (some ⟨M,0,none⟩) K.hauls.length K.hauls.length,.int .i64 (qy K xs),.int .i64 0])∧Grown w w'∧DishesAt w' (some ⟨M,0,none⟩) (qD K xs):=
 (cheapest_any K gA dA hA gc dc hc xs mA mc w k m hlen).mono fun e w' ⟨v,e1,g,h⟩=>by
  cases h with
  | asked h1=>exact absurd ha h1
  | bad _ h1=>rw[hn] at h1;cases h1
  | good _ h1 M hM=>exact⟨M,e1,g,hM⟩
end
end
section
structure OneF (W0:World) (base:Nat) (K:Kt) (db hb:Nat) (nb nc pb pc:Nat→Nat):Prop where
 ne:db≠hb
 bd:base≤db∧base≤hb
 dish:∀ j d,K.dishes[j]?=some d→Ints W0 (some ⟨nb j,0,none⟩) d∧nb j≠db∧nb j≠hb∧K.goods.length≤nc j
 haul:∀ j h,K.hauls[j]?=some h→Ints W0 (some ⟨pb j,0,none⟩) h.prices∧pb j≠db∧pb j≠hb∧K.goods.length≤pc j
structure OneJ (W0 W:World) (K:Kt) (g db hb n m:Nat) (nb nc pb pc:Nat→Nat):Prop where
 size:W.heap.size=W0.heap.size
 os:W.os=W0.os
 same:∀ b,b≠db→b≠hb→W.heap[b]?=W0.heap[b]?
 drow:∃ cur,W.heap[db]?=some (.cells cur 48 (0,0))∧∀ j,j<K.dishes.length→cur[j]?=some (if j<n then .slice (some ⟨nb j,g,none⟩) 1 (nc j-g) else .slice (some ⟨nb j,0,none⟩) K.goods.length (nc j))
 hrow:∃ cur,W.heap[hb]?=some (.cells cur 46 (0,0))∧∀ j h,K.hauls[j]?=some h→cur[j*3]?=some (.int .i64 h.hours)∧cur[j*3+1]?=some (.int .i64 h.covers)∧cur[j*3+2]?=some (if j<m then .slice (some ⟨pb j,g,none⟩) 1 (pc j-g) else .slice (some ⟨pb j,0,none⟩) K.goods.length (pc j))
section
variable {W0 W:World} {base:Nat} {K:Kt} {g db hb n m:Nat} {nb nc pb pc:Nat→Nat}
end
end
section
structure Apart5 (wS:World) (K:Kt) (ms:List Int) (gA dA hA mA:Option Addr) (gc dc hc bx:Nat):Prop where
 kt:KtAt wS K gA dA hA
 m:Ints wS mA ms
 box:wS.heap[bx]?=some (.cells #[.slice gA K.goods.length gc,.slice dA K.dishes.length dc,.slice hA K.hauls.length hc] 29 (0,0))
 valid:zR K=0
 asked:qn K ms=0
 ml:ms.length≤1000
 n : 1≤K.goods.length∧1≤K.dishes.length∧1≤K.hauls.length
 n3:K.goods.length≤3
 dlen:∀ d∈K.dishes,d.length=K.goods.length
 plen:∀ x∈K.hauls,x.prices.length=K.goods.length
theorem Apart5.cells {wS:World} {K:Kt} {ms:List Int} {gA dA hA mA:Option Addr} {gc dc hc bx:Nat} (s:Apart5 wS K ms gA dA hA mA gc dc hc bx) {W:World} (g:Grown wS W):W.cell? ⟨bx,0,none⟩=some (.slice gA K.goods.length gc)∧W.cell? ⟨bx,1,none⟩=some (.slice dA K.dishes.length dc)∧W.cell? ⟨bx,2,none⟩=some (.slice hA K.hauls.length hc):=⟨za (zk s.box g) 0,za (zk s.box g) 1,za (zk s.box g) 2⟩
section
variable {fs:Array Func} [LikeS fs]
end
end
section
section
variable {fs:Array Func} [LikeS fs]
end
end
section
section
variable {fs:Array Func} [LikeS fs]
end
end
section
def Fits (D:Good1):List Haul1→Nat→List Nat→Prop
 | [],_,[]=>True
 | h::hs,t,n::l=>n<tries D h t∧(D.reserve:Int)≤after D h (t+n)∧Fits D hs (after D h (t+n)).toNat l
 | [],_,_::_=>False
 | _::_,_,[]=>False
theorem planFrom_fits (D:Good1):∀ (hs:List Haul1) (t:Nat),(zz D hs t).2.2=false→Fits D hs t (zz D hs t).1
 | [],_,_=>trivial
 | h::hs,t,hf=>by
  have key:∀ k,k≤tries D h t→(zw D h hs t k).2.2=false→Fits D (h::hs) t (zw D h hs t k).1:=by
   intro k
   induction k with
   | zero=>intro _ hb;simp[bestTo_zero] at hb
   | succ k ih =>
    intro hk hb
    rw[qr] at hb ⊢
    unfold tryN at hb ⊢
    split at hb
    ·rename_i h1
     rw[if_pos h1]
     exact ih (by omega) hb
    ·rename_i h1
     rw[if_neg h1]
     dsimp only at hb ⊢
     split at hb
     ·rename_i h2
      rw[if_pos h2]
      simp only[Bool.and_eq_true,Bool.not_eq_true'] at h2
      exact⟨by omega,by omega,planFrom_fits D hs _ h2.1⟩
     ·rename_i h2
      rw[if_neg h2]
      exact ih (by omega) hb
  rw[← bestTo_all] at hf ⊢
  exact key _ (Nat.le_refl _) hf
theorem fits_len {D:Good1} : ∀ {hs:List Haul1} {t:Nat} {l:List Nat},Fits D hs t l→l.length=hs.length
 | [],_,[],_=>rfl
 | _::_,_,_::_,⟨_,_,h3⟩=>by simp[fits_len h3]
 | [],_,_::_,h=>h.elim
 | _::_,_,[],h=>h.elim
end
section
section
variable {w W:World} {base:Nat} {K:Kt} {gb db hb h g:Nat} {nb nc pb pc:Nat→Nat}
end
section
variable {fs:Array Func} [LikeS fs]
end
end
section
def TabAt (w:World) (A:Option Addr) (nh ng:Nat) (f:Nat→Nat→Nat):Prop:=
 ∃ b off,A=some ⟨b,off,none⟩∧∀ h,h<nh→∃ rb ro rc,w.cell? ⟨b,off+h,none⟩=some (.slice (some ⟨rb,ro,none⟩) ng rc)∧∀ i,i<ng→w.cell? ⟨rb,ro+i,none⟩=some (.int .i64 (f h i))
structure LegG (K:Kt) (ms:List Int) (ls:List (List Int)) (g room res mel st:Nat) (nN xX uU lo gn hr:Nat→Nat):Prop where
 gd:K.goods[g]?=some ⟨room,res,mel,st⟩
 bd:room≤20∧res≤20∧mel≤12∧st≤20
 n0:nN 0=st
 g0:gn 0=0
 hl:∀ h,h<K.hauls.length→hr h≤24∧∃ cov pr,K.hauls[h]?=some ⟨hr h,cov,pr⟩
 leg:∀ h,h<K.hauls.length→nN h+xX h≤room∧res≤nN (h+1)∧nN (h+1)+uU h+lo h=nN h+xX h
 hlo:∀ h,h<K.hauls.length→lo h=melted (hr h) mel (nN h+xX h)
 gs:∀ h,gn (h+1)=gn h+lo h
 tx:∀ h,ldN ls h g=xX h
 tu:∀ h,usN (dsOf K ms) h g=uU h
 tn:∀ h,nowD (atG (dsOf K ms) g) (ldI ls g) (h+1)=nN (h+1)
 tg:(runK K ms ls).mel g=gn K.hauls.length
 gb:∀ h,h≤K.hauls.length→gn h≤h*20
structure LegsAt (w:World) (K:Kt) (ms:List Int) (ls:List (List Int)) (lA fA uA eA:Option Addr):Prop where
 l:TabAt w lA K.hauls.length K.goods.length (fun h i=>ldN ls h i)
 f:TabAt w fA K.hauls.length K.goods.length (fun h i=>nowD (atG (dsOf K ms) i) (ldI ls i) (h+1))
 u:TabAt w uA K.hauls.length K.goods.length (fun h i=>usN (dsOf K ms) h i)
 m:Ints w eA ((List.range K.goods.length).map fun i=>(((runK K ms ls).mel i:Nat):Int))
section
variable {fs:Array Func} [LikeS fs]
end
end
end Go.Gal
