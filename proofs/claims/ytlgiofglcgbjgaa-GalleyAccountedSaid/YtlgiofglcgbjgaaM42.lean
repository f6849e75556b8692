/- Plain: the numbers of a good, leg by leg (GalleyAccounted); tables of numbers in memory. Walks: GalleyAccounted, its loops (printed by lawacc.py c). Walks: GalleyAccounted, behind the .. -/
import Derived.Test.YtlgiofglcgbjgaaM41
namespace Go.Gal
open Go Go.Par Go.Proofs Go.RowKit
section
def TabAt (w:World) (A:Option Addr) (nh ng:Nat) (f:Nat→Nat→Nat):Prop:=
 ∃ b off,A=some ⟨b,off,none⟩∧∀ h,h<nh→∃ rb ro rc,w.cell? ⟨b,off+h,none⟩=some (.slice (some ⟨rb,ro,none⟩) ng rc)∧∀ i,i<ng→w.cell? ⟨rb,ro+i,none⟩=some (.int .i64 (f h i))
theorem tab_of {w:World} {A:Option Addr} {ls:List (List Int)} {nh ng:Nat} {f:Nat→Nat→Nat} (hd:DishesAt w A ls) (h1 : 1≤nh) (g1 : 1≤ng) (hf:∀ h,h<nh→∃ l,ls[h]?=some l∧l.length=ng∧∀ i,i<ng→l[i]?=some ((f h i:Nat):Int)):TabAt w A nh ng f:=by
 obtain⟨l0,e0,_⟩:=hf 0 h1
 obtain⟨b,off,rfl,_⟩:=hd 0 l0 e0
 refine⟨b,off,rfl,fun h hh=>?_⟩
 obtain⟨l,e1,e2,e3⟩:=hf h hh
 obtain⟨b',off',eb,dA,dc,k1,k2,_⟩:=hd h l e1
 cases eb
 obtain⟨rb,ro,rfl,_⟩:=k2 0 _ (e3 0 g1)
 refine⟨rb,ro,dc,by rw[k1,e2],fun i hi=>?_⟩
 obtain⟨rb',ro',er,k3⟩:=k2 i _ (e3 i hi)
 cases er
 exact k3
structure LegG (K:Kt) (ms:List Int) (ls:List (List Int)) (g room res mel st:Nat) (nN xX uU lo gn hr:Nat→Nat):Prop where
 gd:K.goods[g]?=some ⟨room,res,mel,st⟩
 bd:room≤20∧res≤20∧mel≤12∧st≤20
 n0:nN 0=st
 g0:gn 0=0
 hl:∀ h,h<K.hauls.length→hr h≤24∧∃ cov pr,K.hauls[h]?=some ⟨hr h,cov,pr⟩
 leg:∀ h,h<K.hauls.length→nN h+xX h≤room∧res≤nN (h+1)∧nN (h+1)+uU h+lo h=nN h+xX h
 hlo:∀ h,h<K.hauls.length→lo h=melted (hr h) mel (nN h+xX h)
 gs:∀ h,gn (h+1)=gn h+lo h
 tx:∀ h,ldN ls h g=xX h
 tu:∀ h,usN (dsOf K ms) h g=uU h
 tn:∀ h,nowD (atG (dsOf K ms) g) (ldI ls g) (h+1)=nN (h+1)
 tg:(runK K ms ls).mel g=gn K.hauls.length
 gb:∀ h,h≤K.hauls.length→gn h≤h*20
theorem gd_nat {x:Gd} (h1 : 1≤x.room) (h2 : 0≤x.reserve) (h3 : 0≤x.melts) (h4 : 0≤x.start):x=⟨x.room.toNat,x.reserve.toNat,x.melts.toNat,x.start.toNat⟩:=by
 obtain⟨a,b,c,d⟩:=x
 simp only at h1 h2 h3 h4
 simp only[Gd.mk.injEq]
 omega
theorem hl_nat {x:Hl} (h : 0≤x.hours):x=⟨x.hours.toNat,x.covers,x.prices⟩:=by
 obtain⟨a,b,c⟩:=x
 simp only at h
 simp only[Hl.mk.injEq]
 exact⟨by omega,trivial,trivial⟩
theorem leg_nums {K:Kt} {ms:List Int} {ls:List (List Int)} (hG:zS K ms ls=0) (hs:(runK K ms ls).stop=none) {g:Nat} (hg:g<K.goods.length):∃ room res mel st nN xX uU lo gn hr,LegG K ms ls g room res mel st nN xX uU lo gn hr:=by
 obtain⟨hA,_⟩:=givenE_zero hG
 have hC:=(askedE_zero hA).1
 have hxl:=asked_len hA
 obtain⟨r1,r2,r3,r4,r5,r6,r7,r8⟩:=badGood_false ((goodsE_zero (checkE_zero hC).1).2.2 _ (List.mem_of_getElem? (gdAt_get hg)))
 have eg:K.goods[g]=gdAt K.goods g:=by
  have:=gdAt_get hg
  rw[List.getElem?_eq_getElem hg] at this
  injection this
 have hD:atG (dsOf K ms) g=goodOf K ms g (gdAt K.goods g):=by rw[atG_dsOf hg,eg]
 have hl0:∀ h,h<K.hauls.length→(hlG (atG (dsOf K ms) g) h).hours=(hlAt K.hauls h).hours.toNat:=fun h hh=>by
  rw[hD,hlG_goodOf hxl hh]
  have:K.hauls[h]=hlAt K.hauls h:=by
   have:=hlAt_get hh
   rw[List.getElem?_eq_getElem hh] at this
   injection this
  rw[this]
  rfl
 have hleg:=fun h (hh:h<K.hauls.length)=>leg_law (h:=h) (i:=g) hs hh hg
 have hlo:∀ h,h<K.hauls.length→lossD (atG (dsOf K ms) g) (ldI ls g) h=melted ((hlAt K.hauls h).hours.toNat) (gdAt K.goods g).melts.toNat (nowD (atG (dsOf K ms) g) (ldI ls g) h+ldN ls h g):=fun h hh=>by
  unfold lossD
  rw[hl0 h hh,hD]
  rfl
 have er:(atG (dsOf K ms) g).room=(gdAt K.goods g).room.toNat:=by rw[hD];rfl
 have ev:(atG (dsOf K ms) g).reserve=(gdAt K.goods g).reserve.toNat:=by rw[hD];rfl
 have es:(atG (dsOf K ms) g).start=(gdAt K.goods g).start.toNat:=by rw[hD];rfl
 refine⟨(gdAt K.goods g).room.toNat,(gdAt K.goods g).reserve.toNat,(gdAt K.goods g).melts.toNat,(gdAt K.goods g).start.toNat,nowD (atG (dsOf K ms) g) (ldI ls g),fun h=>ldN ls h g,fun h=>usN (dsOf K ms) h g,lossD (atG (dsOf K ms) g) (ldI ls g),goneD (atG (dsOf K ms) g) (ldI ls g),fun h=>(hlAt K.hauls h).hours.toNat,?_⟩
 refine { gd:=?_,bd:=by omega,n0:=es,g0:=rfl,hl:=fun h hh=>?_,leg:=fun h hh=>?_,hlo:=hlo,gs:=fun _=>rfl,tx:=fun _=>rfl,tu:=fun _=>rfl,tn:=fun _=>rfl,tg:=runK_mel hs hg,gb:=?_ }
 ·rw[gdAt_get hg]
  exact congrArg some (gd_nat r1 r3 r5 r7)
 ·obtain⟨h1,h2,h3⟩:=haulsE_zero (checkE_zero hC).2.2
  obtain⟨a,b,_⟩:=h3 _ (List.mem_of_getElem? (hlAt_get hh))
  refine⟨by omega,(hlAt K.hauls h).covers,(hlAt K.hauls h).prices,?_⟩
  rw[hlAt_get hh]
  exact congrArg some (hl_nat a)
 ·obtain⟨a,b,c⟩:=hleg h hh
  rw[er] at a
  rw[ev] at b
  exact⟨a,b,c⟩
 ·intro h
  induction h with
  | zero=>intro _;exact Nat.le_refl _
  | succ h ih =>
   intro hh
   have h1:=ih (by omega)
   obtain⟨a,b,c⟩:=hleg h (by omega)
   rw[er] at a
   show goneD _ _ h+lossD _ _ h≤_
   omega
structure LegsAt (w:World) (K:Kt) (ms:List Int) (ls:List (List Int)) (lA fA uA eA:Option Addr):Prop where
 l:TabAt w lA K.hauls.length K.goods.length (fun h i=>ldN ls h i)
 f:TabAt w fA K.hauls.length K.goods.length (fun h i=>nowD (atG (dsOf K ms) i) (ldI ls i) (h+1))
 u:TabAt w uA K.hauls.length K.goods.length (fun h i=>usN (dsOf K ms) h i)
 m:Ints w eA ((List.range K.goods.length).map fun i=>(((runK K ms ls).mel i:Nat):Int))
theorem legs_of {w:World} {K:Kt} {ms:List Int} {ls:List (List Int)} {lA fA uA eA:Option Addr} (hG:zS K ms ls=0) (hs:(runK K ms ls).stop=none) (h1 : 1≤K.hauls.length) (g1 : 1≤K.goods.length) (hl:DishesAt w lA ls) (hf:DishesAt w fA (runK K ms ls).left) (hu:DishesAt w uA (usesL K ms K.hauls.length)) (hm:Ints w eA ((List.range K.goods.length).map fun i=>(((runK K ms ls).mel i:Nat):Int))):LegsAt w K ms ls lA fA uA eA:=by
 obtain⟨hA,hL⟩:=givenE_zero hG
 obtain⟨e1,e2⟩:=loadedE_zero hL
 refine⟨tab_of hl h1 g1 fun h hh=>?_,tab_of hf h1 g1 fun h hh=>?_,tab_of hu h1 g1 fun h hh=>?_,hm⟩
 ·have hlt:h<ls.length:=by omega
  have hm:=List.getElem?_eq_getElem hlt
  obtain⟨q1,q2⟩:=e2 _ (List.mem_of_getElem? hm)
  refine⟨_,hm,q1,fun i hi=>?_⟩
  have hi':i<ls[h].length:=by omega
  have hx:=List.getElem?_eq_getElem hi'
  have hb:=q2 _ (List.mem_of_getElem? hx)
  rw[hx]
  congr 1
  unfold ldN
  have e3:ls.getD h []=ls[h]:=by rw[List.getD_eq_getElem?_getD,hm,Option.getD_some]
  rw[e3,List.getD_eq_getElem?_getD,hx,Option.getD_some]
  omega
 ·rw[(runK_well hs).2]
  refine⟨leftRow (dsOf K ms) ls h,?_,by simp[leftRow,dsOf_len],fun i hi=>?_⟩
  ·rw[List.getElem?_map,List.getElem?_range hh];rfl
  ·unfold leftRow
   rw[List.getElem?_map,List.getElem?_range (by rw[dsOf_len];exact hi)]
   rfl
 ·refine⟨usesRow K ms h K.goods.length,?_,usesRow_len _ _ _ _,fun i hi=>?_⟩
  ·unfold usesL
   rw[List.getElem?_map,List.getElem?_range hh];rfl
  ·unfold usesRow
   rw[List.getElem?_map,List.getElem?_range hi];rfl
theorem fits_room {D:Good1} : ∀ {hs:List Haul1} {t:Nat} {l:List Nat},Fits D hs t l→∀ n∈l,n≤D.room
 | [],_,[],_,n,hn=>by simp at hn
 | _::hs,t,m::l,⟨h1,_,h3⟩,n,hn=>by
  rcases List.mem_cons.1 hn with rfl|hn
  ·have:=tries_room h1
   omega
  ·exact fits_room h3 n hn
 | [],_,_::_,h,_,_=>h.elim
 | _::_,_,[],h,_,_=>h.elim
theorem rows_20 {K:Kt} {xs:List Int} (hA:qe K xs=0) (hn:noneB K xs=false):∀ l∈rowsOf K xs,∀ x∈l,0≤x∧x≤20:=fun l hl x hx=>by
 obtain⟨h,hh⟩:=List.getElem?_of_mem hl
 have hlt:h<K.hauls.length:=by have:=(List.getElem?_eq_some_iff.1 hh).1;rwa [rowsOf_len] at this
 rw[rowsOf_at hlt] at hh
 cases hh
 obtain⟨D,hD,rfl⟩:=List.mem_map.1 hx
 obtain⟨i,hi⟩:=List.getElem?_of_mem hD
 have hig:i<K.goods.length:=by have:=(List.getElem?_eq_some_iff.1 hi).1;rwa [dsOf_len] at this
 rw[dsOf_at hig] at hi
 cases hi
 obtain⟨r1,r2,_⟩:=badGood_false ((goodsE_zero (checkE_zero (askedE_zero hA).1).1).2.2 _ (List.mem_of_getElem? (gdAt_get hig)))
 have hp:(zf (oneG K xs i)).2.2=false:=fineTo_iff.1 (show fineTo K xs K.goods.length=true by rw[fineTo_all,hn];rfl) i hig
 have hr:=fits_room (planFrom_fits _ _ _ hp)
 have hroom:(oneG K xs i).room≤20:=by show (gdAt K.goods i).room.toNat≤20;omega
 unfold ldAt zf
 rw[List.getD_eq_getElem?_getD]
 cases hq:(zM (oneG K xs i) (oneG K xs i).hauls (oneG K xs i).start).1[h]? with
 | none=>simp
 | some n =>
  have:=hr n (List.mem_of_getElem? hq)
  simp only[Option.getD_some]
  omega
theorem Apart5.kb {w W:World} {K:Kt} {ms:List Int} {gA dA hA mA:Option Addr} {gc dc hc bx g:Nat} (s:Apart5 w K ms gA dA hA mA gc dc hc bx) (k:Kb g w W) (hb:BagAt w g) (hne:bx≠g):Apart5 W K ms gA dA hA mA gc dc hc bx:=
 ⟨s.kt.kb k hb,s.m.kb k hb,k.ke.block s.box hne,s.valid,s.asked,s.ml,s.n,s.n3,s.dlen,s.plen⟩
theorem Apart5.grown {w W:World} {K:Kt} {ms:List Int} {gA dA hA mA:Option Addr} {gc dc hc bx:Nat} (s:Apart5 w K ms gA dA hA mA gc dc hc bx) (k:Grown w W):Apart5 W K ms gA dA hA mA gc dc hc bx:=
 ⟨s.kt.grown k,s.m.grown k,zg s.box k,s.valid,s.asked,s.ml,s.n,s.n3,s.dlen,s.plen⟩
section
variable {fs:Array Func} [LikeS fs]
theorem shaped_of (K:Kt) (gA dA hA:Option Addr) (gc dc hc:Nat) (A:Option Addr) (c:Nat) (ls:List (List Int)) (w:World) (h:DishesAt w A ls) (hn:K.hauls.length≤1000) (h1:ls.length=K.hauls.length) (h2:∀ l∈ls,l.length=K.goods.length) :
  Calls (Pf fs) 31 #[ktV K gA dA hA gc dc hc,.slice A K.hauls.length c] w fun e w'=>e=.returned (.bool true)∧Grown w w':=by
 have:=shaped_yes (fs:=fs) K gA dA hA gc dc hc A c ls w h (by omega) h1 h2
 rw[h1] at this
 exact this
end
end
section
noncomputable def body15:Code:=Try.f15.body.getD .skip
section
variable {fs:Array Func} [LikeS fs]
set_option maxRecDepth 100000 in
set_option maxHeartbeats 8000000 in
theorem law15c {wS:World} {K:Kt} {ms:List Int} {ls:List (List Int)} {gA dA hA mA lA fA uA eA:Option Addr} {gc dc hc mc lc fc uc ec bx g0:Nat} (S:Hid (Apart5 wS K ms gA dA hA mA gc dc hc bx)) (HG:zS K ms ls=0) (HR:(runK K ms ls).stop=none) (HT:Hid (LegsAt wS K ms ls lA fA uA eA)) {wc:World} (HGC:Hid (Grown wS wc)) {u0 u1 u2 u7 u8 u10 u12 u14 u15 u16 u17 u18 u19 u20 u21 u22 u23 u24 u25 u26 u27 u28 u29 u30 u31 u32 u33 u34 u35 u36 u37 u38 u39 u40 u41 u42 u43 u44 u45 u46 u47 u48 u49 u50 u51 u52 u53 u54 u55 u56 u57 u58 u59 u60 u61 u62 u63 u64 u65 u66 u67 u68 u69 u70 u71 u72 u73 u74 u75 u76 u77 u78 u79 u80 u81 u82 u83 u84 u85 u86 u87 u88 u89 u90 u91 u92 u93 u94 u95 u96 u97 u98 u99 u100 u101 u102 u103 u104 u105 u106 u107 u108 u109 u110 u111 u112 u113 u114 u115 u116 u117 u118 u119 u120 u121 u122 u123 u124 u125 u126 u127 u128 u129 u130 u131 u132 u133 u134 u135 u136 u137 u138 u139 u140 u141 u142 u143 u144 u145 u146 u147 u148 u149 u150 u151 u152 u153 u154 u155 u156 u157 u158 u159 u160 u161 u162 u163 u164 u165 u166 u167 u168 u169 u170 u171 u172 u173 u174 u175 u176 u177 u178 u179 u180 u181 u182 u183 u184 u185 u186 u187 u188 u189 u190 u191 u192 u193 u194 u195 u196 u197 u198 u199 u200 u201 u202 u203 u204 u205 u206:Value} :
  Code.wp (Pf fs) (behindN 14 body15) (bodyPost (Pf fs) Try.f15 fun e _=>e=.returned (.bool true)) ⟨#[u0,u1,u2,.pointer (some ⟨g0,0,none⟩),.pointer (some ⟨bx,0,none⟩),.slice mA ms.length mc,.slice lA K.hauls.length lc,u7,u8,.slice fA K.hauls.length fc,u10,.slice eA K.goods.length ec,u12,.slice uA K.hauls.length uc,u14,u15,u16,u17,u18,u19,u20,u21,u22,u23,u24,u25,u26,u27,u28,u29,u30,u31,u32,u33,u34,u35,u36,u37,u38,u39,u40,u41,u42,u43,u44,u45,u46,u47,u48,u49,u50,u51,u52,u53,u54,u55,u56,u57,u58,u59,u60,u61,u62,u63,u64,u65,u66,u67,u68,u69,u70,u71,u72,u73,u74,u75,u76,u77,u78,u79,u80,u81,u82,u83,u84,u85,u86,u87,u88,u89,u90,u91,u92,u93,u94,u95,u96,u97,u98,u99,u100,u101,u102,u103,u104,u105,u106,u107,u108,u109,u110,u111,u112,u113,u114,u115,u116,u117,u118,u119,u120,u121,u122,u123,u124,u125,u126,u127,u128,u129,u130,u131,u132,u133,u134,u135,u136,u137,u138,u139,u140,u141,u142,u143,u144,u145,u146,u147,u148,u149,u150,u151,u152,u153,u154,u155,u156,u157,u158,u159,u160,u161,u162,u163,u164,u165,u166,u167,u168,u169,u170,u171,u172,u173,u174,u175,u176,u177,u178,u179,u180,u181,u182,u183,u184,u185,u186,u187,u188,u189,u190,u191,u192,u193,u194,u195,u196,u197,u198,u199,u200,u201,u202,u203,u204,u205,u206],[]⟩ wc:=by
 obtain⟨gb,go,rfl,_⟩:=S.out.kt.goods 0 _ (gdAt_get (show 0<K.goods.length from S.out.n.1))
 obtain⟨hb,ho,rfl,_⟩:=S.out.kt.hauls 0 _ (hlAt_get (show 0<K.hauls.length from S.out.n.2.2))
 obtain⟨⟨lb,lp,rfl,TL⟩,⟨fb,fp,rfl,TF⟩,⟨ub,up,rfl,TU⟩,TM⟩:=HT.out
 obtain⟨eb,ep,rfl,_⟩:=TM 0 _ (by rw[List.getElem?_map,List.getElem?_range (show 0<K.goods.length from S.out.n.1)];rfl)
 have HTL:=Lib.hid TL
 have HTF:=Lib.hid TF
 have HTU:=Lib.hid TU
 have HTM:=Lib.hid TM
 have hnh:=S.out.kt.nh
 have hng:=S.out.n3
 clear TL TF TU TM
 conv=>arg 2;whnf
 go_wp2_with fail
 go_loopw [15] (fun i W=>∃ n:Nat,i=.int .i64 n∧n≤K.goods.length∧Hid (Grown wS W)) (fun i _=>K.goods.length-(intOf i).toNat)
 case atStart=>exact⟨0,rfl,Nat.zero_le _,HGC⟩
 case round =>
  obtain⟨g,rfl,hg,HGW⟩:=hrel
  obtain⟨a0,a1,a2⟩:=S.out.cells HGW.out
  by_cases hgl:g<K.goods.length
  ·have i1:(g:Int)<K.goods.length:=by omega
   obtain⟨room,res,mel,st,nN,xX,uU,lo,gn,hr,L0⟩:=leg_nums HG HR hgl
   have LG:=Lib.hid L0
   obtain⟨gb',go',eg,x1,x2,x3,x4⟩:=S.out.kt.goods g _ L0.gd
   cases eg
   have x1:=HGW.out.cell x1
   have x2:=HGW.out.cell x2
   have x3:=HGW.out.cell x3
   have x4:=HGW.out.cell x4
   simp only at x1 x2 x3 x4
   clear L0
   go_wp2_with fail
   have HGB:=Lib.hid (HGW.out.trans (Grown.alloc wr (.cells #[.int .i64 room,.int .i64 res,.int .i64 mel,.int .i64 st] 42)))
   have HBX:=Lib.hid (heap_alloc_new wr (.cells #[.int .i64 room,.int .i64 res,.int .i64 mel,.int .i64 st] 42))
   generalize wr.alloc (.cells #[.int .i64 room,.int .i64 res,.int .i64 mel,.int .i64 st] 42)=wB at HGB HBX ⊢
   generalize wr.heap.size=tb at HBX ⊢
   clear a0 a1 a2 x1 x2 x3 x4
   go_loopw [17,18,19] (fun gone n i W=>∃ h:Nat,i=.int .i64 h∧h≤K.hauls.length∧gone=.int .i64 (gn h)∧n=.int .i64 (nN h)∧Hid (Grown wB W)) (fun _ _ i _=>K.hauls.length-(intOf i).toNat)
   case atStart=>exact⟨0,rfl,Nat.zero_le _,by rw[LG.out.g0];rfl,by rw[LG.out.n0],Lib.hid (Grown.refl _)⟩
   case round =>
    obtain⟨h,rfl,hh,rfl,rfl,HGV⟩:=hrel
    have HGS:=Lib.hid (HGB.out.trans HGV.out)
    obtain⟨a0,a1,a2⟩:=S.out.cells HGS.out
    by_cases hhl:h<K.hauls.length
    ·have i2:(h:Int)<K.hauls.length:=by omega
     obtain⟨rb,ro,rc,r1,r2⟩:=HTL.out h hhl
     obtain⟨vb,vo,vc,v1,v2⟩:=HTF.out h hhl
     obtain⟨sb,so,sc,s1,s2⟩:=HTU.out h hhl
     have r2:=r2 g hgl
     have v2:=v2 g hgl
     have s2:=s2 g hgl
     simp only[LG.out.tx,LG.out.tu,LG.out.tn] at r2 v2 s2
     have HRV:=Lib.hid (And.intro v1 v2)
     have r1:=HGS.out.cell r1
     have r2:=HGS.out.cell r2
     have v1:=HGS.out.cell v1
     have v2:=HGS.out.cell v2
     have s1:=HGS.out.cell s1
     have s2:=HGS.out.cell s2
     obtain⟨h24,cov,pr,y0⟩:=LG.out.hl h hhl
     obtain⟨hb',ho',eh,_,_,y1,_⟩:=S.out.kt.hauls h _ y0
     cases eh
     simp only at y1
     have HYY:=Lib.hid y1
     obtain⟨l1,l2,l3⟩:=LG.out.leg h hhl
     have l4:=LG.out.hlo h hhl
     have l5:=LG.out.gs h
     have l6:=LG.out.gb h hh
     obtain⟨b1,b2,b3,b4⟩:=LG.out.bd
     have l7:gn h≤20000:=by omega
     have HGN:=Lib.hid (show gn (h+1)=gn h+lo h from l5)
     obtain⟨N2,hN2⟩:∃ N2,N2=nN (h+1):=⟨_,rfl⟩
     rw[← hN2] at l2 l3 v2 HRV
     have HN2:=Lib.hid hN2
     obtain⟨LO,hLO⟩:∃ LO,LO=lo h:=⟨_,rfl⟩
     rw[← hLO] at l3 l4 HGN
     obtain⟨Y,hY⟩:∃ Y,Y=nN h+xX h:=⟨_,rfl⟩
     rw[← hY] at l1 l3 l4
     obtain⟨Y2,hY2⟩:∃ Y2,Y2=Y-uU h:=⟨_,rfl⟩
     have w1:IntKind.i64.wrap ((nN h:Int)+(xX h:Int))=(Y:Int):=wrap_of (by omega) (by omega) (by omega)
     have w2:IntKind.i64.wrap ((Y:Int)-(uU h:Int))=(Y2:Int):=wrap_of (by omega) (by omega) (by omega)
     have w3:IntKind.i64.wrap ((Y2:Int)-(N2:Int))=(LO:Int):=wrap_of (by omega) (by omega) (by omega)
     have w4:IntKind.i64.wrap ((gn h:Int)+(LO:Int))=(gn (h+1):Nat):=wrap_of (by have:=HGN.out;omega) (by omega) (by have:=HGN.out;omega)
     have HW4:=Lib.hid w4
     have HL4:=Lib.hid l4
     have HB:=Lib.hid (show Y≤room∧res≤N2∧room≤20∧mel≤12∧LO≤Y from ⟨l1,l2,b1,b3,by omega⟩)
     clear y1 l1 l2 l3 l4 l5 l6 l7 b1 b2 b3 b4 hN2 hLO hY hY2 w4
     generalize hg2:gn (h+1)=GN2 at HW4 HGN
     have HG2:=Lib.hid hg2
     clear hg2
     generalize hgh:gn h=GN at HW4 HGN ⊢
     generalize nN h=N at w1 ⊢
     generalize xX h=X at w1 r2
     generalize uU h=U at w2 s2
     have HGH:=Lib.hid hgh
     clear hgh
     have t2:=za (zg HBX.out HGV.out) 2
     simp only[List.getElem?_toArray,List.getElem?_cons_zero,List.getElem?_cons_succ] at t2
     go_wp2_with fail
     go_quiet (fail)
     go_upto_if 157 with fail
     have HGX:=Lib.hid (show Grown wB (wr.drewN nq) from HGV.out.drewN nq)
     generalize wr.drewN nq=wx at HGX ⊢
     clear a0 a1 a2 r1 r2 v1 v2 s1 s2 w1 w2 w3 HGV HGS t2
     go_cut [21] (fun v W=>v=.int .i64 LO∧Hid (Grown wB W))
     case first =>
      obtain⟨a0,a1,a2⟩:=S.out.cells (HGB.out.trans HGX.out)
      have t2:=za (zg HBX.out HGX.out) 2
      simp only[List.getElem?_toArray,List.getElem?_cons_zero,List.getElem?_cons_succ] at t2
      have y1:=(HGB.out.trans HGX.out).cell HYY.out
      have l4:=HL4.out
      by_cases hm0 : 0<mel
      ·have hm1:(0:Int)<mel:=by omega
       have hm2:¬ (mel:Int)=0:=by omega
       obtain⟨y,hy,hwq⟩:∃ y:Nat,y=hr h / mel∧wrap64 ((hr h:Int) / (mel:Int))=(y:Int):=by
        exact⟨_,rfl,wrap_quo (by omega)⟩
       unfold melted at l4
       rw[if_pos hm0,← hy] at l4
       generalize hr h=hq at y1 hwq
       clear hy hm0
       by_cases hx:Y≤y
       ·have t3:(Y:Int)≤y:=Int.ofNat_le.2 hx
        have t4:¬ (y:Int)<Y:=Int.not_lt.2 (Int.ofNat_le.2 hx)
        rw[Nat.min_eq_left hx] at l4
        subst l4
        clear hx h24 a0 a1
        go_wp2_with fail
        go_quiet (fail)
        go_wp2_with fail
        go_meet
        exact⟨rfl,Lib.hid (HGX.out.drewN _)⟩
       ·have t3:¬ (Y:Int)≤y:=by omega
        have t4:(y:Int)<Y:=by omega
        rw[Nat.min_eq_right (by omega)] at l4
        subst l4
        clear hx h24 a0 a1
        go_wp2_with fail
        go_quiet (fail)
        go_wp2_with fail
        go_meet
        exact⟨rfl,Lib.hid (HGX.out.drewN _)⟩
      ·have hm1:¬ (0:Int)<mel:=by omega
       unfold melted at l4
       rw[if_neg hm0] at l4
       subst l4
       clear hm0
       go_wp2_with fail
       go_meet
       exact⟨rfl,HGX⟩
     case rest =>
     obtain⟨rfl,HGZ⟩:=hcut
     have t0:=za (zg HBX.out HGZ.out) 0
     have t1:=za (zg HBX.out HGZ.out) 1
     simp only[List.getElem?_toArray,List.getElem?_cons_zero,List.getElem?_cons_succ] at t0 t1
     obtain⟨v1,v2⟩:=HRV.out
     have v1:=(HGB.out.trans HGZ.out).cell v1
     have v2:=(HGB.out.trans HGZ.out).cell v2
     obtain⟨q1,q2,q3,q4,q5⟩:=HB.out
     have k1:¬ (room:Int)<Y:=by omega
     have k2:¬ (N2:Int)<res:=by omega
     have k3:decide ((room:Int)<Y)=false:=decide_eq_false k1
     have k4:decide ((N2:Int)<res)=false:=decide_eq_false k2
     have k5:((LO:Int) != LO)=false:=by simp
     have k6:decide (room<Y)=false:=decide_eq_false (by omega)
     have k7:decide (N2<res)=false:=decide_eq_false (by omega)
     have k8:(LO != LO)=false:=by simp
     have w4:=HW4.out
     clear q1 q2 q3 q4 q5
     go_wp2_with fail
     go_quiet (fail)
     go_wp2_with fail
     go_quiet (fail)
     go_wp2_with fail
     go_roundw
     case rel=>exact⟨h+1,by go_num,by omega,by rw[HG2.out],by rw[HN2.out],Lib.hid (by first|exact HGZ.out.drewN _|exact (HGZ.out.drewN _).drewN _)⟩
     case measure=>simp[intOf];omega
    ·have i2:¬ (h:Int)<K.hauls.length:=by omega
     obtain rfl:h=K.hauls.length:=by omega
     obtain⟨eb',ep',ee,m1⟩:=HTM.out g _ (by rw[List.getElem?_map,List.getElem?_range hgl];rfl)
     cases ee
     simp only[LG.out.tg] at m1
     have m1:=HGS.out.cell m1
     generalize gn K.hauls.length=GE at m1 ⊢
     go_wp2_with fail
     go_roundw
     case rel=>exact⟨g+1,by go_num,by omega,HGS⟩
     case measure=>simp[intOf];omega
  ·have i1:¬ (g:Int)<K.goods.length:=by omega
   obtain rfl:g=K.goods.length:=by omega
   go_wp2_with (go_at_call 22;refine (served_any _).mono ?_;rintro e w9 ⟨rfl,g9⟩)
   go_ret
   rfl
end
end
section
section
variable {fs:Array Func} [LikeS fs]
set_option maxRecDepth 100000 in
set_option maxHeartbeats 8000000 in
theorem law15b {wS:World} {K:Kt} {ms:List Int} {ls:List (List Int)} {gA dA hA mA lA:Option Addr} {gc dc hc mc lc bx g0:Nat} (S:Hid (Apart5 wS K ms gA dA hA mA gc dc hc bx)) (HG:zS K ms ls=0) (HL:Hid (DishesAt wS lA ls)) {u0 u1 u2 u7 u8 u9 u10 u11 u12 u13 u14 u15 u16 u17 u18 u19 u20 u21 u22 u23 u24 u25 u26 u27 u28 u29 u30 u31 u32 u33 u34 u35 u36 u37 u38 u39 u40 u41 u42 u43 u44 u45 u46 u47 u48 u49 u50 u51 u52 u53 u54 u55 u56 u57 u58 u59 u60 u61 u62 u63 u64 u65 u66 u67 u68 u69 u70 u71 u72 u73 u74 u75 u76 u77 u78 u79 u80 u81 u82 u83 u84 u85 u86 u87 u88 u89 u90 u91 u92 u93 u94 u95 u96 u97 u98 u99 u100 u101 u102 u103 u104 u105 u106 u107 u108 u109 u110 u111 u112 u113 u114 u115 u116 u117 u118 u119 u120 u121 u122 u123 u124 u125 u126 u127 u128 u129 u130 u131 u132 u133 u134 u135 u136 u137 u138 u139 u140 u141 u142 u143 u144 u145 u146 u147 u148 u149 u150 u151 u152 u153 u154 u155 u156 u157 u158 u159 u160 u161 u162 u163 u164 u165 u166 u167 u168 u169 u170 u171 u172 u173 u174 u175 u176 u177 u178 u179 u180 u181 u182 u183 u184 u185 u186 u187 u188 u189 u190 u191 u192 u193 u194 u195 u196 u197 u198 u199 u200 u201 u202 u203 u204 u205 u206:Value} :
  Code.wp (Pf fs) (behindN 7 body15) (bodyPost (Pf fs) Try.f15 fun e _=>e=.returned (.bool true)) ⟨#[u0,u1,u2,.pointer (some ⟨g0,0,none⟩),.pointer (some ⟨bx,0,none⟩),.slice mA ms.length mc,.slice lA K.hauls.length lc,u7,u8,u9,u10,u11,u12,u13,u14,u15,u16,u17,u18,u19,u20,u21,u22,u23,u24,u25,u26,u27,u28,u29,u30,u31,u32,u33,u34,u35,u36,u37,u38,u39,u40,u41,u42,u43,u44,u45,u46,u47,u48,u49,u50,u51,u52,u53,u54,u55,u56,u57,u58,u59,u60,u61,u62,u63,u64,u65,u66,u67,u68,u69,u70,u71,u72,u73,u74,u75,u76,u77,u78,u79,u80,u81,u82,u83,u84,u85,u86,u87,u88,u89,u90,u91,u92,u93,u94,u95,u96,u97,u98,u99,u100,u101,u102,u103,u104,u105,u106,u107,u108,u109,u110,u111,u112,u113,u114,u115,u116,u117,u118,u119,u120,u121,u122,u123,u124,u125,u126,u127,u128,u129,u130,u131,u132,u133,u134,u135,u136,u137,u138,u139,u140,u141,u142,u143,u144,u145,u146,u147,u148,u149,u150,u151,u152,u153,u154,u155,u156,u157,u158,u159,u160,u161,u162,u163,u164,u165,u166,u167,u168,u169,u170,u171,u172,u173,u174,u175,u176,u177,u178,u179,u180,u181,u182,u183,u184,u185,u186,u187,u188,u189,u190,u191,u192,u193,u194,u195,u196,u197,u198,u199,u200,u201,u202,u203,u204,u205,u206],[]⟩ wS:=by
 obtain⟨hAQ,hLE⟩:=givenE_zero HG
 obtain⟨e1,e2⟩:=loadedE_zero hLE
 have hml:=S.out.ml
 have hnh:=S.out.kt.nh
 have hn1:=S.out.n.1
 have hn2:=S.out.n.2.2
 have hn3:=S.out.n3
 obtain⟨a0,a1,a2⟩:=S.out.cells (Grown.refl _)
 have HSH:=Lib.hid (fun W A c rows (hd:DishesAt W A rows) (q1:rows.length=K.hauls.length) (q2:∀ l∈rows,l.length=K.goods.length)=>shaped_of (fs:=fs) K gA dA hA gc dc hc A c rows W hd hnh q1 q2)
 have HUS:=Lib.hid (fun W (g:Grown wS W)=>usesAll_any (fs:=fs) K gA dA hA gc dc hc ms mA mc W (S.out.kt.grown g) (S.out.m.grown g) hml hAQ)
 have HE:=Lib.hid (And.intro e1 (fun l hl=>(e2 l hl).1))
 have HUR:=Lib.hid (show (usesL K ms K.hauls.length).length=K.hauls.length∧∀ l∈usesL K ms K.hauls.length,l.length=K.goods.length from ⟨usesL_len _ _ _,fun l hl=>by
  unfold usesL at hl
  obtain⟨h,_,rfl⟩:=List.mem_map.1 hl
  exact usesRow_len _ _ _ _⟩)
 unfold ktV at *
 conv=>arg 2;whnf
 go_upto_region 11 with (go_at_call 31;refine (HSH.out wS lA lc ls HL.out HE.out.1 HE.out.2).mono ?_;rintro e w1 ⟨rfl,g1⟩;have HG1:=Lib.hid g1;clear g1)
 clear a0 a1 a2
 cases hst:(runK K ms ls).stop with
 | some t =>
  obtain⟨h,i,er⟩:=t
  obtain⟨_,_,_,her⟩:=runG_stop hst
  obtain⟨a0,a1,a2⟩:=S.out.cells HG1.out
  have hr:=runs_stop (fs:=fs) K gA dA hA gc dc hc ms mA mc ls lA lc w1 (S.out.kt.grown HG1.out) (S.out.m.grown HG1.out) hml (HL.out.grown HG1.out) (by omega) HG hst
  have hm:=fun W (g:Grown wS W)=>melted_stop (fs:=fs) K gA dA hA gc dc hc ms mA mc ls lA lc W (S.out.kt.grown g) (S.out.m.grown g) hml (HL.out.grown g) (by omega) HG hst
  rw[e1] at hr hm
  unfold ktV at hr hm
  have HRU:=Lib.hid hr
  have HME:=Lib.hid hm
  clear hr hm hst e1 e2 hAQ hLE HG
  rcases her with rfl|rfl
  all_goals
   go_wp2_with (first|(go_at_call 24;refine HRU.out.mono ?_;rintro e w2 ⟨rfl,g2⟩;have HG2:=Lib.hid (HG1.out.trans g2);clear g2;obtain⟨b0,b1,b2⟩:=S.out.cells HG2.out)|(go_at_call 61;refine (HME.out w2 HG2.out).mono ?_;rintro e w3 ⟨rfl,g3⟩;have HG3:=Lib.hid (HG2.out.trans g3);clear g3;obtain⟨c0,c1,c2⟩:=S.out.cells HG3.out)|(go_at_call 34;refine (HUS.out w3 HG3.out).mono ?_;rintro e w4 ⟨uA,uc,rfl,g4,hu4⟩;have HU4:=Lib.hid hu4;have HG4:=Lib.hid (HG3.out.trans g4);clear g4 hu4;obtain⟨d0,d1,d2⟩:=S.out.cells HG4.out)|(go_at_call 31;refine (HSH.out _ uA uc _ HU4.out HUR.out.1 HUR.out.2).mono ?_;rintro e w5 ⟨rfl,g5⟩)|(go_at_call 22;refine (served_any _).mono ?_;rintro e w9 ⟨rfl,g9⟩))
   go_ret
   rfl
 | none =>
  obtain⟨a0,a1,a2⟩:=S.out.cells HG1.out
  obtain⟨hw1,hw2⟩:=runK_well hst
  have hll:(runK K ms ls).left.length=K.hauls.length:=by rw[hw2];simp
  have hlr:∀ l∈(runK K ms ls).left,l.length=K.goods.length:=by
   rw[hw2]
   intro l hl
   obtain⟨h,_,rfl⟩:=List.mem_map.1 hl
   simp[leftRow,dsOf_len]
  have hr:=runs_none (fs:=fs) K gA dA hA gc dc hc ms mA mc ls lA lc w1 (S.out.kt.grown HG1.out) (S.out.m.grown HG1.out) hml (HL.out.grown HG1.out) (by omega) HG hst
  have hm:=fun W (g:Grown wS W)=>melted_ok (fs:=fs) K gA dA hA gc dc hc ms mA mc ls lA lc W (S.out.kt.grown g) (S.out.m.grown g) hml (HL.out.grown g) (by omega) HG hst hn3
  have HLO:=Lib.hid (fun W fA uA eA (g:Grown wS W)=>legs_of (w:=W) (lA:=lA) (fA:=fA) (uA:=uA) (eA:=eA) HG hst hn2 hn1 (HL.out.grown g))
  rw[e1] at hr hm
  rw[hll] at hr
  unfold ktV at hr hm
  have HLL:=Lib.hid (And.intro hll hlr)
  have HRU:=Lib.hid hr
  have HME:=Lib.hid hm
  clear hr hm e1 e2 hAQ hLE hw1 hw2 hll hlr
  go_upto_if 107 with (first|(go_at_call 24;refine HRU.out.mono ?_;rintro e w2 ⟨fA,fc,rfl,g2,hd2⟩;have HF2:=Lib.hid hd2;have HG2:=Lib.hid (HG1.out.trans g2);clear g2 hd2;obtain⟨b0,b1,b2⟩:=S.out.cells HG2.out)|(go_at_call 61;refine (HME.out w2 HG2.out).mono ?_;rintro e w3 ⟨eA,ec,rfl,g3,hm3⟩;have HM3:=Lib.hid hm3;have HF3:=Lib.hid (HF2.out.grown g3);have HG3:=Lib.hid (HG2.out.trans g3);clear g3 hm3;obtain⟨c0,c1,c2⟩:=S.out.cells HG3.out)|(go_at_call 34;refine (HUS.out w3 HG3.out).mono ?_;rintro e w4 ⟨uA,uc,rfl,g4,hu4⟩;have HU4:=Lib.hid hu4;have HM4:=Lib.hid (HM3.out.grown g4);have HF4:=Lib.hid (HF3.out.grown g4);have HG4:=Lib.hid (HG3.out.trans g4);clear g4 hu4;obtain⟨d0,d1,d2⟩:=S.out.cells HG4.out;have tok:=True.intro)|(go_at_call 31;have _t:=tok;clear _t tok;refine (HSH.out w4 uA uc _ HU4.out HUR.out.1 HUR.out.2).mono ?_;rintro e w5 ⟨rfl,g5⟩;have HG5:=Lib.hid g5;clear g5;obtain⟨f0,f1,f2⟩:=S.out.cells (HG4.out.trans HG5.out))|(go_at_call 31;refine (HSH.out w5 fA fc _ (HF4.out.grown HG5.out) HLL.out.1 HLL.out.2).mono ?_;rintro e w6 ⟨rfl,g6⟩;have HG6:=Lib.hid (HG5.out.trans g6);clear g6;obtain⟨h0,h1,h2⟩:=S.out.cells (HG4.out.trans HG6.out)))
  go_cut [2] (fun _ W=>Hid (Grown w6 W))
  case first =>
   go_wp2_with fail
   go_meet
   exact Lib.hid (Grown.refl _)
  case rest =>
  have HGQ:=Lib.hid (HG6.out.trans hcut.out)
  have HGA:=Lib.hid (HG4.out.trans HGQ.out)
  refine (show ∀ (a:Act) (w1:World),Code.wp (Pf fs) (behindN 14 body15) (bodyPost (Pf fs) Try.f15 fun e _=>e=.returned (.bool true)) a w1→_ from by assumption) _ _ ?_
  exact law15c (Lib.hid (S.out.grown HGA.out)) HG hst (Lib.hid (HLO.out wc fA uA eA HGA.out (HF4.out.grown HGQ.out) (HU4.out.grown HGQ.out) (HM4.out.grown HGQ.out))) (Lib.hid (Grown.refl _))
end
end
section
section
variable {fs:Array Func} [LikeS fs]
set_option maxRecDepth 20000 in
set_option maxHeartbeats 8000000 in
theorem law15 (ns:List Int) (A:Option Addr) (c:Nat) (w:World) (hx:Ints w A ns) (hl:ns.length≤9223372036854775807):Calls (Pf fs) 15 #[.slice A ns.length c] w fun e _=>e=.returned (.bool true):=by
 have HB:=Lib.hid (newBag_any (fs:=fs) A c ns w hx.toB hl)
 clear hx
 go_enter LK.func15,Try.ntmps15
 go_wp2_with (go_at_call 17;refine HB.out.mono ?_;rintro e w1 ⟨g,rfl,_,hb1,_⟩;clear HB)
 go_wp2_with (go_at_call 18;refine (kitchenOf_any g 3 12 5 w1 hb1 (by decide) (by decide) (by decide) (by decide) (by decide) (by decide)).mono ?_;rintro e w2 ⟨K,gA,gc,dA,dc,hA,hc,rfl,hK2,hkb2,h1,h2,h3,hcap⟩;have HC:=Lib.hid (dealt_valid h1 h2 h3 (by decide) (by decide) (by decide));have HK2:=Lib.hid hK2;have HB2:=Lib.hid hkb2.bag;have H1:=Lib.hid h1;have H2:=Lib.hid h2;have H3:=Lib.hid h3;have HCAP:=Lib.hid hcap;clear hb1 hK2 hkb2 h1 h2 h3 hcap;unfold ktV)
 have hbx:(w2.alloc (.cells #[.slice gA K.goods.length gc,.slice dA K.dishes.length dc,.slice hA K.hauls.length hc] 29)).heap[w2.heap.size]?=some (.cells #[.slice gA K.goods.length gc,.slice dA K.dishes.length dc,.slice hA K.hauls.length hc] 29 (0,0)):=heap_alloc_new w2 _
 have hS:(w2.alloc (.cells #[.slice gA K.goods.length gc,.slice dA K.dishes.length dc,.slice hA K.hauls.length hc] 29)).cell? ⟨w2.heap.size,0,none⟩=some (.slice gA K.goods.length gc)∧(w2.alloc (.cells #[.slice gA K.goods.length gc,.slice dA K.dishes.length dc,.slice hA K.hauls.length hc] 29)).cell? ⟨w2.heap.size,1,none⟩=some (.slice dA K.dishes.length dc)∧(w2.alloc (.cells #[.slice gA K.goods.length gc,.slice dA K.dishes.length dc,.slice hA K.hauls.length hc] 29)).cell? ⟨w2.heap.size,2,none⟩=some (.slice hA K.hauls.length hc):=⟨za hbx 0,za hbx 1,za hbx 2⟩
 have HBX:=Lib.hid hbx
 have HK3:=Lib.hid (show KtAt (w2.alloc (.cells #[.slice gA K.goods.length gc,.slice dA K.dishes.length dc,.slice hA K.hauls.length hc] 29)) K gA dA hA from HK2.out.grown (Grown.alloc w2 (.cells #[.slice gA K.goods.length gc,.slice dA K.dishes.length dc,.slice hA K.hauls.length hc] 29)))
 have HB3:=Lib.hid (HB2.out.alloc (.cells #[.slice gA K.goods.length gc,.slice dA K.dishes.length dc,.slice hA K.hauls.length hc] 29))
 have hne:=HB2.out.lt
 have hg1:=H1.out.1
 have hg3:=H1.out.2.1
 have hh1:=H3.out.1
 have hh5:=H3.out.2.1
 generalize hw3:(w2.alloc (.cells #[.slice gA K.goods.length gc,.slice dA K.dishes.length dc,.slice hA K.hauls.length hc] 29))=w3 at HBX HK3 HB3 hS
 have HW3:=Lib.hid hw3
 clear hw3 hbx HK2 HB2
 have HHS:=Lib.hid hS
 have key:∀ W,Kb g w3 W→W.cell? ⟨w2.heap.size,0,none⟩=some (.slice gA K.goods.length gc)∧W.cell? ⟨w2.heap.size,1,none⟩=some (.slice dA K.dishes.length dc)∧W.cell? ⟨w2.heap.size,2,none⟩=some (.slice hA K.hauls.length hc):=fun W k=>⟨k.cell HB3.out HHS.out.1 (by simp),k.cell HB3.out HHS.out.2.1 (by simp),k.cell HB3.out HHS.out.2.2 (by simp)⟩
 have KEY:=Lib.hid key
 clear key
 generalize hbxn:w2.heap.size=bx at *
 clear hbxn
 clear HW3 hS
 refine (menuOf_any g K gA dA hA gc dc hc w3 HB3.out (by have:=H2.out.1;omega) (by have:=H2.out.2.1;omega) (by omega)).mono ?_
 rintro e w4 ⟨mA,mc,ms,rfl,hm4,hkb4,hml4,hmt4,hmc4⟩
 have HKB5:=Lib.hid hkb4
 have HMS:=Lib.hid hm4
 have HML:=Lib.hid hml4
 have HMT:=Lib.hid hmt4
 have HMC:=Lib.hid hmc4
 clear hm4 hkb4 hml4 hmt4 hmc4
 go_upto_region 4 with fail
 have hS:=KEY.out w4 HKB5.out
 have HBS:=Lib.hid (HKB5.out.ke.block HBX.out (by omega))
 have HKS:=Lib.hid (HK3.out.kb HKB5.out HB3.out)
 obtain⟨a0,a1,a2⟩:=hS
 have HBGS:=Lib.hid HKB5.out.bag
 clear HKB5 HBX HK3 HB3 HHS KEY
 generalize w4=wS at *
 have hsi:=single_any (fs:=fs) K gA dA hA gc dc hc wS HKS.out
 by_cases hsing:K.dishes.length=1∧1<K.hauls.length
 ·rw[show (decide (K.dishes.length=1)&&decide (1<K.hauls.length))=true by simp[hsing]] at hsi
  have HSI:=Lib.hid hsi
  clear hsi hsing
  go_wp2_with (first|(go_at_call 21;refine HSI.out.mono ?_;rintro e w6 ⟨rfl,g6⟩)|(go_at_call 22;refine (served_any _).mono ?_;rintro e w7 ⟨rfl,g7⟩))
  go_ret
  rfl
 ·rw[show (decide (K.dishes.length=1)&&decide (1<K.hauls.length))=false by simp;omega] at hsi
  have HSI:=Lib.hid hsi
  have HA:=Lib.hid (asked_of HC.out (menuTo_zero HMT.out HML.out H2.out.1 hsing))
  have hml:ms.length≤1000:=by have:=HML.out;omega
  have hne5:bx≠g:=by omega
  have HS:=Lib.hid (show Apart5 wS K ms gA dA hA mA gc dc hc bx from ⟨HKS.out,HMS.out,HBS.out,HC.out,HA.out,hml,⟨hg1,H2.out.1,hh1⟩,hg3,fun d hd=>(H2.out.2.2 d hd).1,fun x hx=>(H3.out.2.2 x hx).len⟩)
  clear hsi hsing
  go_upto_region 6 with (go_at_call 21;refine HSI.out.mono ?_;rintro e w6 ⟨rfl,g6⟩;have HG6:=Lib.hid g6;clear g6)
  clear a0 a1 a2
  have S6:=Lib.hid (HS.out.grown HG6.out)
  have HB6:=Lib.hid (HBGS.out.of_block (HG6.out.same g HBGS.out.lt))
  obtain⟨a0,a1,a2⟩:=S6.out.cells (Grown.refl _)
  cases hnb:noneB K ms with
  | true =>
   have HCH:=Lib.hid (cheapest_bad (fs:=fs) K gA dA hA gc dc hc ms mA mc w6 S6.out.kt S6.out.m hml HA.out hnb)
   unfold ktV at HCH
   go_upto_region 7 with (go_at_call 29;refine HCH.out.mono ?_;rintro e w8 ⟨rfl,g8⟩;have S8:=Lib.hid (S6.out.grown g8);have HB8:=Lib.hid (HB6.out.of_block (g8.same g HB6.out.lt));clear g8)
   clear a0 a1 a2
   go_cut [44] (fun v W=>v=.bool true∧Hid (Kb g w8 W))
   case first =>
    go_wp2_with (go_at_call 58;refine (chance_any g _ _ _ HB8.out (by omega) (by omega)).mono ?_;rintro e w9 ⟨B,rfl,hB9⟩;have HK9:=Lib.hid (Kb.of_bagged HB8.out hB9);clear hB9;cases B)
    all_goals
     go_meet
     exact⟨rfl,HK9⟩
   case rest =>
   obtain⟨rfl,HKC⟩:=hcut
   have HSC:=Lib.hid (S8.out.kb HKC.out HB8.out hne5)
   have HBC:=Lib.hid HKC.out.bag
   go_upto_if 44 with fail
   go_cut [6] (fun v W=>∃ (ls:List (List Int)) (lA:Option Addr) (lc:Nat),v=.slice lA K.hauls.length lc∧Hid (zS K ms ls=0)∧Hid (DishesAt W lA ls)∧Hid (Apart5 W K ms gA dA hA mA gc dc hc bx))
   case first =>
    obtain⟨b0,b1,b2⟩:=HSC.out.cells (Grown.refl _)
    go_wp2_with (go_at_call 20;refine (loadsOf_any g K gA dA hA gc dc hc _ HBC.out HSC.out.kt hg3 (fun x hx=>by have:=(H1.out.2.2 x hx).room;omega) (fun x hx=>(H3.out.2.2 x hx).len)).mono ?_;rintro e w9 ⟨lA,lc,ls,rfl,hl9,hkb9,hll9,hlr9,hlc9⟩;rw[hll9])
    go_meet
    exact⟨ls,lA,lc,rfl,Lib.hid (given_of HA.out hll9 hlr9),Lib.hid hl9,Lib.hid (HSC.out.kb hkb9 HBC.out hne5)⟩
   case rest =>
   obtain⟨ls,lA,lc,rfl,HGI,HLA,HSA⟩:=hcut
   refine (show ∀ (a:Act) (w1:World),Code.wp (Pf fs) (behindN 7 body15) (bodyPost (Pf fs) Try.f15 fun e _=>e=.returned (.bool true)) a w1→_ from by assumption) _ _ ?_
   exact law15b HSA HGI.out HLA
  | false =>
   have HCH:=Lib.hid (cheapest_good (fs:=fs) K gA dA hA gc dc hc ms mA mc w6 S6.out.kt S6.out.m hml HA.out hnb)
   unfold ktV at HCH
   go_upto_region 7 with (go_at_call 29;refine HCH.out.mono ?_;rintro e w8 ⟨M,rfl,g8,hd8⟩;have HD8:=Lib.hid hd8;have S8:=Lib.hid (S6.out.grown g8);have HB8:=Lib.hid (HB6.out.of_block (g8.same g HB6.out.lt));clear g8 hd8)
   clear a0 a1 a2
   go_cut [44] (fun v W=>(∃ B:Bool,v=.bool B)∧Hid (Kb g w8 W))
   case first =>
    go_wp2_with (go_at_call 58;refine (chance_any g _ _ _ HB8.out (by omega) (by omega)).mono ?_;rintro e w9 ⟨B,rfl,hB9⟩;have HK9:=Lib.hid (Kb.of_bagged HB8.out hB9);clear hB9;cases B)
    all_goals
     go_meet
     exact⟨⟨_,rfl⟩,HK9⟩
   case rest =>
   obtain⟨⟨B,rfl⟩,HKC⟩:=hcut
   have HSC:=Lib.hid (S8.out.kb HKC.out HB8.out hne5)
   have HBC:=Lib.hid HKC.out.bag
   go_upto_if 44 with fail
   cases B with
   | true =>
    go_cut [6] (fun v W=>∃ (ls:List (List Int)) (lA:Option Addr) (lc:Nat),v=.slice lA K.hauls.length lc∧Hid (zS K ms ls=0)∧Hid (DishesAt W lA ls)∧Hid (Apart5 W K ms gA dA hA mA gc dc hc bx))
    case first =>
     obtain⟨b0,b1,b2⟩:=HSC.out.cells (Grown.refl _)
     go_wp2_with (go_at_call 20;refine (loadsOf_any g K gA dA hA gc dc hc _ HBC.out HSC.out.kt hg3 (fun x hx=>by have:=(H1.out.2.2 x hx).room;omega) (fun x hx=>(H3.out.2.2 x hx).len)).mono ?_;rintro e w9 ⟨lA,lc,ls,rfl,hl9,hkb9,hll9,hlr9,hlc9⟩;rw[hll9])
     go_meet
     exact⟨ls,lA,lc,rfl,Lib.hid (given_of HA.out hll9 hlr9),Lib.hid hl9,Lib.hid (HSC.out.kb hkb9 HBC.out hne5)⟩
    case rest =>
    obtain⟨ls,lA,lc,rfl,HGI,HLA,HSA⟩:=hcut
    refine (show ∀ (a:Act) (w1:World),Code.wp (Pf fs) (behindN 7 body15) (bodyPost (Pf fs) Try.f15 fun e _=>e=.returned (.bool true)) a w1→_ from by assumption) _ _ ?_
    exact law15b HSA HGI.out HLA
   | false =>
    go_cut [6] (fun v W=>∃ (ls:List (List Int)) (lA:Option Addr) (lc:Nat),v=.slice lA K.hauls.length lc∧Hid (zS K ms ls=0)∧Hid (DishesAt W lA ls)∧Hid (Apart5 W K ms gA dA hA mA gc dc hc bx))
    case first =>
     go_wp2_with fail
     go_meet
     exact⟨_,_,_,rfl,Lib.hid (given_of HA.out (rowsOf_len _ _) (fun l hl=>⟨rowsOf_shape l hl,rows_20 HA.out hnb l hl⟩)),Lib.hid (HD8.out.kb HKC.out HB8.out),HSC⟩
    case rest =>
    obtain⟨ls,lA,lc,rfl,HGI,HLA,HSA⟩:=hcut
    refine (show ∀ (a:Act) (w1:World),Code.wp (Pf fs) (behindN 7 body15) (bodyPost (Pf fs) Try.f15 fun e _=>e=.returned (.bool true)) a w1→_ from by assumption) _ _ ?_
    exact law15b HSA HGI.out HLA
end
end
end Go.Gal
