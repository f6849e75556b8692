/- Plain: the cheapest of the menus so far, and which dishes have been met (GalleyMenu); a row of Booleans. Walks: GalleyMenu, its hauls and dishes (printed by lawmenu.py d). Walks: .. -/
import Derived.Test.YtlgiofglcgbjgaaM41
import Derived.Test.YtlgiofglcgbjgaaM43
namespace Go.Gal
open Go Go.Par Go.Proofs Go.RowKit
section
theorem inf4:(Try.prog.info? 4).map (fun i=>(i.zero,i.size,i.bytes))=some (some (.bool false),1,1):=by kernel_rfl
def BoolsAt (w:World) (mb n:Nat) (f:Nat→Bool):Prop:=∃ arr:Array Value,w.heap[mb]?=some (.cells arr 4 (0,0))∧arr.size=n∧∀ q,q<n→arr[q]?=some (.bool (f q))
theorem BoolsAt.cell {w:World} {mb n q:Nat} {f:Nat→Bool} (h:BoolsAt w mb n f) (hq:q<n):w.cell? ⟨mb,q,none⟩=some (.bool (f q))∧w.frozen? ⟨mb,q,none⟩=false:=by
 obtain⟨arr,h1,h2,h3⟩:=h
 exact⟨(za h1 q).trans (h3 q hq),zm h1 q⟩
theorem BoolsAt.of_block {w w':World} {mb n:Nat} {f:Nat→Bool} (h:BoolsAt w mb n f) (hb:w'.heap[mb]?=w.heap[mb]?):BoolsAt w' mb n f:=by
 obtain⟨arr,h1,h2⟩:=h
 exact⟨arr,hb.trans h1,h2⟩
theorem BoolsAt.lt {w:World} {mb n:Nat} {f:Nat→Bool} (h:BoolsAt w mb n f):mb<w.heap.size:=zg h.choose_spec.1
theorem BoolsAt.grown {w w':World} {mb n:Nat} {f:Nat→Bool} (h:BoolsAt w mb n f) (g:Grown w w'):BoolsAt w' mb n f:=h.of_block (g.same mb h.lt)
theorem BoolsAt.congr {w:World} {mb n:Nat} {f g:Nat→Bool} (h:BoolsAt w mb n f) (e:∀ q,q<n→f q=g q):BoolsAt w mb n g:=by
 obtain⟨arr,h1,h2,h3⟩:=h
 exact⟨arr,h1,h2,fun q hq=>by rw[h3 q hq,e q hq]⟩
theorem BoolsAt.set {w:World} {mb n q:Nat} {f:Nat→Bool} (h:BoolsAt w mb n f) (hq:q<n):BoolsAt (w.setCell ⟨mb,q,none⟩ (.bool true)) mb n (fun j=>if j=q then true else f j):=by
 obtain⟨arr,h1,h2,h3⟩:=h
 refine⟨arr.setIfInBounds q (.bool true),qc h1 _,by simpa using h2,fun j hj=>?_⟩
 simp only
 by_cases e:j=q
 ·subst e
  rw[if_pos rfl,Array.getElem?_setIfInBounds_self_of_lt (by omega)]
 ·rw[if_neg e,Array.getElem?_setIfInBounds_ne (fun q'=>e q'.symm)]
  exact h3 j hj
theorem BoolsAt.made (w:World) (n:Nat):BoolsAt (w.alloc (.cells (madeCells (Value.bool false).cells (n*1)) 4)) w.heap.size n (fun _=>false):=by
 refine⟨_,heap_alloc_new w _,by simp[madeCells],fun q hq=>?_⟩
 rw[Nat.mul_one]
 unfold madeCells
 rw[Array.getElem?_eq_getElem (by simpa using hq)]
 simp[Value.cells,Nat.mod_one]
theorem mem_menus {K:Kt} {xs:List Int} (h1 : 1≤K.dishes.length) (h:xs∈zw K.dishes.length K.hauls.length):xs.length=K.hauls.length∧qm K.dishes.length K.hauls.length xs=0:=by
 rw[allMenus_eq h1] at h
 have hl:=menusTo_len _ h
 refine⟨hl,?_⟩
 unfold qm
 rw[manyE_ok (by omega) (by omega),if_neg (by simp)]
 unfold menusTo at h
 simpa using (List.mem_filter.1 h).2
theorem menus_asked {K:Kt} {xs:List Int} (hC:zP K=0) (h:xs∈zw K.dishes.length K.hauls.length):qn K xs=0:=by
 obtain⟨d1,_⟩:=dishesE_zero (qe hC).2.1
 exact asked_of hC (mem_menus d1 h).2
theorem menus_count {K:Kt} (h1 : 1≤K.dishes.length) (h3:K.dishes.length≤3) (hh:K.hauls.length≤5):(zw K.dishes.length K.hauls.length).length≤243:=by
 rw[allMenus_eq h1]
 exact Nat.le_trans menusTo_count (Nat.le_trans (Nat.pow_le_pow_left h3 _) (Nat.pow_le_pow_right (by decide : 0<3) hh))
def bestAt (K:Kt) (L:List (List Int)) (n:Nat) (b c:Int):Prop:=match bestOf K (L.take n) with
 | none=>b=-1∧c=0
 | some (m,k)=>∃ j:Nat,b=j∧L[j]?=some m∧c=k∧j<n
theorem bestAt_zero (K:Kt) (L:List (List Int)):bestAt K L 0 (-1) 0:=by
 unfold bestAt bestOf
 simp
theorem take_next {L:List (List Int)} {n:Nat} {xs:List Int} (h:L[n]?=some xs):L.take (n+1)=L.take n++[xs]:=by
 rw[List.take_add_one,h]
 rfl
theorem bestAt_no {K:Kt} {L:List (List Int)} {n:Nat} {xs:List Int} {b c:Int} (h:bestAt K L n b c) (hx:L[n]?=some xs) (hn:noneB K xs=true):bestAt K L (n+1) b c:=by
 unfold bestAt at h ⊢
 rw[take_next hx,bestOf_snoc]
 unfold bestStep
 rw[if_pos hn]
 cases hb:bestOf K (L.take n) with
 | none=>rw[hb] at h;exact h
 | some p =>
  rw[hb] at h
  obtain⟨j,h1,h2,h3,h4⟩:=h
  exact⟨j,h1,h2,h3,by omega⟩
theorem bestAt_new {K:Kt} {L:List (List Int)} {n:Nat} {xs:List Int} {b c:Int} (h:bestAt K L n b c) (hx:L[n]?=some xs) (hn:noneB K xs=false) (hlt:b<0∨(qu K xs:Int)<c):bestAt K L (n+1) n (qu K xs):=by
 unfold bestAt at h ⊢
 rw[take_next hx,bestOf_snoc]
 unfold bestStep
 rw[if_neg (by simp[hn])]
 cases hb:bestOf K (L.take n) with
 | none=>exact⟨n,rfl,hx,rfl,by omega⟩
 | some p =>
  obtain⟨m,k⟩:=p
  rw[hb] at h
  obtain⟨j,h1,h2,h3,h4⟩:=h
  simp only
  rw[if_pos (by omega)]
  exact⟨n,rfl,hx,rfl,by omega⟩
theorem bestAt_old {K:Kt} {L:List (List Int)} {n:Nat} {xs:List Int} {b c:Int} (h:bestAt K L n b c) (hx:L[n]?=some xs) (hn:noneB K xs=false) (hb0:¬ b<0) (hlt:¬ (qu K xs:Int)<c):bestAt K L (n+1) b c:=by
 unfold bestAt at h ⊢
 rw[take_next hx,bestOf_snoc]
 unfold bestStep
 rw[if_neg (by simp[hn])]
 cases hb:bestOf K (L.take n) with
 | none=>rw[hb] at h;omega
 | some p =>
  obtain⟨m,k⟩:=p
  rw[hb] at h
  obtain⟨j,h1,h2,h3,h4⟩:=h
  simp only
  rw[if_neg (by omega)]
  exact⟨j,h1,h2,h3,by omega⟩
def metAt (K:Kt) (L:List (List Int)) (q:Nat):Bool:=L.any fun xs=>!noneB K xs&&decide (xs.getD (q / K.dishes.length) 0=((q % K.dishes.length:Nat):Int))
def metIn (K:Kt) (xs:List Int) (h q:Nat):Bool:=decide (q / K.dishes.length<h)&&decide (xs.getD (q / K.dishes.length) 0=((q % K.dishes.length:Nat):Int))
theorem metAt_snoc (K:Kt) (L:List (List Int)) (xs:List Int) (q:Nat):metAt K (L++[xs]) q=(metAt K L q||(!noneB K xs&&decide (xs.getD (q / K.dishes.length) 0=((q % K.dishes.length:Nat):Int)))):=by
 unfold metAt
 rw[List.any_append]
 simp
theorem metAt_no {K:Kt} {L:List (List Int)} {n:Nat} {xs:List Int} (hx:L[n]?=some xs) (hn:noneB K xs=true) (q:Nat):metAt K (L.take (n+1)) q=metAt K (L.take n) q:=by
 rw[take_next hx,metAt_snoc,hn]
 simp
theorem metIn_zero (K:Kt) (xs:List Int) (q:Nat):metIn K xs 0 q=false:=by simp[metIn]
theorem metIn_all {K:Kt} {L:List (List Int)} {n:Nat} {xs:List Int} (hx:L[n]?=some xs) (hn:noneB K xs=false) {q:Nat} (hq:q<K.hauls.length*K.dishes.length):(metAt K (L.take n) q||metIn K xs K.hauls.length q)=metAt K (L.take (n+1)) q:=by
 rw[take_next hx,metAt_snoc,hn]
 unfold metIn
 rw[decide_eq_true (Nat.div_lt_of_lt_mul (by rw[Nat.mul_comm];exact hq))]
 simp
theorem metIn_succ {K:Kt} {xs:List Int} {h d q:Nat} {f:Bool} (hd:d<K.dishes.length) (hx:xs.getD h 0=(d:Int)):(if q=h*K.dishes.length+d then true else (f||metIn K xs h q))=(f||metIn K xs (h+1) q):=by
 have hpos : 0<K.dishes.length:=by omega
 have hdm:=Nat.div_add_mod q K.dishes.length
 have hml:=Nat.mod_lt q hpos
 unfold metIn
 by_cases e:q=h*K.dishes.length+d
 ·rw[if_pos e]
  have e1:q / K.dishes.length=h:=by rw[e,Nat.add_comm,Nat.add_mul_div_right _ _ hpos,Nat.div_eq_of_lt hd,Nat.zero_add]
  have e2:q % K.dishes.length=d:=by rw[e,Nat.add_comm,Nat.add_mul_mod_self_right,Nat.mod_eq_of_lt hd]
  rw[e1,e2,hx]
  simp
 ·rw[if_neg e]
  congr 1
  by_cases e1:q / K.dishes.length=h
  ·have e2:¬ q % K.dishes.length=d:=fun e2=>e (by rw[← e1,← e2,Nat.mul_comm];exact hdm.symm)
   rw[e1,hx]
   have e3:decide ((d:Int)=((q % K.dishes.length:Nat):Int))=false:=decide_eq_false (fun x=>e2 (by omega))
   rw[e3]
   simp
  ·congr 1
   have:(q / K.dishes.length<h)↔(q / K.dishes.length<h+1):=by omega
   simp only[this]
theorem met_served {K:Kt} {h d:Nat} (hd:d<K.dishes.length):metAt K (zw K.dishes.length K.hauls.length) (h*K.dishes.length+d)=servedB K h d:=by
 have hpos : 0<K.dishes.length:=by omega
 unfold metAt servedB
 have e1:(h*K.dishes.length+d) / K.dishes.length=h:=by rw[Nat.add_comm,Nat.add_mul_div_right _ _ hpos,Nat.div_eq_of_lt hd,Nat.zero_add]
 have e2:(h*K.dishes.length+d) % K.dishes.length=d:=by rw[Nat.add_comm,Nat.add_mul_mod_self_right,Nat.mod_eq_of_lt hd]
 rw[e1,e2]
 congr 1
 funext xs
 unfold hitB
 exact Bool.and_comm _ _
structure Menu13 (wS:World) (K:Kt) (gA dA hA:Option Addr) (gc dc hc bx:Nat) (lA:Option Addr):Prop where
 kt:KtAt wS K gA dA hA
 box:wS.heap[bx]?=some (.cells #[.slice gA K.goods.length gc,.slice dA K.dishes.length dc,.slice hA K.hauls.length hc] 29 (0,0))
 valid:zP K=0
 menus:DishesAt wS lA (zw K.dishes.length K.hauls.length)
theorem Menu13.cells {wS W:World} {K:Kt} {gA dA hA:Option Addr} {gc dc hc bx:Nat} {lA:Option Addr} (s:Menu13 wS K gA dA hA gc dc hc bx lA) (g:Grown wS W):W.cell? ⟨bx,0,none⟩=some (.slice gA K.goods.length gc)∧W.cell? ⟨bx,1,none⟩=some (.slice dA K.dishes.length dc)∧W.cell? ⟨bx,2,none⟩=some (.slice hA K.hauls.length hc):=⟨za (zh s.box g) 0,za (zh s.box g) 1,za (zh s.box g) 2⟩
end
section
noncomputable def body13:Code:=Try.f13.body.getD .skip
section
variable {fs:Array Func} [LikeS fs]
set_option maxRecDepth 100000 in
set_option maxHeartbeats 4000000 in
theorem law13d {wS:World} {K:Kt} {gA dA hA lA:Option Addr} {gc dc hc bx lc mb N:Nat} (S:Hid (Menu13 wS K gA dA hA gc dc hc bx lA)) (hN:N=K.hauls.length*K.dishes.length) {wc:World} (HGC:Hid (Grown wS wc)) (HMB:Hid (BoolsAt wc mb N (metAt K (zw K.dishes.length K.hauls.length)))) {u0 u1 u2 u6 u7 u8 u9 u10 u11 u12 u13 u14 u15 u16 u17 u18 u19 u20 u21 u22 u23 u24 u25 u26 u27 u28 u29 u30 u31 u32 u33 u34 u35 u36 u37 u38 u39 u40 u41 u42 u43 u44 u45 u46 u47 u48 u49 u50 u51 u52 u53 u54 u55 u56 u57 u58 u59 u60 u61 u62 u63 u64 u65 u66 u67 u68 u69 u70 u71 u72 u73 u74 u75 u76 u77 u78 u79 u80 u81 u82 u83 u84 u85 u86 u87 u88 u89 u90 u91 u92 u93 u94 u95 u96 u97 u98 u99 u100 u101 u102 u103 u104 u105 u106 u107 u108 u109 u110 u111 u112 u113 u114 u115 u116 u117 u118 u119 u120 u121 u122 u123 u124 u125 u126 u127 u128 u129 u130 u131 u132 u133 u134 u135 u136 u137 u138 u139 u140 u141 u142 u143 u144 u145 u146 u147 u148 u149 u150 u151 u152 u153 u154 u155 u156 u157 u158 u159 u160 u161 u162 u163 u164 u165 u166 u167 u168 u169 u170 u171 u172:Value} :
  Code.wp (Pf fs) (behindN 8 body13) (bodyPost (Pf fs) Try.f13 fun e _=>e=.returned (.bool true)) ⟨#[u0,u1,u2,.pointer (some ⟨bx,0,none⟩),.slice lA (zw K.dishes.length K.hauls.length).length lc,.slice (some ⟨mb,0,none⟩) N N,u6,u7,u8,u9,u10,u11,u12,u13,u14,u15,u16,u17,u18,u19,u20,u21,u22,u23,u24,u25,u26,u27,u28,u29,u30,u31,u32,u33,u34,u35,u36,u37,u38,u39,u40,u41,u42,u43,u44,u45,u46,u47,u48,u49,u50,u51,u52,u53,u54,u55,u56,u57,u58,u59,u60,u61,u62,u63,u64,u65,u66,u67,u68,u69,u70,u71,u72,u73,u74,u75,u76,u77,u78,u79,u80,u81,u82,u83,u84,u85,u86,u87,u88,u89,u90,u91,u92,u93,u94,u95,u96,u97,u98,u99,u100,u101,u102,u103,u104,u105,u106,u107,u108,u109,u110,u111,u112,u113,u114,u115,u116,u117,u118,u119,u120,u121,u122,u123,u124,u125,u126,u127,u128,u129,u130,u131,u132,u133,u134,u135,u136,u137,u138,u139,u140,u141,u142,u143,u144,u145,u146,u147,u148,u149,u150,u151,u152,u153,u154,u155,u156,u157,u158,u159,u160,u161,u162,u163,u164,u165,u166,u167,u168,u169,u170,u171,u172],[]⟩ wc:=by
 obtain⟨c1,c2,c3⟩:=qe S.out.valid
 obtain⟨d1,d2,_⟩:=dishesE_zero c2
 obtain⟨h1,h2,_⟩:=haulsE_zero c3
 have HN:=Lib.hid hN
 clear c1 c2 c3 hN
 conv=>arg 2;whnf
 go_wp2_with fail
 go_loopw [16] (fun i W=>∃ h:Nat,i=.int .i64 h∧h≤K.hauls.length∧Hid (Grown wS W)∧Hid (BoolsAt W mb N (metAt K (zw K.dishes.length K.hauls.length)))) (fun i _=>K.hauls.length-(intOf i).toNat)
 case atStart=>exact⟨0,rfl,Nat.zero_le _,HGC,HMB⟩
 case round =>
  obtain⟨h,rfl,hh,HGW,HBW⟩:=hrel
  clear HGC HMB
  obtain⟨a0,a1,a2⟩:=S.out.cells HGW.out
  by_cases hhl:h<K.hauls.length
  ·have i1:(h:Int)<K.hauls.length:=by omega
   have hsv:=served_ok (fs:=fs) K gA dA hA gc dc hc h wr (S.out.kt.grown HGW.out) S.out.valid hhl
   unfold ktV at hsv
   have HSV:=Lib.hid hsv
   clear hsv
   go_upto_region 25 with (go_at_call 55;refine HSV.out.mono ?_;rintro e w1 ⟨sA,sc,rfl,g1,hs1⟩;have HG1:=Lib.hid (HGW.out.trans g1);have HB1:=Lib.hid (HBW.out.grown g1);have HS1:=Lib.hid hs1;clear g1 hs1)
   clear a0 a1 a2
   go_wp2_with fail
   go_loopw [19,20] (fun v i W=>∃ (d:Nat) (A:Option Addr) (c:Nat),d≤K.dishes.length∧i=.int .i64 d∧v=.slice A (zW K h d).length c∧Hid (L.OwnInts W w1.heap.size A c (zW K h d))∧Hid (Grown w1 W)) (fun _ i _=>K.dishes.length-(intOf i).toNat)
   case atStart=>exact⟨0,none,0,Nat.zero_le _,rfl,rfl,Lib.hid (L.OwnInts.nil _ _),Lib.hid (Grown.refl _)⟩
   case round =>
    obtain⟨d,A,c,hd,rfl,rfl,HO,HGV⟩:=hrel
    obtain⟨a0,a1,a2⟩:=S.out.cells (HG1.out.trans HGV.out)
    by_cases hdl:d<K.dishes.length
    ·have i2:(d:Int)<K.dishes.length:=by omega
     obtain⟨P,hP⟩:∃ P,P=h*K.dishes.length:=⟨_,rfl⟩
     obtain⟨X,hX⟩:∃ X,X=P+d:=⟨_,rfl⟩
     have hPn:P≤15:=by rw[hP];exact Nat.le_trans (Nat.mul_le_mul (show h≤5 by omega) d2) (by decide)
     have hXN:X<N:=by
      rw[hX,hP,HN.out]
      have:=Nat.mul_le_mul_right K.dishes.length hhl
      rw[Nat.succ_mul] at this
      omega
     have hw1:IntKind.i64.wrap ((h:Int)*(K.dishes.length:Int))=(P:Int):=wrap_of (by rw[hP,Int.natCast_mul]) (by omega) (by omega)
     have hw2:IntKind.i64.wrap ((P:Int)+(d:Int))=(X:Int):=wrap_of (by omega) (by omega) (by omega)
     obtain⟨e1,_⟩:=(HB1.out.grown HGV.out).cell hXN
     rw[hX,hP,met_served hdl,← hP,← hX] at e1
     have i3:(X:Int)<N:=by omega
     have hsl:=servedTo_len (K:=K) (haul:=h) d
     cases hsb:servedB K h d with
     | true =>
      rw[hsb] at e1
      have HSB:=Lib.hid (servedTo_yes hsb)
      clear hP hX hPn hXN hsb
      go_wp2_with (at_builtin;refine L.wpl_app_ints rfl (.tmp 160) (.tmp 162) 22 rfl w1.heap.size ((like_under 22).trans Try.underlying22) inf3 A c (zW K h d) rfl (own_grown HO.out (Grown.alloc _ _)) (wr.heap.size+1) (some ⟨wr.heap.size,0,none⟩) 1 [(d:Int)] rfl ints1 (by simp;omega) (by have:=HGV.out.size;simp;omega) ?_;intro A2 c2 w5 hO5 hg5 _;have HO5:=Lib.hid hO5;have HG5:=Lib.hid (show Grown w1 w5 from Grown.by hg5 w1 (HGV.out.trans (Grown.alloc _ _)) fun k hk=>(zT HO.out hk).1);clear hO5 hg5)
      go_roundw
      case rel=>exact⟨d+1,A2,c2,by omega,by go_num,by rw[HSB.out,List.length_append];rfl,by rw[HSB.out];exact HO5,HG5⟩
      case measure=>simp[intOf];omega
     | false =>
      rw[hsb] at e1
      have HSB:=Lib.hid (servedTo_no hsb)
      clear hP hX hPn hXN hsb
      go_wp2_with fail
      go_roundw
      case rel=>exact⟨d+1,A,c,by omega,by go_num,by rw[HSB.out],by rw[HSB.out];exact HO,HGV⟩
      case measure=>simp[intOf];omega
    ·have i2:¬ (d:Int)<K.dishes.length:=by omega
     obtain rfl:d=K.dishes.length:=by omega
     have hsl:=servedTo_len (K:=K) (haul:=h) K.dishes.length
     have heq:=equalInts_any (fs:=fs) sA A sc c (zW K h K.dishes.length) (zW K h K.dishes.length) wr (HS1.out.grown HGV.out) (ints_own HO.out) (by omega) (by omega)
     rw[decide_eq_true rfl] at heq
     have HEQ:=Lib.hid heq
     clear heq
     go_wp2_with (go_at_call 40;refine HEQ.out.mono ?_;rintro e w7 ⟨rfl,q,rfl⟩)
     go_roundw
     case rel=>exact⟨h+1,by go_num,by omega,Lib.hid ((HG1.out.trans HGV.out).drewN _),Lib.hid (HB1.out.grown (HGV.out.drewN _))⟩
     case measure=>simp[intOf];omega
  ·have i1:¬ (h:Int)<K.hauls.length:=by omega
   obtain rfl:h=K.hauls.length:=by omega
   go_wp2_with (go_at_call 22;refine (served_any _).mono ?_;rintro e w9 ⟨rfl,g9⟩)
   go_ret
   rfl
end
end
section
section
variable {fs:Array Func} [LikeS fs]
set_option maxRecDepth 100000 in
set_option maxHeartbeats 4000000 in
theorem law13c {wS:World} {K:Kt} {gA dA hA lA:Option Addr} {gc dc hc bx lc mb N:Nat} {mA:Option Addr} {ml mc:Nat} {bi ci cm er:Int} (S:Hid (Menu13 wS K gA dA hA gc dc hc bx lA)) (hN:N=K.hauls.length*K.dishes.length) {wc:World} (HGC:Hid (Grown wS wc)) (HMB:Hid (BoolsAt wc mb N (metAt K (zw K.dishes.length K.hauls.length)))) (hb:(bi=-1∧er=11∧ml=0)∨(∃ (j:Nat) (m:List Int),bi=j∧(zw K.dishes.length K.hauls.length)[j]?=some m∧ci=cm∧er=0∧ml=m.length∧Ints wc mA m)) {u0 u1 u2 u8 u9 u10 u11 u12 u16 u17 u18 u19 u20 u21 u22 u23 u24 u25 u26 u27 u28 u29 u30 u31 u32 u33 u34 u35 u36 u37 u38 u39 u40 u41 u42 u43 u44 u45 u46 u47 u48 u49 u50 u51 u52 u53 u54 u55 u56 u57 u58 u59 u60 u61 u62 u63 u64 u65 u66 u67 u68 u69 u70 u71 u72 u73 u74 u75 u76 u77 u78 u79 u80 u81 u82 u83 u84 u85 u86 u87 u88 u89 u90 u91 u92 u93 u94 u95 u96 u97 u98 u99 u100 u101 u102 u103 u104 u105 u106 u107 u108 u109 u110 u111 u112 u113 u114 u115 u116 u117 u118 u119 u120 u121 u122 u123 u124 u125 u126 u127 u128 u129 u130 u131 u132 u133 u134 u135 u136 u137 u138 u139 u140 u141 u142 u143 u144 u145 u146 u147 u148 u149 u150 u151 u152 u153 u154 u155 u156 u157 u158 u159 u160 u161 u162 u163 u164 u165 u166 u167 u168 u169 u170 u171 u172:Value} :
  Code.wp (Pf fs) (behindN 7 body13) (bodyPost (Pf fs) Try.f13 fun e _=>e=.returned (.bool true)) ⟨#[u0,u1,u2,.pointer (some ⟨bx,0,none⟩),.slice lA (zw K.dishes.length K.hauls.length).length lc,.slice (some ⟨mb,0,none⟩) N N,.int .i64 bi,.int .i64 ci,u8,u9,u10,u11,u12,.slice mA ml mc,.int .i64 cm,.int .i64 er,u16,u17,u18,u19,u20,u21,u22,u23,u24,u25,u26,u27,u28,u29,u30,u31,u32,u33,u34,u35,u36,u37,u38,u39,u40,u41,u42,u43,u44,u45,u46,u47,u48,u49,u50,u51,u52,u53,u54,u55,u56,u57,u58,u59,u60,u61,u62,u63,u64,u65,u66,u67,u68,u69,u70,u71,u72,u73,u74,u75,u76,u77,u78,u79,u80,u81,u82,u83,u84,u85,u86,u87,u88,u89,u90,u91,u92,u93,u94,u95,u96,u97,u98,u99,u100,u101,u102,u103,u104,u105,u106,u107,u108,u109,u110,u111,u112,u113,u114,u115,u116,u117,u118,u119,u120,u121,u122,u123,u124,u125,u126,u127,u128,u129,u130,u131,u132,u133,u134,u135,u136,u137,u138,u139,u140,u141,u142,u143,u144,u145,u146,u147,u148,u149,u150,u151,u152,u153,u154,u155,u156,u157,u158,u159,u160,u161,u162,u163,u164,u165,u166,u167,u168,u169,u170,u171,u172],[]⟩ wc:=by
 have HN:=Lib.hid hN
 clear hN
 conv=>arg 2;whnf
 rcases hb with ⟨rfl,rfl,rfl⟩|⟨j,m,rfl,hj,rfl,rfl,rfl,hm⟩
 ·go_upto_if 129 with fail
  go_cut [2] (fun _ W=>W=wc)
  case first =>
   go_wp2_with fail
   go_meet
   rfl
  case rest =>
  subst hcut
  refine (show ∀ (a:Act) (w1:World),Code.wp (Pf fs) (behindN 8 body13) (bodyPost (Pf fs) Try.f13 fun e _=>e=.returned (.bool true)) a w1→_ from by assumption) _ _ ?_
  exact law13d S HN.out HGC HMB
 ·obtain⟨d1,d2,_⟩:=dishesE_zero (qe S.out.valid).2.1
  have hh5:=(haulsE_zero (qe S.out.valid).2.2).2.1
  have hml:=(mem_menus d1 (List.mem_of_getElem? hj)).1
  have hjl:j<(zw K.dishes.length K.hauls.length).length:=(List.getElem?_eq_some_iff.1 hj).1
  obtain⟨lb,lo,rfl,xA,xc,e1,e2,_⟩:=S.out.menus j m hj
  have e1:=HGC.out.cell e1
  have heq:=equalInts_any (fs:=fs) mA xA mc xc m m wc hm (e2.grown HGC.out) (by omega) (by omega)
  rw[decide_eq_true rfl] at heq
  have HEQ:=Lib.hid heq
  have i1:(j:Int)<(zw K.dishes.length K.hauls.length).length:=by omega
  have i2:¬ (j:Int)<0:=by omega
  have i3:(0:Int)≤j:=by omega
  have i4:decide ((j:Int)<0)=false:=decide_eq_false i2
  have i5:decide ((0:Int)≤j)=true:=decide_eq_true i3
  clear heq hm e2 hml hj
  go_upto_if 129 with (go_at_call 40;refine HEQ.out.mono ?_;rintro e w7 ⟨rfl,q,rfl⟩)
  go_cut [2] (fun _ W=>Hid (Grown wc W))
  case first =>
   go_wp2_with fail
   go_meet
   exact Lib.hid ((Grown.refl _).drewN _)
  case rest =>
  refine (show ∀ (a:Act) (w1:World),Code.wp (Pf fs) (behindN 8 body13) (bodyPost (Pf fs) Try.f13 fun e _=>e=.returned (.bool true)) a w1→_ from by assumption) _ _ ?_
  exact law13d S HN.out (Lib.hid (HGC.out.trans hcut.out)) (Lib.hid (HMB.out.grown hcut.out))
end
end
section
section
variable {fs:Array Func} [LikeS fs]
set_option maxRecDepth 100000 in
set_option maxHeartbeats 4000000 in
theorem law13b {wS:World} {K:Kt} {gA dA hA lA:Option Addr} {gc dc hc bx lc mb N:Nat} (S:Hid (Menu13 wS K gA dA hA gc dc hc bx lA)) (hN:N=K.hauls.length*K.dishes.length) (hmb:wS.heap.size≤mb) {wc:World} (HGC:Hid (Grown wS wc)) (HMB:Hid (BoolsAt wc mb N (fun _=>false))) {u0 u1 u2 u6 u7 u8 u9 u10 u11 u12 u13 u14 u15 u16 u17 u18 u19 u20 u21 u22 u23 u24 u25 u26 u27 u28 u29 u30 u31 u32 u33 u34 u35 u36 u37 u38 u39 u40 u41 u42 u43 u44 u45 u46 u47 u48 u49 u50 u51 u52 u53 u54 u55 u56 u57 u58 u59 u60 u61 u62 u63 u64 u65 u66 u67 u68 u69 u70 u71 u72 u73 u74 u75 u76 u77 u78 u79 u80 u81 u82 u83 u84 u85 u86 u87 u88 u89 u90 u91 u92 u93 u94 u95 u96 u97 u98 u99 u100 u101 u102 u103 u104 u105 u106 u107 u108 u109 u110 u111 u112 u113 u114 u115 u116 u117 u118 u119 u120 u121 u122 u123 u124 u125 u126 u127 u128 u129 u130 u131 u132 u133 u134 u135 u136 u137 u138 u139 u140 u141 u142 u143 u144 u145 u146 u147 u148 u149 u150 u151 u152 u153 u154 u155 u156 u157 u158 u159 u160 u161 u162 u163 u164 u165 u166 u167 u168 u169 u170 u171 u172:Value} :
  Code.wp (Pf fs) (behindN 4 body13) (bodyPost (Pf fs) Try.f13 fun e _=>e=.returned (.bool true)) ⟨#[u0,u1,u2,.pointer (some ⟨bx,0,none⟩),.slice lA (zw K.dishes.length K.hauls.length).length lc,.slice (some ⟨mb,0,none⟩) N N,u6,u7,u8,u9,u10,u11,u12,u13,u14,u15,u16,u17,u18,u19,u20,u21,u22,u23,u24,u25,u26,u27,u28,u29,u30,u31,u32,u33,u34,u35,u36,u37,u38,u39,u40,u41,u42,u43,u44,u45,u46,u47,u48,u49,u50,u51,u52,u53,u54,u55,u56,u57,u58,u59,u60,u61,u62,u63,u64,u65,u66,u67,u68,u69,u70,u71,u72,u73,u74,u75,u76,u77,u78,u79,u80,u81,u82,u83,u84,u85,u86,u87,u88,u89,u90,u91,u92,u93,u94,u95,u96,u97,u98,u99,u100,u101,u102,u103,u104,u105,u106,u107,u108,u109,u110,u111,u112,u113,u114,u115,u116,u117,u118,u119,u120,u121,u122,u123,u124,u125,u126,u127,u128,u129,u130,u131,u132,u133,u134,u135,u136,u137,u138,u139,u140,u141,u142,u143,u144,u145,u146,u147,u148,u149,u150,u151,u152,u153,u154,u155,u156,u157,u158,u159,u160,u161,u162,u163,u164,u165,u166,u167,u168,u169,u170,u171,u172],[]⟩ wc:=by
 obtain⟨c1,c2,c3⟩:=qe S.out.valid
 obtain⟨d1,d2,_⟩:=dishesE_zero c2
 obtain⟨h1,h2,_⟩:=haulsE_zero c3
 have hcount:=menus_count d1 d2 h2
 have HN:=Lib.hid hN
 have HMB0:=Lib.hid (HMB.out.congr (g:=metAt K ((zw K.dishes.length K.hauls.length).take 0)) fun q _=>by simp[metAt])
 clear c1 c2 c3 hN HMB
 conv=>arg 2;whnf
 go_wp2_with fail
 go_loopw [6,7,8] (fun b c i W=>∃ (n:Nat) (bi ci:Int),i=.int .i64 n∧n≤(zw K.dishes.length K.hauls.length).length∧b=.int .i64 bi∧c=.int .i64 ci∧Hid (bestAt K (zw K.dishes.length K.hauls.length) n bi ci)∧Hid (Grown wS W)∧Hid (BoolsAt W mb N (metAt K ((zw K.dishes.length K.hauls.length).take n)))) (fun _ _ i _=>(zw K.dishes.length K.hauls.length).length-(intOf i).toNat)
 case atStart=>exact⟨0,-1,0,rfl,Nat.zero_le _,rfl,rfl,Lib.hid (bestAt_zero _ _),HGC,HMB0⟩
 case round =>
  obtain⟨n,bi,ci,rfl,hn,rfl,rfl,HBI,HGW,HBW⟩:=hrel
  clear HGC HMB0
  obtain⟨a0,a1,a2⟩:=S.out.cells HGW.out
  by_cases hnl:n<(zw K.dishes.length K.hauls.length).length
  ·have i1:(n:Int)<(zw K.dishes.length K.hauls.length).length:=by omega
   obtain⟨xs,hx⟩:∃ xs,(zw K.dishes.length K.hauls.length)[n]?=some xs:=⟨_,List.getElem?_eq_getElem hnl⟩
   have hmem:=List.mem_of_getElem? hx
   have hxl:=(mem_menus d1 hmem).1
   have hask:=menus_asked S.out.valid hmem
   obtain⟨lb,lo,rfl,xA,xc,e1,e2,_⟩:=S.out.menus n xs hx
   have e1:=HGW.out.cell e1
   rw[hxl] at e1
   have HX:=Lib.hid hx
   have HE1:=Lib.hid e1
   have HE2:=Lib.hid (e2.grown HGW.out)
   clear hx hmem e2
   generalize (zw K.dishes.length K.hauls.length).length=LN at *
   go_upto_region 8 with fail
   cases hno:noneB K xs with
   | true =>
    have hch:=fun W (g:Grown wr W)=>cheapest_bad (fs:=fs) K gA dA hA gc dc hc xs xA xc W (S.out.kt.grown (HGW.out.trans g)) (HE2.out.grown g) (by omega) hask hno
    unfold ktV at hch
    simp only[hxl] at hch
    have HCH:=Lib.hid hch
    clear hch
    go_cut [9,10,11] (fun a b c W=>c=.int .i64 11∧Hid (Grown wr W))
    case first =>
     have hS:wr.drew.cell? ⟨bx,0,none⟩=some (.slice gA K.goods.length gc)∧wr.drew.cell? ⟨bx,1,none⟩=some (.slice dA K.dishes.length dc)∧wr.drew.cell? ⟨bx,2,none⟩=some (.slice hA K.hauls.length hc)∧wr.drew.cell? ⟨lb,lo+n,none⟩=some (.slice xA K.hauls.length xc):=⟨a0,a1,a2,e1⟩
     refine wp_region_L (by kernel_rfl) (fun W_=>W_.cell? ⟨bx,0,none⟩=some (.slice gA K.goods.length gc)∧W_.cell? ⟨bx,1,none⟩=some (.slice dA K.dishes.length dc)∧W_.cell? ⟨bx,2,none⟩=some (.slice hA K.hauls.length hc)∧W_.cell? ⟨lb,lo+n,none⟩=some (.slice xA K.hauls.length xc)) [] ?_
     refine zx 0 ?_ rfl hS ?_ ?_;case refine_2=>(intro w hSw;(try dsimp only at hSw);go_simp;try rfl)
     refine zf 1 ?_ rfl ?_ ?_;case refine_2=>(intro w _;go_simp;try rfl)
     refine zf 2 ?_ rfl ?_ ?_;case refine_2=>(intro w _;go_simp;try rfl)
     refine zf 3 ?_ rfl ?_ ?_;case refine_2=>(intro w _;go_simp;try rfl)
     refine zx 4 ?_ rfl hS ?_ ?_;case refine_2=>(intro w hSw;(try dsimp only at hSw);go_simp;try rfl)
     refine zt (i:=5) rfl (by kernel_rfl) ?_
     intro Kq hKq
     go_simp
     refine (HCH.out wr.drew (show Grown wr wr.drew from (Grown.refl _).drewN 1)).mono ?_
     rintro e w5 ⟨rfl,g5⟩
     have HG5:=Lib.hid ((show Grown wr wr.drew from (Grown.refl _).drewN 1).trans g5)
     have hS:w5.cell? ⟨bx,0,none⟩=some (.slice gA K.goods.length gc)∧w5.cell? ⟨bx,1,none⟩=some (.slice dA K.dishes.length dc)∧w5.cell? ⟨bx,2,none⟩=some (.slice hA K.hauls.length hc)∧w5.cell? ⟨lb,lo+n,none⟩=some (.slice xA K.hauls.length xc):=⟨g5.cell hS.1,g5.cell hS.2.1,g5.cell hS.2.2.1,g5.cell hS.2.2.2⟩
     refine hKq.out _ _ hS (fun _=>?_)
     clear hKq Kq g5
     refine zf 6 ?_ rfl ?_ ?_;case refine_2=>(intro w _;go_simp;try rfl)
     refine zf 7 ?_ rfl ?_ ?_;case refine_2=>(intro w _;go_simp;try rfl)
     refine zf 8 ?_ rfl ?_ ?_;case refine_2=>(intro w _;go_simp;try rfl)
     refine zf 9 ?_ rfl ?_ ?_;case refine_2=>(intro w _;go_simp;try rfl)
     refine zf 10 ?_ rfl ?_ ?_;case refine_2=>(intro w _;go_simp;try rfl)
     refine zf 11 ?_ rfl ?_ ?_;case refine_2=>(intro w _;go_simp;try rfl)
     refine zf 12 ?_ rfl ?_ ?_;case refine_2=>(intro w _;go_simp;try rfl)
     refine zN (by kernel_rfl) ?_
     try simp only[Act.put,List.getElem_toArray,List.getElem_cons_succ,List.getElem_cons_zero,List.setIfInBounds_toArray,List.set_cons_zero,List.set_cons_succ]
     go_wp2_with fail
     go_meet
     exact⟨rfl,HG5⟩
    case rest =>
    obtain⟨rfl,HGX⟩:=hcut
    clear a0 a1 a2 e1
    go_wp2_with fail
    go_roundw
    case rel=>exact⟨n+1,bi,ci,by go_num,by omega,rfl,rfl,Lib.hid (bestAt_no HBI.out HX.out hno),Lib.hid (HGW.out.trans HGX.out),Lib.hid ((HBW.out.grown HGX.out).congr fun q _=>(metAt_no HX.out hno q).symm)⟩
    case measure=>simp[intOf];omega
   | false =>
    have hch:=fun W (g:Grown wr W)=>cheapest_good (fs:=fs) K gA dA hA gc dc hc xs xA xc W (S.out.kt.grown (HGW.out.trans g)) (HE2.out.grown g) (by omega) hask hno
    unfold ktV at hch
    simp only[hxl] at hch
    have HCH:=Lib.hid hch
    clear hch
    go_cut [9,10,11] (fun a b c W=>b=.int .i64 (qu K xs)∧c=.int .i64 0∧Hid (Grown wr W))
    case first =>
     have hS:wr.drew.cell? ⟨bx,0,none⟩=some (.slice gA K.goods.length gc)∧wr.drew.cell? ⟨bx,1,none⟩=some (.slice dA K.dishes.length dc)∧wr.drew.cell? ⟨bx,2,none⟩=some (.slice hA K.hauls.length hc)∧wr.drew.cell? ⟨lb,lo+n,none⟩=some (.slice xA K.hauls.length xc):=⟨a0,a1,a2,e1⟩
     refine wp_region_L (by kernel_rfl) (fun W_=>W_.cell? ⟨bx,0,none⟩=some (.slice gA K.goods.length gc)∧W_.cell? ⟨bx,1,none⟩=some (.slice dA K.dishes.length dc)∧W_.cell? ⟨bx,2,none⟩=some (.slice hA K.hauls.length hc)∧W_.cell? ⟨lb,lo+n,none⟩=some (.slice xA K.hauls.length xc)) [] ?_
     refine zx 0 ?_ rfl hS ?_ ?_;case refine_2=>(intro w hSw;(try dsimp only at hSw);go_simp;try rfl)
     refine zf 1 ?_ rfl ?_ ?_;case refine_2=>(intro w _;go_simp;try rfl)
     refine zf 2 ?_ rfl ?_ ?_;case refine_2=>(intro w _;go_simp;try rfl)
     refine zf 3 ?_ rfl ?_ ?_;case refine_2=>(intro w _;go_simp;try rfl)
     refine zx 4 ?_ rfl hS ?_ ?_;case refine_2=>(intro w hSw;(try dsimp only at hSw);go_simp;try rfl)
     refine zt (i:=5) rfl (by kernel_rfl) ?_
     intro Kq hKq
     go_simp
     refine (HCH.out wr.drew (show Grown wr wr.drew from (Grown.refl _).drewN 1)).mono ?_
     rintro e w5 ⟨M,rfl,g5,_⟩
     have HG5:=Lib.hid ((show Grown wr wr.drew from (Grown.refl _).drewN 1).trans g5)
     have hS:w5.cell? ⟨bx,0,none⟩=some (.slice gA K.goods.length gc)∧w5.cell? ⟨bx,1,none⟩=some (.slice dA K.dishes.length dc)∧w5.cell? ⟨bx,2,none⟩=some (.slice hA K.hauls.length hc)∧w5.cell? ⟨lb,lo+n,none⟩=some (.slice xA K.hauls.length xc):=⟨g5.cell hS.1,g5.cell hS.2.1,g5.cell hS.2.2.1,g5.cell hS.2.2.2⟩
     refine hKq.out _ _ hS (fun _=>?_)
     clear hKq Kq g5
     refine zf 6 ?_ rfl ?_ ?_;case refine_2=>(intro w _;go_simp;try rfl)
     refine zf 7 ?_ rfl ?_ ?_;case refine_2=>(intro w _;go_simp;try rfl)
     refine zf 8 ?_ rfl ?_ ?_;case refine_2=>(intro w _;go_simp;try rfl)
     refine zf 9 ?_ rfl ?_ ?_;case refine_2=>(intro w _;go_simp;try rfl)
     refine zf 10 ?_ rfl ?_ ?_;case refine_2=>(intro w _;go_simp;try rfl)
     refine zf 11 ?_ rfl ?_ ?_;case refine_2=>(intro w _;go_simp;try rfl)
     refine zf 12 ?_ rfl ?_ ?_;case refine_2=>(intro w _;go_simp;try rfl)
     refine zN (by kernel_rfl) ?_
     try simp only[Act.put,List.getElem_toArray,List.getElem_cons_succ,List.getElem_cons_zero,List.setIfInBounds_toArray,List.set_cons_zero,List.set_cons_succ]
     go_wp2_with fail
     go_meet
     exact⟨rfl,rfl,HG5⟩
    case rest =>
    obtain⟨rfl,rfl,HGX⟩:=hcut
    clear a0 a1 a2 e1
    have HGA:=Lib.hid (HGW.out.trans HGX.out)
    have HBA:=Lib.hid (HBW.out.grown HGX.out)
    clear HGX HGW HBW
    generalize wc=w6 at *
    go_upto_region 12 with fail
    go_cut [64] (fun v W=>v=.bool (decide (bi<0∨(qu K xs:Int)<ci))∧W=w6)
    case first =>
     by_cases hb:bi<0
     ·have hb2:decide (bi<0)=true:=decide_eq_true hb
      go_wp2_with fail
      go_meet
      exact⟨by simp[hb],rfl⟩
     ·have hb2:decide (bi<0)=false:=decide_eq_false hb
      by_cases hc:(qu K xs:Int)<ci
      ·go_wp2_with fail
       go_meet
       exact⟨by simp[hc],rfl⟩
      ·have hc2:decide ((qu K xs:Int)<ci)=false:=decide_eq_false hc
       go_wp2_with fail
       go_meet
       exact⟨by simp[hb,hc],rfl⟩
    case rest =>
    obtain⟨rfl,hwc⟩:=hcut
    subst hwc
    go_upto_if 64 with fail
    go_cut [6,7] (fun b c W=>∃ b2 c2:Int,b=.int .i64 b2∧c=.int .i64 c2∧Hid (bestAt K (zw K.dishes.length K.hauls.length) (n+1) b2 c2)∧W=wc)
    case first =>
     by_cases hb:bi<0∨(qu K xs:Int)<ci
     ·rw[decide_eq_true hb]
      go_wp2_with fail
      go_meet
      exact⟨_,_,rfl,rfl,Lib.hid (bestAt_new HBI.out HX.out hno hb),rfl⟩
     ·rw[decide_eq_false hb]
      go_wp2_with fail
      go_meet
      exact⟨_,_,rfl,rfl,Lib.hid (bestAt_old HBI.out HX.out hno (fun q=>hb (.inl q)) (fun q=>hb (.inr q))),rfl⟩
    case rest =>
    obtain⟨b2,c2,rfl,rfl,HBI2,hwc⟩:=hcut
    subst hwc
    generalize wc=w7 at *
    have HB7:=Lib.hid (HBA.out.congr (g:=fun q=>metAt K ((zw K.dishes.length K.hauls.length).take n) q||metIn K xs 0 q) fun q _=>by rw[metIn_zero,Bool.or_false])
    go_wp2_with fail
    go_loopw [12] (fun h W=>∃ q:Nat,h=.int .i64 q∧q≤K.hauls.length∧Hid (Grown wS W)∧Hid (BoolsAt W mb N (fun j=>metAt K ((zw K.dishes.length K.hauls.length).take n) j||metIn K xs q j))) (fun h _=>K.hauls.length-(intOf h).toNat)
    case atStart=>exact⟨0,rfl,Nat.zero_le _,HGA,HB7⟩
    case round =>
     obtain⟨h,rfl,hh,HGV,HBV⟩:=hrel
     clear HGA HB7 HBA
     obtain⟨a0,a1,a2⟩:=S.out.cells HGV.out
     obtain⟨lb',lo',el,xA',xc',e3,e4,_⟩:=S.out.menus n xs HX.out
     cases el
     have e3:=HGV.out.cell e3
     rw[hxl] at e3
     by_cases hhl:h<K.hauls.length
     ·have i2:(h:Int)<K.hauls.length:=by omega
      have hxh:=List.getElem?_eq_getElem (show h<xs.length by omega)
      obtain⟨r1,r2⟩:=rightE_zero (askedE_zero hask).2
      have hxd:=r2 _ (List.mem_of_getElem? hxh)
      obtain⟨d,hd⟩:∃ d:Nat,xs[h]'(by omega)=(d:Int):=⟨(xs[h]'(by omega)).toNat,by omega⟩
      rw[hd] at hxh hxd
      have hgd:xs.getD h 0=(d:Int):=by rw[List.getD_eq_getElem?_getD,hxh];rfl
      have hdl:d<K.dishes.length:=by omega
      obtain⟨xb,xo,rfl,e5⟩:=e4 h _ hxh
      have e5:=HGV.out.cell e5
      obtain⟨P,hP⟩:∃ P,P=h*K.dishes.length:=⟨_,rfl⟩
      obtain⟨X,hX⟩:∃ X,X=P+d:=⟨_,rfl⟩
      have hPn:P≤15:=by rw[hP];exact Nat.le_trans (Nat.mul_le_mul (show h≤5 by omega) d2) (by decide)
      have hXN:X<N:=by
       rw[hX,hP,HN.out]
       have:=Nat.mul_le_mul_right K.dishes.length hhl
       rw[Nat.succ_mul] at this
       omega
      have hw1:IntKind.i64.wrap ((h:Int)*(K.dishes.length:Int))=(P:Int):=wrap_of (by rw[hP,Int.natCast_mul]) (by omega) (by omega)
      have hw2:IntKind.i64.wrap ((P:Int)+(d:Int))=(X:Int):=wrap_of (by omega) (by omega) (by omega)
      have i3:(X:Int)<N:=by omega
      have HST:=Lib.hid (show BoolsAt (wr.setCell ⟨mb,X,none⟩ (.bool true)) mb N (fun j=>metAt K ((zw K.dishes.length K.hauls.length).take n) j||metIn K xs (h+1) j) from (HBV.out.set hXN).congr fun q _=>by simp only[hX,hP];exact metIn_succ hdl hgd)
      have HCE:=Lib.hid (HBV.out.cell hXN)
      have HGS:=Lib.hid (show Grown wS (wr.setCell ⟨mb,X,none⟩ (.bool true)) from ⟨by rw[zB];exact HGV.out.size,fun b hb=>(Below.heap_setCell _ _ _ _ (by simp only;omega)).trans (HGV.out.same b hb),HGV.out.os⟩)
      clear hP hX hPn hXN hxh hxd hd hgd r1 r2 e4
      go_wp2_with fail
      have hS:wr.drew.cell? ⟨bx,1,none⟩=some (.slice dA K.dishes.length dc)∧wr.drew.cell? ⟨lb,lo+n,none⟩=some (.slice (some ⟨xb,xo,none⟩) K.hauls.length xc')∧wr.drew.cell? ⟨xb,xo+h,none⟩=some (.int .i64 (d:Nat)):=⟨a1,e3,e5⟩
      clear a0 a1 a2 e3 e5
      refine wp_region_L (by kernel_rfl) (fun W_=>W_.cell? ⟨bx,1,none⟩=some (.slice dA K.dishes.length dc)∧W_.cell? ⟨lb,lo+n,none⟩=some (.slice (some ⟨xb,xo,none⟩) K.hauls.length xc')∧W_.cell? ⟨xb,xo+h,none⟩=some (.int .i64 (d:Nat))) [15] ?_
      refine zf 0 ?_ rfl ?_ ?_;case refine_2=>(intro w _;go_simp;try rfl)
      refine zf 1 ?_ rfl ?_ ?_;case refine_2=>(intro w _;go_simp;try rfl)
      refine zf 2 ?_ rfl ?_ ?_;case refine_2=>(intro w _;go_simp;try rfl)
      refine zx 3 ?_ rfl hS ?_ ?_;case refine_2=>(intro w hSw;(try dsimp only at hSw);go_simp;try rfl)
      refine zf 6 ?_ rfl ?_ ?_;case refine_2=>(intro w _;go_simp;try rfl)
      refine zf 7 ?_ rfl ?_ ?_;case refine_2=>(intro w _;go_simp;try rfl)
      refine zf 8 ?_ rfl ?_ ?_;case refine_2=>(intro w _;go_simp;try rfl)
      refine zx 9 ?_ rfl hS ?_ ?_;case refine_2=>(intro w hSw;(try dsimp only at hSw);go_simp;try rfl)
      refine zf 10 ?_ rfl ?_ ?_;case refine_2=>(intro w _;go_simp;try rfl)
      refine zf 11 ?_ rfl ?_ ?_;case refine_2=>(intro w _;go_simp;try rfl)
      refine zx 12 ?_ rfl hS ?_ ?_;case refine_2=>(intro w hSw;(try dsimp only at hSw);go_simp;try rfl)
      refine zt (i:=4) rfl (by kernel_rfl) ?_
      intro Kq hKq
      go_simp
      refine hKq.out _ _ hS (fun _=>?_)
      clear hKq Kq
      refine zf 5 ?_ rfl ?_ ?_;case refine_2=>(intro w _;go_simp;try rfl)
      refine zf 13 ?_ rfl ?_ ?_;case refine_2=>(intro w _;go_simp;try rfl)
      refine zf 14 ?_ rfl ?_ ?_;case refine_2=>(intro w _;go_simp;try rfl)
      obtain⟨f1,f2⟩:=HCE.out
      refine wpAnyL_late (i:=15) rfl (by kernel_rfl) (by rfl) ?_
      intro Kq hKq
      go_simp
      refine hKq.out _ _ ?_
      clear hKq Kq
      refine zN (by kernel_rfl) ?_
      try simp only[Act.put,List.getElem_toArray,List.getElem_cons_succ,List.getElem_cons_zero,List.setIfInBounds_toArray,List.set_cons_zero,List.set_cons_succ]
      go_wp2_with fail
      go_roundw
      case rel=>exact⟨h+1,by go_num,by omega,Lib.hid (HGS.out.drewN 1),Lib.hid (HST.out.of_block rfl)⟩
      case measure=>simp[intOf];omega
     ·have i2:¬ (h:Int)<K.hauls.length:=by omega
      obtain rfl:h=K.hauls.length:=by omega
      go_wp2_with fail
      go_roundw
      case rel=>exact⟨n+1,b2,c2,by go_num,by omega,rfl,rfl,HBI2,HGV,Lib.hid (HBV.out.congr fun q hq=>metIn_all HX.out hno (by rw[← HN.out];exact hq))⟩
      case measure=>simp[intOf];omega
  ·have i1:¬ (n:Int)<(zw K.dishes.length K.hauls.length).length:=by omega
   obtain rfl:n=(zw K.dishes.length K.hauls.length).length:=by omega
   have hbi:=HBI.out
   unfold bestAt at hbi
   rw[List.take_length] at hbi
   have HBE:=Lib.hid (show BoolsAt wr mb N (metAt K (zw K.dishes.length K.hauls.length)) by have:=HBW.out;rw[List.take_length] at this;exact this)
   have hmn:=menu_any (fs:=fs) K gA dA hA gc dc hc wr (S.out.kt.grown HGW.out) S.out.valid
   unfold ktV at hmn
   go_upto_region 18 with fail
   cases hmo:menuOf K with
   | none =>
    rw[show bestOf K (zw K.dishes.length K.hauls.length)=none from hmo] at hbi
    simp only at hbi
    have HMN:Hid (Calls (Pf fs) 53 #[.agg #[.slice gA K.goods.length gc,.slice dA K.dishes.length dc,.slice hA K.hauls.length hc]] wr fun e w'=>e=.returned (.tuple #[.slice none 0 0,.int .i64 0,.int .i64 11])∧Grown wr w'):=hmn.mono fun e w' ⟨v,e1,g,h⟩=>by
     rcases h with ⟨_,rfl⟩|⟨m,c,A,cap,h,_⟩
     ·exact⟨e1,g⟩
     ·rw[hmo] at h;cases h
    have HBX:=Lib.hid hbi
    clear hmn hbi
    go_cut [13,14,15] (fun a b c W=>∃ (mA:Option Addr) (ml mc:Nat) (cm er:Int),a=.slice mA ml mc∧b=.int .i64 cm∧c=.int .i64 er∧Hid (Grown wr W)∧Hid ((bi=-1∧er=11∧ml=0)∨(∃ (j:Nat) (m:List Int),bi=j∧(zw K.dishes.length K.hauls.length)[j]?=some m∧ci=cm∧er=0∧ml=m.length∧Ints W mA m)))
    case first =>
     go_wp2_with (go_at_call 53;refine HMN.out.mono ?_;rintro e w8 ⟨rfl,g8⟩)
     go_meet
     exact⟨none,0,0,0,11,rfl,rfl,rfl,Lib.hid g8,Lib.hid (.inl ⟨HBX.out.1,rfl,rfl⟩)⟩
    case rest =>
    obtain⟨mA,ml,mc,cm,er,rfl,rfl,rfl,HGX,HB⟩:=hcut
    refine (show ∀ (a:Act) (w1:World),Code.wp (Pf fs) (behindN 7 body13) (bodyPost (Pf fs) Try.f13 fun e _=>e=.returned (.bool true)) a w1→_ from by assumption) _ _ ?_
    exact law13c S HN.out (Lib.hid (HGW.out.trans HGX.out)) (Lib.hid (HBE.out.grown HGX.out)) HB.out
   | some p =>
    obtain⟨m,cm⟩:=p
    rw[show bestOf K (zw K.dishes.length K.hauls.length)=some (m,cm) from hmo] at hbi
    simp only at hbi
    have HMN:Hid (Calls (Pf fs) 53 #[.agg #[.slice gA K.goods.length gc,.slice dA K.dishes.length dc,.slice hA K.hauls.length hc]] wr fun e w'=>∃ A cap,e=.returned (.tuple #[.slice A m.length cap,.int .i64 cm,.int .i64 0])∧Grown wr w'∧Ints w' A m):=hmn.mono fun e w' ⟨v,e1,g,h⟩=>by
     rcases h with ⟨h,_⟩|⟨m',c',A,cap,h,rfl,hi⟩
     ·rw[hmo] at h;cases h
     ·rw[hmo] at h
      cases h
      exact⟨A,cap,e1,g,hi⟩
    have HBX:=Lib.hid hbi
    clear hmn hbi
    go_cut [13,14,15] (fun a b c W=>∃ (mA:Option Addr) (ml mc:Nat) (cm er:Int),a=.slice mA ml mc∧b=.int .i64 cm∧c=.int .i64 er∧Hid (Grown wr W)∧Hid ((bi=-1∧er=11∧ml=0)∨(∃ (j:Nat) (m:List Int),bi=j∧(zw K.dishes.length K.hauls.length)[j]?=some m∧ci=cm∧er=0∧ml=m.length∧Ints W mA m)))
    case first =>
     go_wp2_with (go_at_call 53;refine HMN.out.mono ?_;rintro e w8 ⟨mA,cap,rfl,g8,hi8⟩)
     go_meet
     exact⟨mA,m.length,cap,cm,0,rfl,rfl,rfl,Lib.hid g8,Lib.hid (.inr (by obtain⟨j,q1,q2,q3,_⟩:=HBX.out;exact⟨j,m,q1,q2,q3,rfl,rfl,hi8⟩))⟩
    case rest =>
    obtain⟨mA,ml,mc,cm,er,rfl,rfl,rfl,HGX,HB⟩:=hcut
    refine (show ∀ (a:Act) (w1:World),Code.wp (Pf fs) (behindN 7 body13) (bodyPost (Pf fs) Try.f13 fun e _=>e=.returned (.bool true)) a w1→_ from by assumption) _ _ ?_
    exact law13c S HN.out (Lib.hid (HGW.out.trans HGX.out)) (Lib.hid (HBE.out.grown HGX.out)) HB.out
end
end
end Go.Gal
