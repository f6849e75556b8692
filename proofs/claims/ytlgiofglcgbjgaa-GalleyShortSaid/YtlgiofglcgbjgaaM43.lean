/- Walks: GalleyShort, its last part (printed by lawshort.py c). Walks: GalleyShort, its middle part (printed by lawshort.py b). Walks: GalleyShort (printed by lawshort.py a). -/
import Derived.Test.YtlgiofglcgbjgaaM42
section
namespace Go.Gal
open Go Go.Par Go.Proofs Go.RowKit
noncomputable def body3:Code:=Try.f3.body.getD .skip
structure Short3 (wS:World) (K:Kt) (ms:List Int) (ls:List (List Int)) (gb go gc db dof dc hb ho hc mb mo mc lb lo lc bx:Nat):Prop where
 kt:KtAt wS K (some ⟨gb,go,none⟩) (some ⟨db,dof,none⟩) (some ⟨hb,ho,none⟩)
 m:Ints wS (some ⟨mb,mo,none⟩) ms
 l:DishesAt wS (some ⟨lb,lo,none⟩) ls
 box:wS.heap[bx]?=some (.cells #[.slice (some ⟨gb,go,none⟩) K.goods.length gc,.slice (some ⟨db,dof,none⟩) K.dishes.length dc,.slice (some ⟨hb,ho,none⟩) K.hauls.length hc] 29 (0,0))
 cap:K.hauls.length≤hc∧ms.length≤mc∧ls.length≤lc
 len:ms.length=K.hauls.length∧ls.length=K.hauls.length
 dlen:∀ d∈K.dishes,d.length=K.goods.length
 plen:∀ x∈K.hauls,x.prices.length≤1000
def ShortC (wS:World) (K:Kt) (gb go hb ho db dof mb mo lb lo haul good room res mel st hours covers d ned X nb no nc rb ro rc:Nat):Prop:=∀ W,Grown wS W→(W.cell? ⟨gb,go+good*4,none⟩=some (.int .i64 room)∧W.cell? ⟨gb,go+good*4+1,none⟩=some (.int .i64 res)∧W.cell? ⟨gb,go+good*4+2,none⟩=some (.int .i64 mel)∧W.cell? ⟨gb,go+good*4+3,none⟩=some (.int .i64 st))∧(W.cell? ⟨hb,ho+haul*3,none⟩=some (.int .i64 hours)∧W.cell? ⟨hb,ho+haul*3+1,none⟩=some (.int .i64 covers))∧(W.cell? ⟨db,dof+d,none⟩=some (.slice (some ⟨nb,no,none⟩) K.goods.length nc)∧W.cell? ⟨nb,no+good,none⟩=some (.int .i64 ned))∧W.cell? ⟨mb,mo+haul,none⟩=some (.int .i64 d)∧W.cell? ⟨lb,lo+haul,none⟩=some (.slice (some ⟨rb,ro,none⟩) K.goods.length rc)∧W.cell? ⟨rb,ro+good,none⟩=some (.int .i64 X)
theorem Short3.cells {wS:World} {K:Kt} {ms:List Int} {ls:List (List Int)} {gb go gc db dof dc hb ho hc mb mo mc lb lo lc bx:Nat} (s:Short3 wS K ms ls gb go gc db dof dc hb ho hc mb mo mc lb lo lc bx) {W:World} (g:Grown wS W):W.cell? ⟨bx,0,none⟩=some (.slice (some ⟨gb,go,none⟩) K.goods.length gc)∧W.cell? ⟨bx,1,none⟩=some (.slice (some ⟨db,dof,none⟩) K.dishes.length dc)∧W.cell? ⟨bx,2,none⟩=some (.slice (some ⟨hb,ho,none⟩) K.hauls.length hc):=⟨blk_cell (blk_grown s.box g) 0,blk_cell (blk_grown s.box g) 1,blk_cell (blk_grown s.box g) 2⟩
theorem Short3.known {wS:World} {K:Kt} {ms:List Int} {ls:List (List Int)} {gb go gc db dof dc hb ho hc mb mo mc lb lo lc bx haul good room res mel st hours covers d ned N X:Nat} {l ds:List Int} (s:Short3 wS K ms ls gb go gc db dof dc hb ho hc mb mo mc lb lo lc bx) (n:ShortN K ms ls haul good room res mel st hours covers d ned N X l ds) :
  ∃ nb no nc rb ro rc,ShortC wS K gb go hb ho db dof mb mo lb lo haul good room res mel st hours covers d ned X nb no nc rb ro rc:=by
 obtain⟨gb',go',e,x1,x2,x3,x4⟩:=s.kt.goods good _ n.gd
 cases e
 obtain⟨pr,hpr⟩:=n.hl
 obtain⟨hb',ho',e,pA,pc,y1,y2,_⟩:=s.kt.hauls haul _ hpr
 cases e
 obtain⟨db',do',e,nA,nc,z1,z0,_⟩:=s.kt.dishes d _ n.dish
 cases e
 obtain⟨nb,no,rfl,z2⟩:=z0 good _ n.need
 obtain⟨mb',mo',e,m1⟩:=s.m haul _ n.menu
 cases e
 obtain⟨lb',lo',e,rA,rc,l1,l0,_⟩:=s.l haul _ n.load
 cases e
 obtain⟨rb,ro,rfl,l2⟩:=l0 good _ n.ld
 rw[n.dlen] at z1
 rw[n.llen] at l1
 simp only at x1 x2 x3 x4 y1 y2
 exact⟨nb,no,nc,rb,ro,rc,fun W g=>⟨⟨g.cell x1,g.cell x2,g.cell x3,g.cell x4⟩,⟨g.cell y1,g.cell y2⟩,⟨g.cell z1,g.cell z2⟩,g.cell m1,g.cell l1,g.cell l2⟩⟩
def spareJ (K:Kt) (g m j:Nat):Kt:=⟨K.goods.set g { gdAt K.goods g with reserve:=0 },spareTo K.dishes g j,K.hauls.take m⟩
theorem spareJ_all (K:Kt) (g m:Nat):spareJ K g m K.dishes.length=spareK K g m:=by unfold spareJ spareK;rw[spareTo_all]
section
variable {fs:Array Func} [LikeS fs] {wS:World} {K:Kt} {ms:List Int} {ls:List (List Int)} {gb go gc db dof dc hb ho hc mb mo mc lb lo lc bx haul good room res mel st hours covers d ned N X nb no nc rb ro rc g:Nat} {l ds:List Int}
theorem copy_first (m:Nat) (hm:m≤K.hauls.length) (w:World) (gA dA hA:Option Addr) (k:KtAt w K gA dA hA) :
  Calls (Pf fs) 26 #[.agg #[.slice gA K.goods.length gc,.slice dA K.dishes.length dc,.slice hA m hc]] w fun e w'=>∃ gA gc dA dc hA hc,e=.returned (.agg #[.slice gA K.goods.length gc,.slice dA K.dishes.length dc,.slice hA m hc])∧KOwn w' w.heap.size (firstK K m) gA gc dA dc hA hc∧Grown w w':=by
 have e1:(firstK K m).hauls.length=m:=by simp[firstK];omega
 have h:=copyKitchen_any (fs:=fs) (firstK K m) gA dA hA gc dc hc w (k.first m)
 unfold ktV at h
 rw[e1] at h
 exact h
theorem out_last (n:ShortN K ms ls haul good room res mel st hours covers d ned N X l ds) (w:World) (gA dA hA mA lA:Option Addr) (mc lc:Nat) (k:KtAt w (spareK K good (haul+1)) gA dA hA) (hm:Ints w mA ms) (hl:DishesAt w lA ls) (h1:ms.length=K.hauls.length∧ls.length=K.hauls.length) (h2:K.hauls.length≤1000) :
  Calls (Pf fs) 23 #[.agg #[.slice gA K.goods.length gc,.slice dA K.dishes.length dc,.slice hA (haul+1) hc],.slice mA (haul+1) mc,.slice lA (haul+1) lc] w fun e w'=>∃ a b j:Int,e=.returned (.tuple #[.int .i64 a,.int .i64 b,.int .i64 j])∧Grown w w'∧((a=0∧j=9)∨(a=-1∧j=0)∨(a=haul∧j=0∧(good:Int)<b)):=by
 have hh:=n.hh
 have e1:(spareK K good (haul+1)).hauls.length=haul+1:=by simp[spareK];omega
 have e2:(ms.take (haul+1)).length=haul+1:=by simp;omega
 have e3:(ls.take (haul+1)).length=haul+1:=by simp;omega
 have e4:(spareK K good (haul+1)).goods.length=K.goods.length:=by simp[spareK]
 have e5:(spareK K good (haul+1)).dishes.length=K.dishes.length:=by simp[spareK]
 have h:=out_spare (fs:=fs) (spareK K good (haul+1)) gA dA hA gc dc hc (ms.take (haul+1)) mA mc (ls.take (haul+1)) lA lc w k (hm.take _) (by omega) (hl.take _) (by omega) n.spare (haul:=haul) (good:=good) fun h i er hs=>by
  rcases n.last h i er hs with q|⟨q1,q2,q3,_⟩
  ·exact .inl q
  ·exact .inr ⟨q1,q2,q3⟩
 unfold ktV at h
 rw[e1,e2,e3,e4,e5] at h
 exact h
end
section
variable {fs:Array Func} [LikeS fs] {wS:World} {K:Kt} {ms:List Int} {ls:List (List Int)} {gb go gc db dof dc hb ho hc mb mo mc lb lo lc bx haul good room res mel st hours covers d ned N X nb no nc rb ro rc g:Nat} {l ds:List Int}
set_option maxRecDepth 100000 in
set_option maxHeartbeats 8000000 in
theorem law3c (S:Hid (Short3 wS K ms ls gb go gc db dof dc hb ho hc mb mo mc lb lo lc bx)) (SN:Hid (ShortN K ms ls haul good room res mel st hours covers d ned N X l ds)) (CELLS:Hid (ShortC wS K gb go hb ho db dof mb mo lb lo haul good room res mel st hours covers d ned X nb no nc rb ro rc)) {Z:Nat} (hZ:Z=N+X-melted hours mel (N+X)) {wc:World} (HGC:Hid (Grown wS wc)) {u0 u1 u2 u13 u14 u15 u16 u17 u18 u19 u20 u21 u22 u23 u24 u25 u26 u27 u28 u29 u30 u31 u32 u33 u34 u35 u36 u37 u38 u39 u40 u41 u42 u43 u44 u45 u46 u47 u48 u49 u50 u51 u52 u53 u54 u55 u56 u57 u58 u59 u60 u61 u62 u63 u64 u65 u66 u67 u68 u69 u70 u71 u72 u73 u74 u75 u76 u77 u78 u79 u80 u81 u82 u83 u84 u85 u86 u87 u88 u89 u90 u91 u92 u93 u94 u95 u96 u97 u98 u99 u100 u101 u102 u103 u104 u105 u106 u107 u108 u109 u110 u111 u112 u113 u114 u115 u116 u117 u118 u119 u120 u121 u122 u123 u124 u125 u126 u127 u128 u129 u130 u131 u132 u133 u134 u135 u136 u137 u138 u139 u140 u141 u142 u143 u144 u145 u146 u147 u148 u149 u150 u151 u152 u153 u154 u155 u156 u157 u158 u159 u160 u161 u162 u163 u164 u165 u166 u167 u168 u169 u170 u171 u172 u173 u174 u175 u176 u177 u178 u179 u180 u181 u182 u183 u184 u185 u186 u187 u188 u189 u190 u191 u192 u193 u194 u195 u196 u197 u198 u199 u200 u201 u202 u203 u204 u205 u206 u207 u208 u209 u210 u211 u212 u213 u214 u215 u216 u217 u218 u219 u220 u221 u222 u223 u224 u225 u226 u227 u228 u229 u230 u231 u232 u233 u234 u235 u236 u237 u238 u239 u240 u241 u242 u243 u244 u245 u246 u247 u248 u249 u250 u251 u252 u253 u254 u255 u256 u257 u258 u259 u260 u261 u262 u263 u264 u265 u266 u267 u268 u269 u270 u271 u272 u273 u274 u275 u276 u277 u278 u279 u280 u281 u282:Value} :
  Code.wp (Pf fs) (behindN 14 body3) (bodyPost (Pf fs) Try.f3 fun e _=>e=.returned (.bool true)) ⟨#[u0,u1,u2,.pointer (some ⟨g,0,none⟩),.pointer (some ⟨bx,0,none⟩),.slice (some ⟨mb,mo,none⟩) ms.length mc,.slice (some ⟨lb,lo,none⟩) ls.length lc,.int .i64 haul,.int .i64 good,.int .i64 0,.slice none 0 0,.int .i64 11,.int .i64 Z,u13,u14,u15,u16,u17,u18,u19,u20,u21,u22,u23,u24,u25,u26,u27,u28,u29,u30,u31,u32,u33,u34,u35,u36,u37,u38,u39,u40,u41,u42,u43,u44,u45,u46,u47,u48,u49,u50,u51,u52,u53,u54,u55,u56,u57,u58,u59,u60,u61,u62,u63,u64,u65,u66,u67,u68,u69,u70,u71,u72,u73,u74,u75,u76,u77,u78,u79,u80,u81,u82,u83,u84,u85,u86,u87,u88,u89,u90,u91,u92,u93,u94,u95,u96,u97,u98,u99,u100,u101,u102,u103,u104,u105,u106,u107,u108,u109,u110,u111,u112,u113,u114,u115,u116,u117,u118,u119,u120,u121,u122,u123,u124,u125,u126,u127,u128,u129,u130,u131,u132,u133,u134,u135,u136,u137,u138,u139,u140,u141,u142,u143,u144,u145,u146,u147,u148,u149,u150,u151,u152,u153,u154,u155,u156,u157,u158,u159,u160,u161,u162,u163,u164,u165,u166,u167,u168,u169,u170,u171,u172,u173,u174,u175,u176,u177,u178,u179,u180,u181,u182,u183,u184,u185,u186,u187,u188,u189,u190,u191,u192,u193,u194,u195,u196,u197,u198,u199,u200,u201,u202,u203,u204,u205,u206,u207,u208,u209,u210,u211,u212,u213,u214,u215,u216,u217,u218,u219,u220,u221,u222,u223,u224,u225,u226,u227,u228,u229,u230,u231,u232,u233,u234,u235,u236,u237,u238,u239,u240,u241,u242,u243,u244,u245,u246,u247,u248,u249,u250,u251,u252,u253,u254,u255,u256,u257,u258,u259,u260,u261,u262,u263,u264,u265,u266,u267,u268,u269,u270,u271,u272,u273,u274,u275,u276,u277,u278,u279,u280,u281,u282],[]⟩ wc:=by
 obtain⟨bd1,bd2,bd3,bd4,bd5,bd6,bd7,bd8,bd9⟩:=SN.out.bds
 have s1:=SN.out.hh
 have s2:=SN.out.hg
 have i7:(haul:Int)<K.hauls.length:=by omega
 have i8:(good:Int)<K.goods.length:=by omega
 have i9:(haul:Int)<ls.length:=by have:=S.out.len;omega
 have i10:(haul:Int)<ms.length:=by have:=S.out.len;omega
 have i11:(d:Int)<K.dishes.length:=by have:=SN.out.hd;omega
 obtain⟨C,hC⟩:∃ C,C=covers*ned:=⟨_,rfl⟩
 have hmul:IntKind.i64.wrap ((covers:Int)*ned)=(C:Int):=by
  have:covers*ned≤9*3:=Nat.mul_le_mul (by omega) (by omega)
  exact wrap_of (by rw[hC];exact Int.natCast_mul _ _) (by omega) (by omega)
 have HMUL:=Lib.hid hmul
 clear hmul
 obtain⟨V,hV⟩:∃ V:Int,V=(Z:Int)-C:=⟨_,rfl⟩
 have hsub:IntKind.i64.wrap ((Z:Int)-C)=V:=by
  have:covers*ned≤9*3:=Nat.mul_le_mul (by omega) (by omega)
  have:Z≤N+X:=by rw[hZ];omega
  exact wrap_of hV (by omega) (by omega)
 have HSUB:=Lib.hid hsub
 clear hsub
 have hlt:V<res:=by
  have:=SN.out.short
  rw[← hZ,← hC] at this
  omega
 have HLT:=Lib.hid hlt
 have HCOPY:=Lib.hid (fun W (g:Grown wS W)=>copy_first (fs:=fs) (gc:=gc) (dc:=dc) (hc:=hc) (haul+1) (by omega) W _ _ _ (S.out.kt.grown g))
 have HFIRST:=Lib.hid (fun W=>first_any (fs:=fs) K (some ⟨gb,go,none⟩) (some ⟨db,dof,none⟩) (some ⟨hb,ho,none⟩) gc dc hc ms.length (some ⟨mb,mo,none⟩) mc ls.length (some ⟨lb,lo,none⟩) lc (haul+1) W (by omega) S.out.cap.1 (by have:=S.out.cap.2.1;have:=S.out.len;omega) (by have:=S.out.cap.2.2;have:=S.out.len;omega))
 have hinc:IntKind.i64.wrap ((haul:Int)+1)=((haul+1:Nat):Int):=wrap_of (by omega) (by have:=S.out.kt.nh;omega) (by have:=S.out.kt.nh;omega)
 generalize hM:haul+1=M at HCOPY HFIRST hinc
 have HM:=Lib.hid hM
 obtain⟨⟨x1,x2,x3,x4⟩,⟨y1,y2⟩,⟨z1,z2⟩,m1,l1,l2⟩:=CELLS.out wc HGC.out
 obtain⟨c0,c1,c2⟩:=S.out.cells HGC.out
 have hmul:=HMUL.out
 have hsub:=HSUB.out
 clear hC hV hZ hlt hM bd1 bd2 bd3 bd4 bd5 bd6 bd7 bd8 bd9
 conv=>arg 2;whnf
 go_upto_region 25 with fail
 go_quiet (fail)
 go_upto_region 26 with fail
 replace HGC:=Lib.hid (HGC.out.trans ((Grown.refl _).drewN nq))
 generalize wc.drewN nq=wd at HGC ⊢
 clear x1 x2 x3 x4 y1 y2 z1 z2 m1 l1 l2 c0 c1 c2 hmul hsub HMUL HSUB
 obtain⟨c0,c1,c2⟩:=S.out.cells HGC.out
 go_upto_region 27 with (go_at_call 25;refine (HFIRST.out _).mono ?_;rintro e w9 ⟨rfl,g9⟩;have HG9:=Lib.hid (HGC.out.trans g9);clear g9)
 have hbx:(w9.alloc (.cells #[.slice (some ⟨gb,go,none⟩) K.goods.length gc,.slice (some ⟨db,dof,none⟩) K.dishes.length dc,.slice (some ⟨hb,ho,none⟩) M hc] 29)).heap[w9.heap.size]?=some (.cells #[.slice (some ⟨gb,go,none⟩) K.goods.length gc,.slice (some ⟨db,dof,none⟩) K.dishes.length dc,.slice (some ⟨hb,ho,none⟩) M hc] 29 (0,0)):=heap_alloc_new w9 _
 have HGA:=Lib.hid (HG9.out.trans (Grown.alloc w9 (.cells #[.slice (some ⟨gb,go,none⟩) K.goods.length gc,.slice (some ⟨db,dof,none⟩) K.dishes.length dc,.slice (some ⟨hb,ho,none⟩) M hc] 29)))
 have hB9:wS.heap.size≤w9.heap.size:=HG9.out.size
 have HB9:=Lib.hid hB9
 have hz9:(w9.alloc (.cells #[.slice (some ⟨gb,go,none⟩) K.goods.length gc,.slice (some ⟨db,dof,none⟩) K.dishes.length dc,.slice (some ⟨hb,ho,none⟩) M hc] 29)).heap.size=w9.heap.size+1:=by simp
 generalize w9.alloc (.cells #[.slice (some ⟨gb,go,none⟩) K.goods.length gc,.slice (some ⟨db,dof,none⟩) K.dishes.length dc,.slice (some ⟨hb,ho,none⟩) M hc] 29)=wa at hbx HGA hz9 ⊢
 have HZ9:=Lib.hid hz9
 have HBX:=Lib.hid hbx
 generalize w9.heap.size=tb at hbx HBX HB9 HZ9 ⊢
 clear hB9 hz9 c0 c1 c2
 have a0:=blk_cell hbx 0
 have a1:=blk_cell hbx 1
 have a2:=blk_cell hbx 2
 have f0:=blk_frozen hbx 0
 have f1:=blk_frozen hbx 1
 have f2:=blk_frozen hbx 2
 simp only[List.getElem?_toArray,List.getElem?_cons_zero,List.getElem?_cons_succ] at a0 a1 a2
 clear hbx
 go_upto_region 28 with (go_at_call 26;refine (HCOPY.out _ HGA.out).mono ?_;rintro e w1 ⟨gA,gc1,dA,dc1,hA,hc1,rfl,hO1,hg1⟩;have hb1:=blk_grown HBX.out hg1;clear a0 a1 a2 f0 f1 f2;have f0:=blk_frozen hb1 0;have f1:=blk_frozen hb1 1;have f2:=blk_frozen hb1 2;have a0:=blk_cell hb1 0;have a1:=blk_cell hb1 1;have a2:=blk_cell hb1 2;simp only[List.getElem?_toArray,List.getElem?_cons_zero,List.getElem?_cons_succ] at a0 a1 a2;have HB1:=Lib.hid hb1;have HO1:=Lib.hid hO1;have HG1:=Lib.hid (HGA.out.trans hg1);clear hb1 hO1 hg1)
 have hb2:=blk_set3 HB1.out (.slice gA K.goods.length gc1) (.slice dA K.dishes.length dc1) (.slice hA M hc1)
 have hO2:=HO1.out.box3 HB1.out (.slice gA K.goods.length gc1) (.slice dA K.dishes.length dc1) (.slice hA M hc1)
 have hg2:=grown_set3 HG1.out HB9.out (.slice gA K.goods.length gc1) (.slice dA K.dishes.length dc1) (.slice hA M hc1)
 generalize (((w1.setCell ⟨tb,0,none⟩ (.slice gA K.goods.length gc1)).setCell ⟨tb,1,none⟩ (.slice dA K.dishes.length dc1)).setCell ⟨tb,2,none⟩ (.slice hA M hc1))=w2 at hb2 hO2 hg2 ⊢
 clear a0 a1 a2 f0 f1 f2 HB1 HO1 HG1
 obtain⟨qb,rfl,hqb,⟨old,c1⟩,f1,hO3⟩:=hO2.reserve (v:=0) (gdAt_get s2)
 rw[HZ9.out] at hqb hO3
 have a0:=blk_cell hb2 0
 have a1:=blk_cell hb2 1
 have a2:=blk_cell hb2 2
 simp only[List.getElem?_toArray,List.getElem?_cons_zero,List.getElem?_cons_succ] at a0 a1 a2
 have hO3':KOwn (w2.setCell ⟨qb,good*4+1,none⟩ (.int .i64 0)) (tb+1) (spareJ K good M 0) (some ⟨qb,0,none⟩) gc1 dA dc1 hA hc1:=by
  unfold spareJ spareTo
  simpa[firstK] using hO3
 have hb3:(w2.setCell ⟨qb,good*4+1,none⟩ (.int .i64 0)).heap[tb]?=_:=(Below.heap_setCell _ _ _ _ (by simp only;omega)).trans hb2
 have hg3:Grown wS (w2.setCell ⟨qb,good*4+1,none⟩ (.int .i64 0)):=⟨by rw[size_setCell];exact hg2.size,fun b hb=>by rw[Below.heap_setCell _ _ _ _ (by have:=HB9.out;simp only;omega)];exact hg2.same b hb,hg2.os⟩
 have HO3:=Lib.hid hO3'
 have HB3:=Lib.hid hb3
 have HG3:=Lib.hid hg3
 clear hO3 hO3' hb2 hO2 hg2 hb3 hg3
 go_upto_region 29 with fail
 generalize w2.setCell ⟨qb,good*4+1,none⟩ (.int .i64 0)=w3 at HO3 HB3 HG3 ⊢
 clear a0 a1 a2 c1 f1
 go_wp2_with fail
 go_loopw [22] (fun i W=>∃ j:Nat,i=.int .i64 j∧j≤K.dishes.length∧Hid (KOwn W (tb+1) (spareJ K good M j) (some ⟨qb,0,none⟩) gc1 dA dc1 hA hc1)∧Hid (W.heap[tb]?=some (.cells #[.slice (some ⟨qb,0,none⟩) K.goods.length gc1,.slice dA K.dishes.length dc1,.slice hA M hc1] 29 (0,0)))∧Hid (Grown wS W)) (fun i _=>K.dishes.length-(intOf i).toNat)
 case atStart=>exact⟨0,rfl,Nat.zero_le _,HO3,HB3,HG3⟩
 case round =>
  obtain⟨j,rfl,hj,HO,HBB,HGW⟩:=hrel
  clear HO3 HB3 HG3
  have a0:=blk_cell HBB.out 0
  have a1:=blk_cell HBB.out 1
  have a2:=blk_cell HBB.out 2
  simp only[List.getElem?_toArray,List.getElem?_cons_zero,List.getElem?_cons_succ] at a0 a1 a2
  by_cases hjn:j<K.dishes.length
  ·have hji:(j:Int)<K.dishes.length:=by omega
   have hnd:=S.out.kt.nd
   have hdl:=S.out.dlen _ (List.getElem_mem hjn)
   obtain⟨eb,eb2,ec,rfl,he1,e2,⟨old,e3⟩,e4,hO4⟩:=HO.out.need (i:=good) (v:=0) (spareTo_at (g:=good) hjn) (by omega)
   rw[hdl] at e2
   have hO4':KOwn (wr.setCell ⟨eb2,good,none⟩ (.int .i64 0)) (tb+1) (spareJ K good M (j+1)) (some ⟨qb,0,none⟩) gc1 (some ⟨eb,0,none⟩) dc1 hA hc1:=by
    have:=spareTo_succ (g:=good) hjn
    unfold spareJ at hO4 ⊢
    simp only at hO4
    rw[this] at hO4
    exact hO4
   have hb4:(wr.setCell ⟨eb2,good,none⟩ (.int .i64 0)).heap[tb]?=_:=(Below.heap_setCell _ _ _ _ (by simp only;omega)).trans HBB.out
   have hg4:Grown wS (wr.setCell ⟨eb2,good,none⟩ (.int .i64 0)):=⟨by rw[size_setCell];exact HGW.out.size,fun b hb=>by rw[Below.heap_setCell _ _ _ _ (by have:=HB9.out;simp only;omega)];exact HGW.out.same b hb,HGW.out.os⟩
   have HO4:=Lib.hid hO4'
   have HB4:=Lib.hid hb4
   have HG4:=Lib.hid hg4
   clear hO4 hO4' hb4 hg4 hdl he1
   go_wp2_with fail
   go_roundw
   case rel=>exact⟨j+1,by go_num,by omega,HO4,HB4,HG4⟩
   case measure=>simp[intOf];omega
  ·have hji:¬ (j:Int)<K.dishes.length:=by omega
   obtain rfl:j=K.dishes.length:=by omega
   rw[spareJ_all] at HO
   have hkt:=HO.out.kt (fun d hd=>by
     simp only[spareK,List.mem_map] at hd
     obtain⟨d0,hd0,rfl⟩:=hd
     rw[List.length_set,S.out.dlen _ hd0]
     exact S.out.kt.ng) (fun x hx=>S.out.plen x (List.mem_of_mem_take hx)) (by have:=S.out.kt.ng;simpa[spareK] using this) (by have:=S.out.kt.nd;simpa[spareK] using this) (by have:=S.out.kt.nh;simp[spareK];omega)
   rw[← HM.out] at hkt
   have hlast:=fun W (g:Grown wr W)=>out_last (fs:=fs) (gc:=gc1) (dc:=dc1) (hc:=hc1) SN.out W _ _ _ _ _ mc lc (hkt.grown g) (S.out.m.grown (HGW.out.trans g)) (S.out.l.grown (HGW.out.trans g)) S.out.len S.out.kt.nh
   rw[HM.out] at hlast
   have HLAST:=Lib.hid hlast
   have hlt:=HLT.out
   clear hkt hlast hji hj HO
   go_upto_region 34 with (go_at_call 23;refine (HLAST.out _ (Grown.refl _)).mono ?_;rintro e w5 ⟨za,zb,zj,rfl,g5,hres⟩;have HG5:=Lib.hid (HGW.out.trans g5);have HRES:=Lib.hid hres;clear g5 hres)
   obtain⟨c0,c1,c2⟩:=S.out.cells HG5.out
   obtain⟨⟨_,x2,_,_⟩,_⟩:=CELLS.out w5 HG5.out
   clear a0 a1 a2
   rcases HRES.out with ⟨rfl,rfl⟩|⟨rfl,rfl⟩|⟨rfl,rfl,hzb⟩
   ·go_wp2_with (go_at_call 22;refine (served_any _).mono ?_;rintro e w6 ⟨rfl,g6⟩)
    go_ret
    rfl
   ·go_wp2_with (go_at_call 22;refine (served_any _).mono ?_;rintro e w6 ⟨rfl,g6⟩)
    go_ret
    rfl
   ·go_wp2_with (go_at_call 22;refine (served_any _).mono ?_;rintro e w6 ⟨rfl,g6⟩)
    go_ret
    rfl
end
end Go.Gal
end
section
namespace Go.Gal
open Go Go.Par Go.Proofs Go.RowKit
section
variable {fs:Array Func} [LikeS fs] {wS:World} {K:Kt} {ms:List Int} {ls:List (List Int)} {gb go gc db dof dc hb ho hc mb mo mc lb lo lc bx haul good room res mel st hours covers d ned N X nb no nc rb ro rc g:Nat} {l ds:List Int}
set_option maxRecDepth 100000 in
set_option maxHeartbeats 8000000 in
theorem law3b (S:Hid (Short3 wS K ms ls gb go gc db dof dc hb ho hc mb mo mc lb lo lc bx)) (SN:Hid (ShortN K ms ls haul good room res mel st hours covers d ned N X l ds)) (CELLS:Hid (ShortC wS K gb go hb ho db dof mb mo lb lo haul good room res mel st hours covers d ned X nb no nc rb ro rc)) {wc:World} (HGC:Hid (Grown wS wc)) {u0 u1 u2 u13 u14 u15 u16 u17 u18 u19 u20 u21 u22 u23 u24 u25 u26 u27 u28 u29 u30 u31 u32 u33 u34 u35 u36 u37 u38 u39 u40 u41 u42 u43 u44 u45 u46 u47 u48 u49 u50 u51 u52 u53 u54 u55 u56 u57 u58 u59 u60 u61 u62 u63 u64 u65 u66 u67 u68 u69 u70 u71 u72 u73 u74 u75 u76 u77 u78 u79 u80 u81 u82 u83 u84 u85 u86 u87 u88 u89 u90 u91 u92 u93 u94 u95 u96 u97 u98 u99 u100 u101 u102 u103 u104 u105 u106 u107 u108 u109 u110 u111 u112 u113 u114 u115 u116 u117 u118 u119 u120 u121 u122 u123 u124 u125 u126 u127 u128 u129 u130 u131 u132 u133 u134 u135 u136 u137 u138 u139 u140 u141 u142 u143 u144 u145 u146 u147 u148 u149 u150 u151 u152 u153 u154 u155 u156 u157 u158 u159 u160 u161 u162 u163 u164 u165 u166 u167 u168 u169 u170 u171 u172 u173 u174 u175 u176 u177 u178 u179 u180 u181 u182 u183 u184 u185 u186 u187 u188 u189 u190 u191 u192 u193 u194 u195 u196 u197 u198 u199 u200 u201 u202 u203 u204 u205 u206 u207 u208 u209 u210 u211 u212 u213 u214 u215 u216 u217 u218 u219 u220 u221 u222 u223 u224 u225 u226 u227 u228 u229 u230 u231 u232 u233 u234 u235 u236 u237 u238 u239 u240 u241 u242 u243 u244 u245 u246 u247 u248 u249 u250 u251 u252 u253 u254 u255 u256 u257 u258 u259 u260 u261 u262 u263 u264 u265 u266 u267 u268 u269 u270 u271 u272 u273 u274 u275 u276 u277 u278 u279 u280 u281 u282:Value} :
  Code.wp (Pf fs) (behindN 12 body3) (bodyPost (Pf fs) Try.f3 fun e _=>e=.returned (.bool true)) ⟨#[u0,u1,u2,.pointer (some ⟨g,0,none⟩),.pointer (some ⟨bx,0,none⟩),.slice (some ⟨mb,mo,none⟩) ms.length mc,.slice (some ⟨lb,lo,none⟩) ls.length lc,.int .i64 haul,.int .i64 good,.int .i64 0,.slice none 0 0,.int .i64 11,.int .i64 N,u13,u14,u15,u16,u17,u18,u19,u20,u21,u22,u23,u24,u25,u26,u27,u28,u29,u30,u31,u32,u33,u34,u35,u36,u37,u38,u39,u40,u41,u42,u43,u44,u45,u46,u47,u48,u49,u50,u51,u52,u53,u54,u55,u56,u57,u58,u59,u60,u61,u62,u63,u64,u65,u66,u67,u68,u69,u70,u71,u72,u73,u74,u75,u76,u77,u78,u79,u80,u81,u82,u83,u84,u85,u86,u87,u88,u89,u90,u91,u92,u93,u94,u95,u96,u97,u98,u99,u100,u101,u102,u103,u104,u105,u106,u107,u108,u109,u110,u111,u112,u113,u114,u115,u116,u117,u118,u119,u120,u121,u122,u123,u124,u125,u126,u127,u128,u129,u130,u131,u132,u133,u134,u135,u136,u137,u138,u139,u140,u141,u142,u143,u144,u145,u146,u147,u148,u149,u150,u151,u152,u153,u154,u155,u156,u157,u158,u159,u160,u161,u162,u163,u164,u165,u166,u167,u168,u169,u170,u171,u172,u173,u174,u175,u176,u177,u178,u179,u180,u181,u182,u183,u184,u185,u186,u187,u188,u189,u190,u191,u192,u193,u194,u195,u196,u197,u198,u199,u200,u201,u202,u203,u204,u205,u206,u207,u208,u209,u210,u211,u212,u213,u214,u215,u216,u217,u218,u219,u220,u221,u222,u223,u224,u225,u226,u227,u228,u229,u230,u231,u232,u233,u234,u235,u236,u237,u238,u239,u240,u241,u242,u243,u244,u245,u246,u247,u248,u249,u250,u251,u252,u253,u254,u255,u256,u257,u258,u259,u260,u261,u262,u263,u264,u265,u266,u267,u268,u269,u270,u271,u272,u273,u274,u275,u276,u277,u278,u279,u280,u281,u282],[]⟩ wc:=by
 obtain⟨bd1,bd2,bd3,bd4,bd5,bd6,bd7,bd8,bd9⟩:=SN.out.bds
 have s1:=SN.out.hh
 have s2:=SN.out.hg
 have i7:(haul:Int)<K.hauls.length:=by omega
 have i8:(good:Int)<K.goods.length:=by omega
 obtain⟨⟨x1,x2,x3,x4⟩,⟨y1,y2⟩,⟨z1,z2⟩,m1,l1,l2⟩:=CELLS.out wc HGC.out
 obtain⟨c0,c1,c2⟩:=S.out.cells HGC.out
 obtain⟨Y,hY⟩:∃ Y,Y=N+X:=⟨_,rfl⟩
 have HY:=Lib.hid hY
 have hadd:IntKind.i64.wrap ((N:Int)+X)=(Y:Int):=wrap_of (by omega) (by omega) (by omega)
 have i9:(haul:Int)<ls.length:=by have:=S.out.len;omega
 have i10:(haul:Int)<ms.length:=by have:=S.out.len;omega
 clear hY
 conv=>arg 2;whnf
 go_upto_if 171 with fail
 have HGD:=Lib.hid (HGC.out.trans (Grown.alloc wc (.cells #[.int .i64 room,.int .i64 res,.int .i64 mel,.int .i64 st] 42)))
 have t2:=blk_cell (heap_alloc_new wc (.cells #[.int .i64 room,.int .i64 res,.int .i64 mel,.int .i64 st] 42)) 2
 simp only[List.getElem?_toArray,List.getElem?_cons_zero,List.getElem?_cons_succ] at t2
 generalize wc.alloc (.cells #[.int .i64 room,.int .i64 res,.int .i64 mel,.int .i64 st] 42)=wd at HGD t2 ⊢
 generalize wc.heap.size=tb at t2 ⊢
 obtain⟨Z,hZ⟩:∃ Z,Z=Y-melted hours mel Y:=⟨_,rfl⟩
 have HZ:=Lib.hid hZ
 clear x1 x2 x3 x4 y1 y2 z1 z2 m1 l1 l2 c0 c1 c2 HGC hadd
 go_cut [12] (fun n W=>n=.int .i64 Z∧Hid (Grown wS W))
 case first =>
  obtain⟨⟨x1,x2,x3,x4⟩,⟨y1,y2⟩,_⟩:=CELLS.out wd HGD.out
  obtain⟨c0,c1,c2⟩:=S.out.cells HGD.out
  by_cases hm0 : 0<mel
  ·have hm1:(0:Int)<mel:=by omega
   have hm2:¬ (mel:Int)=0:=by omega
   obtain⟨y,hy,hwq⟩:∃ y:Nat,y=hours / mel∧wrap64 ((hours:Int) / (mel:Int))=(y:Int):=by
    exact⟨_,rfl,wrap_quo (by omega)⟩
   have HWQ:=Lib.hid hwq
   clear hwq
   have hX:Z=Y-min Y y:=by rw[hZ,hy];unfold melted;rw[if_pos hm0]
   clear hy hZ hm0
   by_cases hx:Y≤y
   ·have t3:(Y:Int)≤y:=Int.ofNat_le.2 hx
    have t4:¬ (y:Int)<Y:=Int.not_lt.2 (Int.ofNat_le.2 hx)
    have hX0:Z=0:=by rw[hX,Nat.min_eq_left hx];omega
    subst hX0
    have hwq:=HWQ.out
    clear hX hx bd1 bd2 bd3 bd4 bd5 bd6 bd7 bd8 bd9 s1 s2 i8 i9 i10 x1 x2 x3 x4 y2 c0 c1
    go_wp2_with fail
    go_quiet (fail)
    go_wp2_with fail
    go_meet
    exact⟨rfl,HGD.out.trans ((Grown.refl _).drewN _)⟩
   ·have t3:¬ (Y:Int)≤y:=by omega
    have t4:(y:Int)<Y:=by omega
    rw[Nat.min_eq_right (by omega)] at hX
    have hX1:IntKind.i64.wrap ((Y:Int)-y)=Z:=by
     have:=HY.out
     exact wrap_of (by omega) (by omega) (by omega)
    have hwq:=HWQ.out
    clear hX hx bd1 bd2 bd3 bd4 bd5 bd6 bd7 bd8 bd9 s1 s2 i8 i9 i10 x1 x2 x3 x4 y2 c0 c1
    go_wp2_with fail
    go_quiet (fail)
    go_wp2_with fail
    go_meet
    exact⟨rfl,HGD.out.trans ((Grown.refl _).drewN _)⟩
  ·have hm1:¬ (0:Int)<mel:=by omega
   have hZY:Z=Y:=by rw[hZ];unfold melted;rw[if_neg hm0];omega
   subst hZY
   clear hZ hm0
   go_wp2_with fail
   go_meet
   exact⟨rfl,HGD.out⟩
 case rest =>
 obtain⟨rfl,HGC⟩:=hcut
 refine (show ∀ (a:Act) (w1:World),Code.wp (Pf fs) (behindN 14 body3) (bodyPost (Pf fs) Try.f3 fun e _=>e=.returned (.bool true)) a w1→_ from by assumption) _ _ ?_
 exact law3c S SN CELLS (by rw[HZ.out,HY.out]) HGC
end
end Go.Gal
end
section
namespace Go.Gal
open Go Go.Par Go.Proofs Go.RowKit
section
variable {fs:Array Func} [LikeS fs]
set_option maxRecDepth 20000 in
set_option maxHeartbeats 8000000 in
theorem law3 (ns:List Int) (A:Option Addr) (c:Nat) (w:World) (hx:Ints w A ns) (hl:ns.length≤9223372036854775807):Calls (Pf fs) 3 #[.slice A ns.length c] w fun e _=>e=.returned (.bool true):=by
 have HB:=Lib.hid (newBag_any (fs:=fs) A c ns w hx.toB hl)
 clear hx
 go_enter LK.func3,Try.ntmps3
 go_wp2_with (go_at_call 17;refine HB.out.mono ?_;rintro e w1 ⟨g,rfl,_,hb1,_⟩;clear HB)
 go_wp2_with (go_at_call 18;refine (kitchenOf_any g 3 9 5 w1 hb1 (by decide) (by decide) (by decide) (by decide) (by decide) (by decide)).mono ?_;rintro e w2 ⟨K,gA,gc,dA,dc,hA,hc,rfl,hK2,hkb2,h1,h2,h3,hcap⟩;have HC:=Lib.hid (dealt_valid h1 h2 h3 (by decide) (by decide) (by decide));have HK2:=Lib.hid hK2;have HB2:=Lib.hid hkb2.bag;have H1:=Lib.hid h1;have H2:=Lib.hid h2;have H3:=Lib.hid h3;have HCAP:=Lib.hid hcap;clear hb1 hK2 hkb2 h1 h2 h3 hcap;unfold ktV)
 have hbx:(w2.alloc (.cells #[.slice gA K.goods.length gc,.slice dA K.dishes.length dc,.slice hA K.hauls.length hc] 29)).drew.heap[w2.heap.size]?=some (.cells #[.slice gA K.goods.length gc,.slice dA K.dishes.length dc,.slice hA K.hauls.length hc] 29 (0,0)):=heap_alloc_new w2 _
 have hS:(w2.alloc (.cells #[.slice gA K.goods.length gc,.slice dA K.dishes.length dc,.slice hA K.hauls.length hc] 29)).drew.cell? ⟨w2.heap.size,0,none⟩=some (.slice gA K.goods.length gc)∧(w2.alloc (.cells #[.slice gA K.goods.length gc,.slice dA K.dishes.length dc,.slice hA K.hauls.length hc] 29)).drew.cell? ⟨w2.heap.size,1,none⟩=some (.slice dA K.dishes.length dc)∧(w2.alloc (.cells #[.slice gA K.goods.length gc,.slice dA K.dishes.length dc,.slice hA K.hauls.length hc] 29)).drew.cell? ⟨w2.heap.size,2,none⟩=some (.slice hA K.hauls.length hc):=⟨blk_cell hbx 0,blk_cell hbx 1,blk_cell hbx 2⟩
 have HBX:=Lib.hid hbx
 have HK3:=Lib.hid (show KtAt (w2.alloc (.cells #[.slice gA K.goods.length gc,.slice dA K.dishes.length dc,.slice hA K.hauls.length hc] 29)).drew K gA dA hA from (HK2.out.grown (Grown.alloc w2 (.cells #[.slice gA K.goods.length gc,.slice dA K.dishes.length dc,.slice hA K.hauls.length hc] 29))).grown ((Grown.refl _).drewN 1))
 have HB3:=Lib.hid ((HB2.out.alloc (.cells #[.slice gA K.goods.length gc,.slice dA K.dishes.length dc,.slice hA K.hauls.length hc] 29)).drew)
 have hne:=HB2.out.lt
 have hg1:=H1.out.1
 have hg3:=H1.out.2.1
 have hh1:=H3.out.1
 have hh5:=H3.out.2.1
 generalize hw3:(w2.alloc (.cells #[.slice gA K.goods.length gc,.slice dA K.dishes.length dc,.slice hA K.hauls.length hc] 29)).drew=w3 at HBX HK3 HB3 hS
 have HW3:=Lib.hid hw3
 clear hw3 hbx HK2 HB2
 have HHS:=Lib.hid hS
 have key:∀ W,Kb g w3 W→W.cell? ⟨w2.heap.size,0,none⟩=some (.slice gA K.goods.length gc)∧W.cell? ⟨w2.heap.size,1,none⟩=some (.slice dA K.dishes.length dc)∧W.cell? ⟨w2.heap.size,2,none⟩=some (.slice hA K.hauls.length hc):=fun W k=>⟨k.cell HB3.out HHS.out.1 (by simp),k.cell HB3.out HHS.out.2.1 (by simp),k.cell HB3.out HHS.out.2.2 (by simp)⟩
 have KEY:=Lib.hid key
 clear key
 generalize hbxn:w2.heap.size=bx at *
 clear hbxn
 refine wp_region_L (by kernel_rfl) (fun W=>W.cell? ⟨bx,0,none⟩=some (.slice gA K.goods.length gc)∧W.cell? ⟨bx,1,none⟩=some (.slice dA K.dishes.length dc)∧W.cell? ⟨bx,2,none⟩=some (.slice hA K.hauls.length hc)) [] ?_
 rw[HW3.out]
 refine wpAnyL_p 0 ?_ rfl ?_ ?_;case refine_2=>(intro w _;go_simp;try rfl)
 refine wpAnyL_t 1 ?_ rfl hS ?_ ?_;case refine_2=>(intro w hSw;(try dsimp only at hSw);go_simp;try rfl)
 refine wpAnyL_p 3 ?_ rfl ?_ ?_;case refine_2=>(intro w _;go_simp;try rfl)
 refine wpAnyL_t 4 ?_ rfl hS ?_ ?_;case refine_2=>(intro w hSw;(try dsimp only at hSw);go_simp;try rfl)
 refine wpAnyL_one (i:=2) rfl (by kernel_rfl) ?_
 intro Kq hKq
 go_simp
 refine (menuOf_any g K gA dA hA gc dc hc w3 HB3.out (by have:=H2.out.1;omega) (by have:=H2.out.2.1;omega) (by omega)).mono ?_
 rintro e w4 ⟨mA,mc,ms,rfl,hm4,hkb4,hml4,hmt4,hmc4⟩
 have hS:=KEY.out w4 hkb4
 have HK4:=Lib.hid hkb4
 have HM4:=Lib.hid hm4
 have HML:=Lib.hid hml4
 have HMT:=Lib.hid hmt4
 have HMC:=Lib.hid hmc4
 clear hm4 hkb4 hml4 hmt4 hmc4
 refine hKq.out _ _ hS (fun _=>?_)
 clear hKq Kq
 refine wpAnyL_one (i:=5) rfl (by kernel_rfl) ?_
 intro Kq hKq
 go_simp
 refine (loadsOf_any g K gA dA hA gc dc hc w4 HK4.out.bag (HK3.out.kb HK4.out HB3.out) hg3 (fun x hx=>by have:=(H1.out.2.2 x hx).room;omega) (fun x hx=>(H3.out.2.2 x hx).len)).mono ?_
 rintro e w5 ⟨lA,lc,ls,rfl,hl5,hkb5,hll5,hlr5,hlc5⟩
 have hS:=KEY.out w5 (HK4.out.trans hkb5)
 have HKB5:=Lib.hid (HK4.out.trans hkb5)
 have HMS:=Lib.hid (HM4.out.kb hkb5 HK4.out.bag)
 have HLS:=Lib.hid hl5
 have HLL:=Lib.hid hll5
 have HLR:=Lib.hid hlr5
 have HLC:=Lib.hid hlc5
 clear hl5 hkb5 hll5 hlr5 hlc5 HM4 HK4
 refine hKq.out _ _ hS (fun _=>?_)
 clear hKq Kq
 refine wpAnyL_one (i:=6) rfl (by kernel_rfl) ?_
 intro Kq hKq
 go_simp
 refine hKq.out _ _ hS (fun _=>?_)
 clear hKq Kq
 refine wpAnyL_one (i:=7) rfl (by kernel_rfl) ?_
 intro Kq hKq
 go_simp
 refine hKq.out _ _ hS (fun _=>?_)
 clear hKq Kq
 try simp only[Act.put,List.getElem_toArray,List.getElem_cons_succ,List.getElem_cons_zero,List.setIfInBounds_toArray,List.set_cons_zero,List.set_cons_succ]
 refine wpAnyL_done (by kernel_rfl) ?_
 try simp only[Act.put,List.getElem_toArray,List.getElem_cons_succ,List.getElem_cons_zero,List.setIfInBounds_toArray,List.set_cons_zero,List.set_cons_succ]
 have HBS:=Lib.hid (HKB5.out.ke.block HBX.out (by omega))
 have HKS:=Lib.hid (HK3.out.kb HKB5.out HB3.out)
 obtain⟨a0,a1,a2⟩:=hS
 clear HKB5 HBX HK3 HB3 HW3 HHS KEY
 generalize w5=wS at *
 have hsi:=single_any (fs:=fs) K gA dA hA gc dc hc wS HKS.out
 by_cases hsing:K.dishes.length=1∧1<K.hauls.length
 ·rw[show (decide (K.dishes.length=1)&&decide (1<K.hauls.length))=true by simp[hsing]] at hsi
  have HSI:=Lib.hid hsi
  clear hsi hsing
  go_wp2_with (first|(go_at_call 21;refine HSI.out.mono ?_;rintro e w6 ⟨rfl,g6⟩)|(go_at_call 22;refine (served_any _).mono ?_;rintro e w7 ⟨rfl,g7⟩))
  go_ret
  rfl
 ·rw[show (decide (K.dishes.length=1)&&decide (1<K.hauls.length))=false by simp;omega] at hsi
  have HSI:=Lib.hid hsi
  have ha:=asked_of HC.out (menuTo_zero HMT.out HML.out H2.out.1 hsing)
  have hG:=given_of ha HLL.out HLR.out
  have hml:ms.length≤1000:=by have:=HML.out;omega
  have hll:ls.length≤1000:=by have:=HLL.out;omega
  have HG:=Lib.hid hG
  clear hsi hsing ha hG
  go_upto_region 6 with (go_at_call 21;refine HSI.out.mono ?_;rintro e w6 ⟨rfl,g6⟩;have HG6:=Lib.hid g6;clear g6)
  have HCELLS:=Lib.hid (show ∀ W,Grown wS W→W.cell? ⟨bx,0,none⟩=some (.slice gA K.goods.length gc)∧W.cell? ⟨bx,1,none⟩=some (.slice dA K.dishes.length dc)∧W.cell? ⟨bx,2,none⟩=some (.slice hA K.hauls.length hc) from fun W g=>⟨blk_cell (blk_grown HBS.out g) 0,blk_cell (blk_grown HBS.out g) 1,blk_cell (blk_grown HBS.out g) 2⟩)
  clear a0 a1 a2
  obtain⟨a0,a1,a2⟩:=HCELLS.out w6 HG6.out
  cases hst:(runK K ms ls).stop with
  | none =>
   have HOUT:=Lib.hid (fun W (g:Grown wS W)=>out_none (fs:=fs) K gA dA hA gc dc hc ms mA mc ls lA lc W (HKS.out.grown g) (HMS.out.grown g) hml (HLS.out.grown g) hll HG.out hst)
   have HRUNS:=Lib.hid (fun W (g:Grown wS W)=>runs_none (fs:=fs) K gA dA hA gc dc hc ms mA mc ls lA lc W (HKS.out.grown g) (HMS.out.grown g) hml (HLS.out.grown g) hll HG.out hst)
   have hq:¬ ((K.hauls.length:Int)≤-1):=by omega
   have hq2:¬ ((K.goods.length:Int)≤-1):=by omega
   clear hst
   go_wp2_with (first|(go_at_call 23;refine (HOUT.out _ HG6.out).mono ?_;rintro e w7 ⟨rfl,g7⟩;have HG7:=Lib.hid (HG6.out.trans g7);obtain⟨b0,b1,b2⟩:=HCELLS.out w7 HG7.out;clear g7)|(go_at_call 24;refine (HRUNS.out _ HG7.out).mono ?_;rintro e w8 ⟨M,cM,rfl,g8,_⟩;have HG8:=Lib.hid (HG7.out.trans g8);obtain⟨c0,c1,c2⟩:=HCELLS.out w8 HG8.out;clear g8)|(go_at_call 22;refine (served_any _).mono ?_;rintro e w9 ⟨rfl,g9⟩))
   go_ret
   rfl
  | some p =>
   obtain⟨haul,good,er⟩:=p
   have HRUNS:=Lib.hid (fun W (g:Grown wS W)=>runs_stop (fs:=fs) K gA dA hA gc dc hc ms mA mc ls lA lc W (HKS.out.grown g) (HMS.out.grown g) hml (HLS.out.grown g) hll HG.out hst)
   obtain rfl|rfl:er=9∨er=11:=(runG_stop hst).2.2.2
   ·have HOUT:=Lib.hid (fun W (g:Grown wS W)=>out_bar (fs:=fs) K gA dA hA gc dc hc ms mA mc ls lA lc W (HKS.out.grown g) (HMS.out.grown g) hml (HLS.out.grown g) hll HG.out hst)
    clear hst
    go_wp2_with (first|(go_at_call 23;refine (HOUT.out _ HG6.out).mono ?_;rintro e w7 ⟨rfl,g7⟩;have HG7:=Lib.hid (HG6.out.trans g7);obtain⟨b0,b1,b2⟩:=HCELLS.out w7 HG7.out;clear g7)|(go_at_call 24;refine (HRUNS.out _ HG7.out).mono ?_;rintro e w8 ⟨rfl,g8⟩;have HG8:=Lib.hid (HG7.out.trans g8);obtain⟨c0,c1,c2⟩:=HCELLS.out w8 HG8.out;clear g8)|(go_at_call 22;refine (served_any _).mono ?_;rintro e w9 ⟨rfl,g9⟩))
    go_ret
    rfl
   ·have HOUT:=Lib.hid (fun W (g:Grown wS W)=>out_short (fs:=fs) K gA dA hA gc dc hc ms mA mc ls lA lc W (HKS.out.grown g) (HMS.out.grown g) hml (HLS.out.grown g) hll HG.out hst)
    obtain⟨room,res,mel,st,hours,covers,d,ned,N,X,l,ds,hSN⟩:=short_nums HG.out hst
    have SN:=Lib.hid hSN
    clear hst hSN
    obtain⟨gb,go,rfl,_⟩:=HKS.out.goods good _ SN.out.gd
    obtain⟨pr,hpr⟩:=SN.out.hl
    obtain⟨hb,ho,rfl,_⟩:=HKS.out.hauls haul _ hpr
    obtain⟨db,dof,rfl,_⟩:=HKS.out.dishes d _ SN.out.dish
    obtain⟨mb,mo,rfl,_⟩:=HMS.out haul _ SN.out.menu
    obtain⟨lb,lo,rfl,_⟩:=HLS.out haul _ SN.out.load
    clear hpr
    have SS:=Lib.hid (show Short3 wS K ms ls gb go gc db dof dc hb ho hc mb mo mc lb lo lc bx from ⟨HKS.out,HMS.out,HLS.out,HBS.out,⟨HCAP.out,HMC.out,HLC.out⟩,⟨HML.out,HLL.out⟩,fun d hd=>(H2.out.2.2 d hd).1,fun x hx=>by rw[(H3.out.2.2 x hx).len];omega⟩)
    obtain⟨nb,no,nc,rb,ro,rc,hCE⟩:=SS.out.known SN.out
    have CELLS:=Lib.hid hCE
    clear hCE
    have s1:=SN.out.hh
    have s2:=SN.out.hg
    have i1:¬ (haul:Int) < -1:=by omega
    have i2:¬ (K.hauls.length:Int)≤haul:=by omega
    have i3:¬ (good:Int) < -1:=by omega
    have i4:¬ (K.goods.length:Int)≤good:=by omega
    have i5:¬ (haul:Int)<0:=by omega
    have i6:¬ (good:Int)<0:=by omega
    have i7:(haul:Int)<K.hauls.length:=by omega
    have i8:(good:Int)<K.goods.length:=by omega
    go_upto_region 14 with (first|(go_at_call 23;refine (HOUT.out _ HG6.out).mono ?_;rintro e w7 ⟨rfl,g7⟩;have HG7:=Lib.hid (HG6.out.trans g7);obtain⟨b0,b1,b2⟩:=HCELLS.out w7 HG7.out;clear g7)|(go_at_call 24;refine (HRUNS.out _ HG7.out).mono ?_;rintro e w8 ⟨rfl,g8⟩;have HG8:=Lib.hid (HG7.out.trans g8);obtain⟨c0,c1,c2⟩:=HCELLS.out w8 HG8.out;clear g8))
    clear a0 a1 a2 b0 b1 b2
    obtain⟨⟨_,_,_,x4⟩,_⟩:=CELLS.out w8 HG8.out
    go_upto_if 110 with fail
    clear c0 c1 c2 x4
    go_cut [12] (fun n W=>n=.int .i64 N∧Hid (Grown wS W))
    case first =>
     by_cases h0:haul=0
     ·have h00:¬ (0:Int)<haul:=by omega
      have HN:=Lib.hid (SN.out.zero h0)
      clear h0
      go_wp2_with fail
      go_meet
      exact⟨by rw[HN.out],HG8.out⟩
     ·have h00:(0:Int)<haul:=by omega
      obtain⟨r1,r2,r3,row,r4,r5,r6⟩:=SN.out.more (by omega)
      have hml':=HML.out
      have hll':=HLL.out
      have HFIRST:=Lib.hid (fun W=>first_any (fs:=fs) K (some ⟨gb,go,none⟩) (some ⟨db,dof,none⟩) (some ⟨hb,ho,none⟩) gc dc hc ms.length (some ⟨mb,mo,none⟩) mc ls.length (some ⟨lb,lo,none⟩) lc haul W (by omega) SS.out.cap.1 (by have:=HMC.out;omega) (by have:=HLC.out;omega))
      have HR1:=Lib.hid (fun W (g:Grown wS W)=>runs_first (fs:=fs) K (some ⟨gb,go,none⟩) (some ⟨db,dof,none⟩) (some ⟨hb,ho,none⟩) gc dc hc ms (some ⟨mb,mo,none⟩) mc ls (some ⟨lb,lo,none⟩) lc haul W (HKS.out.grown g) (HMS.out.grown g) (HLS.out.grown g) (by omega) (by omega) (by omega) (by omega) r1 r2 r3)
      have HR4:=Lib.hid r4
      have HR6:=Lib.hid r6
      have e1:row.length=K.goods.length:=r5
      generalize (runK (firstK K haul) (List.take haul ms) (List.take haul ls)).left=left at HR1 HR4
      clear r1 r2 r3 r4 r5 r6 h0 hml' hll'
      obtain⟨c0,c1,c2⟩:=SS.out.cells HG8.out
      go_wp2_with (first|(go_at_call 25;refine (HFIRST.out _).mono ?_;rintro e w9 ⟨rfl,g9⟩;have HG9:=Lib.hid (HG8.out.trans g9);clear g9)|(go_at_call 24;refine (HR1.out _ (HG9.out.trans (Grown.alloc _ _))).mono ?_;rintro e w10 ⟨M,cM,rfl,g10,hd⟩;have HG10:=Lib.hid ((HG9.out.trans (Grown.alloc _ _)).trans g10);have HD:=Lib.hid hd;clear g10 hd))
      obtain⟨Mb,Mo,rfl,qA,qc,q1,q2,_⟩:=HD.out _ _ HR4.out
      obtain⟨qb,qo,rfl,q3⟩:=q2 _ _ HR6.out
      rw[e1] at q1
      obtain⟨hp,hhp⟩:∃ hp,hp=haul-1:=⟨_,rfl⟩
      rw[← hhp] at q1
      have hw1:IntKind.i64.wrap ((haul:Int)-1)=(hp:Int):=wrap_of (by omega) (by omega) (by omega)
      have hw2:(hp:Int)<haul:=by omega
      have hw3:(0:Int)≤hp:=by omega
      obtain⟨d0,d1,d2⟩:=SS.out.cells HG10.out
      clear hhp q2 e1
      go_quiet (fail)
      go_wp2_with fail
      go_meet
      exact⟨rfl,HG10.out.trans ((Grown.refl _).drewN _)⟩
    case rest =>
    obtain⟨rfl,HGC⟩:=hcut
    refine (show ∀ (a:Act) (w1:World),Code.wp (Pf fs) (behindN 12 body3) (bodyPost (Pf fs) Try.f3 fun e _=>e=.returned (.bool true)) a w1→_ from by assumption) _ _ ?_
    exact law3b SS SN CELLS HGC
end
end Go.Gal
end
