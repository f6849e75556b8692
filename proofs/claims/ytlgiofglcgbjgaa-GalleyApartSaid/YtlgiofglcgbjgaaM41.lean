/- A law of the Galley over one list of numbers that answers true and leaves old memory alone, as its row asks it: from its contract on S to the row. Plain laws of runs: each good by .. -/
import Derived.Test.YtlgiofglcgbjgaaRows
import Derived.Test.YtlgiofglcgbjgaaM40
import Derived.Test.YtlgiofglcgbjgaaM22
import Derived.Conc.LeavingOf
import Derived.ProofKit
import Derived.OpenShut
import Derived.Below
import Derived.ChangeSame
import Derived.Carry
section
namespace Go.Gal
open Go Go.Par Go.Proofs Go.RowKit
open Go.ChangeShapes Go.WideShapes Go.ChangeAt
theorem own_knob:ownKnob Try.prog.godebug=none:=by kernel_rfl
theorem laid_out:laidOutB Try.prog=true:=by kernel_rfl
theorem cells_int:Try.prog.cellsOf 3=1:=by kernel_rfl
theorem readable_nums:Try.prog.readableRec 22=true:=by kernel_rfl
theorem nums_row : 22<Try.prog.types.size:=of_decide_eq_true (by kernel_rfl)
theorem no_globals:S.globals.size=0:=by kernel_rfl
section
variable {H:Type} {enc:TypeId×Value→H} {P:Program}
theorem post_of_below {f:Func} {s:ChangeSpec} {apart fresh handsOn again:Bool} {W W':World} {args:Array Value} {v:Value} {ds gs:List (DataW H)} {before pa pv:List MemPlace}
  (hW:DataW.Whole enc P f.params.toList s.vars apart W args.toList ds gs before)
  (hres:∀ (b:Nat) (sp:Nat→Bool) (hd:Bool),DataW.TrodAll enc P W' b sp hd f.resultTypes.toList (v.resultList f.resultTypes.size) (s.fn H (ds++gs)).results [])
  (hargs:∀ sp:Nat→Bool,(∀ p∈before,sp p.block=true)→DataW.TrodAll enc P W' 0 sp true f.params.toList args.toList (s.fn H (ds++gs)).args pa)
  (hvars:∀ sp:Nat→Bool,(∀ p∈before,sp p.block=true)→DataW.TrodVars enc P W' sp s.vars (s.fn H (ds++gs)).vars pv)
  (hps:before=pa++pv) (hb:Below W.heap.size W W')
  (hok:∀ (j:Nat) (t:TypeId) (r:Value),f.resultTypes[j]?=some t→(v.resultList f.resultTypes.size)[j]?=some r→Value.okWide P W' .any 0 t r) :
  s.post enc P f apart fresh handsOn again W args v W':=by
 have hlt:∀ p∈before,p.block<W.heap.size:=fun p hp=>hW.lt p hp
 have hold:∀ p∈before,(fun b=>decide (b<W.heap.size)) p.block=true:=fun p hp=>by simpa using hlt p hp
 refine⟨ds,gs,before,[],pa,pv,hW,hres _ _ _,hargs _ hold,hvars _ hold,World.keptBut_mono (fun p hp=>⟨hp,?_⟩) (hb.frame (·∈before)),fun _=>?_⟩
 ·rw[hps,List.mem_append] at hp
  exact Or.inr hp
 ·obtain⟨_,_,_,_,_,hz,hn⟩:=hW
  refine⟨hok,_,_,([]++pa)++pv,⟨[]++pa,pv,trodAll_append (hargs _ (fun _ _=>rfl)) (hres _ _ _),hvars _ (fun _ _=>rfl),rfl,?_,?_⟩,?_⟩
  ·intro b off hp
   have hin:MemPlace.cell b off∈before:=by rw[hps];simpa using hp
   rw[hb.frozen (hlt _ hin)]
   exact hz b off hin
  ·intro ha
   have:=hn ha
   rw[hps] at this
   simpa using this
  ·intro p hp _
   rw[hps]
   simpa using hp
end
def Walked (F:FuncId):Prop:=∀ (A:Option Addr) (cp:Nat) (xs:List Int) (w:World),Ints w A xs→xs.length≤9223372036854775807 →
 Calls S F #[.slice A xs.length cp] w fun e _=>e=.returned (.bool true)
theorem walked_of {F:FuncId} (h:∀ (ns:List Int) (A:Option Addr) (c:Nat) (w:World),Ints w A ns→ns.length≤9223372036854775807→Calls (Pf S.funcs) F #[.slice A ns.length c] w fun e _=>e=.returned (.bool true)):Walked F:=fun A c xs w hx hl=>by
 have:=h xs A c w hx hl
 rwa [pf_S] at this
set_option maxRecDepth 100000 in
theorem okWide_seen {W:World} {base:Nat} {A:Option Addr} {len cap:Nat} (h:Value.okWide Try.prog W .any base 22 (.slice A len cap)):∀ p,A=some p→Seen W p.block∧p.spot=none:=by
 rintro p rfl
 simp only[Value.okWide,Try.underlying22,Cell.okWide,Cell.ok] at h
 obtain⟨_,_,_,hsp,row,cells,hs,_⟩:=h
 refine⟨?_,hsp⟩
 unfold World.shape? at hs
 split at hs
 ·rename_i c t m hc
  exact⟨_,_,_,hc⟩
 ·cases hs
set_option maxRecDepth 100000 in
theorem nums_runs {F:FuncId} {fn:Func} {s:ChangeSpec} {apart fresh handsOn again:Bool} (hF:¬ FSt F) (hini:Try.prog.inits.idxOf? F=none) (hp:fn.params=#[22]) (hr:fn.resultTypes=#[4]) (hv:s.vars=[])
  (hs:∀ (H:Type) (d:DataW H),(s.fn H [d]).results=[.lit (.bool true)]∧(s.fn H [d]).args=[d]∧(s.fn H [d]).vars=[]) (hw:Walked F)
  (H:Type) (enc:TypeId×Value→H) (W:World) (base:Nat) (args:Array Value) (ds gs:List (DataW H)) (before:List MemPlace)
  (hval:∀ (j:Nat) t v,fn.params[j]?=some t→args[j]?=some v→Value.okWide Try.prog W .any base t v)
  (hW:DataW.Whole enc Try.prog fn.params.toList s.vars apart W args.toList ds gs before) :
  ∃ M last o w' t',runNT Try.prog (M+1) (Go.Conc.solo (Go.Conc.G (Frame.enter Try.prog F args .normal) []) W) #[]=(.ended o w',t')∧runN Try.prog M (Go.Conc.solo (Go.Conc.G (Frame.enter Try.prog F args .normal) []) W)=.next last ∧
   step Try.prog last=.ended o w'∧Go.Conc.Good Try.prog (fun v W'=>s.post enc Try.prog fn apart fresh handsOn again W args v W') last o w' t':=by
 have hW':=hW
 obtain⟨p,q,hA0,hV,rfl,hfz,hnd⟩:=hW
 have hA:DataW.TrodAll enc Try.prog W 0 (fun _=>true) true fn.params.toList args.toList ds p:=hA0
 rw[hp] at hA hval
 rw[hv] at hV
 obtain⟨v0,d0,rfl,rfl,h0⟩:=trodAll_one hA
 obtain⟨rfl,rfl⟩:=trodVars_none hV
 obtain⟨a0,len,cap,rfl⟩:=okWide_slice Try.underlying22 (hval 0 22 v0 rfl rfl)
 have hseen:=okWide_seen (hval 0 22 _ rfl rfl)
 have h0k:=h0
 obtain⟨fuel,hf⟩:=h0
 clear hA0
 simp only[List.append_nil] at hW'
 have hlt:∀ x∈p,x.block<W.heap.size:=fun x hx=>by simpa using hW'.lt x hx
 have hclose:∀ xs:List Int,xs.length=len→Ints W a0 xs→xs.length≤9223372036854775807 →
   ∃ M last o w' t',runNT Try.prog (M+1) (Go.Conc.solo (Go.Conc.G (Frame.enter Try.prog F #[.slice a0 len cap] .normal) []) W) #[]=(.ended o w',t')∧runN Try.prog M (Go.Conc.solo (Go.Conc.G (Frame.enter Try.prog F #[.slice a0 len cap] .normal) []) W)=.next last ∧
   step Try.prog last=.ended o w'∧Go.Conc.Good Try.prog (fun v W'=>s.post enc Try.prog fn apart fresh handsOn again W #[.slice a0 len cap] v W') last o w' t':=fun xs hx hi hl=>by
  subst hx
  have hN:∀ b,(∃ p,a0=some p∧p.block=b)→Seen W b:=fun b ⟨p,hp,hb⟩=>hb▸(hseen p hp).1
  have hrel:VsRel (idS fun b=>∃ p,a0=some p∧p.block=b) #[.slice a0 xs.length cap] #[.slice a0 xs.length cap]:=by
   refine⟨rfl,fun i x y h1 h2=>?_⟩
   rcases i with _|i
   ·simp at h1 h2
    subst h1 h2
    refine .slice _ _ ?_
    cases a0 with
    | none=>exact .none
    | some p =>
     obtain⟨b,off,spot⟩:=p
     have:=(hseen _ rfl).2
     simp only at this
     subst this
     exact .some ⟨⟨rfl,_,rfl,rfl⟩,rfl,rfl⟩
   ·simp at h1
  have hmi:∀ t,Ints { maskS (fun b=>∃ p,a0=some p∧p.block=b) W with tape:=t } a0 xs:=fun t k x hk=>by
   obtain⟨b,off,e,hc⟩:=hi k x hk
   exact⟨b,off,e,maskW_cell (N:=fun b=>∃ p,a0=some p∧p.block=b) ⟨_,e,rfl⟩ hc (.int _ _)⟩
  obtain⟨M,last,o,w',t',h1,h2,h3,h4⟩:=law_runs cheapOn_S cheapOn_Sw hF hini hN (by rw[no_globals];exact Nat.zero_le _) hrel fun t=>hw a0 cap xs _ (hmi t) hl
  refine⟨M,last,o,w',t',h1,h2,h3,h4.mono fun v hv1=>?_⟩
  obtain⟨rfl,g1,g2,g3⟩:=hv1
  have hb:Below W.heap.size W w':=⟨g3.os,g3.tape,g3.output,g1,g2⟩
  obtain⟨e1,e2,e3⟩:=hs H d0
  refine post_of_below (pa:=p) (pv:=[]) hW' (fun b sp hd=>?_) (fun sp hsp=>?_) (fun sp _=>?_) (by simp) hb (fun j t r hj hr2=>?_)
  ·rw[hr]
   show DataW.TrodAll enc Try.prog w' b sp hd [4] [.bool true] (s.fn H [d0]).results []
   rw[e1]
   exact trodAll_cons_mk (shut_bool Try.underlying4 _) trodAll_mk0
  ·rw[hp]
   show DataW.TrodAll enc Try.prog w' 0 sp true [22] [.slice a0 xs.length cap] (s.fn H [d0]).args p
   rw[e2]
   exact trodAll_mk1 (WideElems.Trod_stays laid_out readable_nums nums_row h0k (fun x hx=>hb.same (hlt x hx)) (fun x hx=>hsp x hx))
  ·rw[hv]
   show DataW.TrodVars enc Try.prog w' sp [] (s.fn H [d0]).vars []
   rw[e3]
   rfl
  ·exact ok_one hr rfl (okWide_bool_mk Try.underlying4 _) j t r hj hr2
 rcases open_ints Try.underlying22 Try.underlying3 cells_int hf with ⟨hcs,hx⟩|⟨a,len',cap',zs,hcs,_,hl,hm,hz,hx,hcell,hwz⟩
 ·simp[Value.cells] at hcs
  obtain⟨rfl,rfl,rfl⟩:=hcs
  exact hclose [] rfl (fun k x h=>by simp at h) (by simp)
 ·simp[Value.cells] at hcs
  obtain⟨rfl,rfl,rfl⟩:=hcs
  simp only[if_true] at hz
  simp only[Prod.mk.injEq] at hx
  obtain⟨_,rfl⟩:=hx
  have hlen:(zs.take len).length=len:=by rw[List.length_take];omega
  refine hclose (zs.take len) hlen (fun k x hk=>?_) (by rw[hlen];simp only[maxLen] at hm;omega)
  have hkl:k<len:=by
   have:=(List.getElem?_eq_some_iff.1 hk).1
   omega
  have hkz:zs.getD k 0=x:=by
   rw[List.getElem?_take,if_pos hkl] at hk
   simp[List.getD_eq_getElem?_getD,hk]
  have hc:=hcell k (by omega)
  rw[hkz] at hc
  obtain⟨b,off,spot⟩:=a
  have hs0:=(hseen _ rfl).2
  simp only at hs0
  subst hs0
  rw[add_plain] at hc
  exact⟨b,off,rfl,hc⟩
end Go.Gal
end
section
namespace Go.Gal
open Go Go.Par Go.Proofs Go.RowKit
section
variable (D:Good1) (ld:Nat→Nat)
end
section
variable {Ds:List Good1} {ls:List (List Int)} {h i:Nat} {now:Nat→Nat}
end
section
variable {Ds:List Good1} {ls:List (List Int)}
end
structure AlikeTo (m:Nat) (D D':Good1) (ld ld':Nat→Nat):Prop where
 room:D'.room=D.room
 melts:D'.melts=D.melts
 start:D'.start=D.start
 reserve:D'.reserve=D.reserve
 haul:∀ h,h<m→hlG D' h=hlG D h
 load:∀ h,h<m→ld' h=ld h
section
variable {m:Nat} {D D':Good1} {ld ld':Nat→Nat}
end
def firstK (K:Kt) (m:Nat):Kt:={ K with hauls:=K.hauls.take m }
def gdAt (gs:List Gd) (i:Nat):Gd:=gs.getD i ⟨0,0,0,0⟩
theorem gdAt_get {gs:List Gd} {i:Nat} (h:i<gs.length):gs[i]?=some (gdAt gs i):=by
 unfold gdAt
 rw[List.getD_eq_getElem?_getD,List.getElem?_eq_getElem h]
 rfl
def spareK (K:Kt) (g m:Nat):Kt:=⟨K.goods.set g { gdAt K.goods g with reserve:=0 },K.dishes.map fun d=>d.set g 0,K.hauls.take m⟩
section
variable {K:Kt} {xs:List Int} {ls:List (List Int)} {m g:Nat}
end
structure ShortN (K:Kt) (ms:List Int) (ls:List (List Int)) (haul good:Nat) (room res mel st hours covers d nq N X:Nat) (l ds:List Int):Prop where
 hh:haul<K.hauls.length
 hg:good<K.goods.length
 gd:K.goods[good]?=some ⟨room,res,mel,st⟩
 hl:∃ pr,K.hauls[haul]?=some ⟨hours,covers,pr⟩
 menu:ms[haul]?=some (d:Int)
 hd:d<K.dishes.length
 dish:K.dishes[d]?=some ds
 dlen:ds.length=K.goods.length
 need:ds[good]?=some (nq:Int)
 load:ls[haul]?=some l
 llen:l.length=K.goods.length
 ld:l[good]?=some (X:Int)
 zero:haul=0→N=st
 more : 1≤haul→givenE (firstK K haul) (ms.take haul) (ls.take haul)=0∧(runK (firstK K haul) (ms.take haul) (ls.take haul)).stop=none∧(runK (firstK K haul) (ms.take haul) (ls.take haul)).left.length=haul ∧
   ∃ row,(runK (firstK K haul) (ms.take haul) (ls.take haul)).left[haul-1]?=some row∧row.length=K.goods.length∧row[good]?=some (N:Int)
 short:((N+X-melted hours mel (N+X):Nat):Int)-((covers*nq:Nat):Int)<(res:Int)
 bds:N+X≤room∧room≤20∧hours≤24∧covers≤9∧nq≤3∧mel≤12∧res≤20∧N≤20∧X≤20
 spare:givenE (spareK K good (haul+1)) (ms.take (haul+1)) (ls.take (haul+1))=0
 last:∀ h i er,(runK (spareK K good (haul+1)) (ms.take (haul+1)) (ls.take (haul+1))).stop=some (h,i,er)→er=9∨(er=11∧h=haul∧good<i∧i<K.goods.length)
end Go.Gal
end
section
namespace Go.Gal
open Go Go.Par Go.Proofs Go.RowKit
theorem wrap_of {x v:Int} (h:v=x) (h1 : -1000000≤v) (h2:v≤1000000):IntKind.i64.wrap x=v:=by
 subst h
 rw[IntKind.wrap_i64]
 omega
section
variable {fs:Array Func} [LikeS fs]
variable (K:Kt) (gA dA hA:Option Addr) (gc dc hc:Nat) (xs:List Int) (mA:Option Addr) (mc:Nat) (ls:List (List Int)) (lA:Option Addr) (lc:Nat) (w:World) (k:KtAt w K gA dA hA) (m:Ints w mA xs) (hlen:xs.length≤1000) (hl:DishesAt w lA ls) (hll:ls.length≤1000) (hG:givenE K xs ls=0)
include k m hlen hl hll hG
end
section
variable {fs:Array Func} [Like fs]
end
section
variable {fs:Array Func} [LikeS fs]
end
def behindN:Nat→Code→Code
 | 0,c=>c
 | n+1,.seq _ b=>behindN n b
 | _,c=>c
end Go.Gal
end
section
namespace Go.Gal
open Go Go.Par Go.Proofs Go.RowKit
section
variable {fs:Array Func} [Like fs]
set_option maxRecDepth 20000 in
set_option maxHeartbeats 1000000 in
theorem shaped_yes (K:Kt) (gA dA hA:Option Addr) (gc dc hc:Nat) (A:Option Addr) (c:Nat) (ls:List (List Int)) (w:World) (h:DishesAt w A ls) (hl:ls.length≤1000) (h1:ls.length=K.hauls.length) (h2:∀ l∈ls,l.length=K.goods.length) :
  Calls (Pf fs) 31 #[ktV K gA dA hA gc dc hc,.slice A ls.length c] w fun e w'=>e=.returned (.bool true)∧Grown w w':=by
 unfold ktV
 rw[← h1]
 generalize K.goods.length=ng at *
 generalize K.dishes.length=nd at *
 have HG:=Lib.hid (Grown.alloc w (.cells #[.slice gA ng gc,.slice dA nd dc,.slice hA ls.length hc] 29))
 have HB:=Lib.hid (heap_alloc_new w (.cells #[.slice gA ng gc,.slice dA nd dc,.slice hA ls.length hc] 29))
 have HD:=Lib.hid (h.grown HG.out)
 clear h h1
 go_enter LK.func31,Try.ntmps31
 go_wp2_with fail
 generalize w.alloc (.cells #[.slice gA ng gc,.slice dA nd dc,.slice hA ls.length hc] 29)=w1 at HG HB HD ⊢
 go_loopw [5] (fun i wr=>∃ k:Nat,k≤ls.length∧i=.int .i64 k∧∃ q,wr=w1.drewN q) (fun i _=>ls.length-(intOf i).toNat)
 case atStart=>exact⟨0,by omega,rfl,0,rfl⟩
 case round =>
  obtain⟨k,hk,rfl,q,rfl⟩:=hrel
  have b0:=blk_cell HB.out 0
  simp only[List.getElem?_toArray,List.getElem?_cons_zero,List.getElem?_cons_succ] at b0
  by_cases hkl:k<ls.length
  ·have k1:(k:Int)<(ls.length:Int):=by omega
   obtain⟨b,off,rfl,xA,xc,c1,_,_⟩:=HD.out k _ (List.getElem?_eq_getElem hkl)
   rw[h2 _ (List.getElem_mem hkl)] at c1
   go_wp2_with fail
   go_quiet (fail)
   go_wp2_with fail
   go_roundw
   case rel=>exact⟨k+1,by omega,by go_num,_,rfl⟩
   case measure=>simp[intOf];omega
  ·have k1:¬ (k:Int)<(ls.length:Int):=by omega
   go_wp2_with fail
   go_ret
   exact⟨rfl,HG.out.trans ((Grown.refl _).drewN _)⟩
end
def oneK (K:Kt) (g:Nat):Kt:=⟨[gdAt K.goods g],K.dishes.map fun d=>[d.getD g 0],K.hauls.map fun h=>{ h with prices:=[h.prices.getD g 0] }⟩
theorem getD_of {l:List Int} {g:Nat} (h:g<l.length):l[g]?=some (l.getD g 0):=by
 rw[List.getD_eq_getElem?_getD,List.getElem?_eq_getElem h]
 rfl
theorem oneK_valid {K:Kt} (hC:checkE K=0) {g:Nat} (hg:g<K.goods.length):checkE (oneK K g)=0:=by
 obtain⟨c1,c2,c3⟩:=checkE_zero hC
 obtain⟨g1,g2,g3⟩:=goodsE_zero c1
 obtain⟨h1,h2,h3⟩:=haulsE_zero c3
 have e1:goodsE (oneK K g).goods=0:=by
  unfold goodsE
  rw[manyE_ok (by simp[oneK]) (by simp[oneK]),if_neg (by simp),if_neg]
  have:=g3 _ (List.mem_of_getElem? (gdAt_get hg))
  simp[oneK,this]
 have e2:dishesE (oneK K g).goods.length (oneK K g).dishes=0:=by
  unfold dishesE at c2 ⊢
  rw[show (oneK K g).dishes.length=K.dishes.length by simp[oneK]]
  split at c2
  ·rename_i q;exact absurd c2 q
  ·rename_i q
   rw[if_neg q]
   refine firstE_ok fun d hd=>?_
   simp only[oneK,List.mem_map] at hd
   obtain⟨d0,hd0,rfl⟩:=hd
   obtain⟨a1,a2⟩:=eachE_zero (firstE_zero c2 d0 hd0)
   refine eachE_ok (by simp[oneK]) fun x hx=>?_
   simp only[List.mem_singleton] at hx
   subst hx
   exact a2 _ (List.mem_of_getElem? (getD_of (by omega)))
 have e3:haulsE (oneK K g).goods.length (oneK K g).hauls=0:=by
  refine haulsE_ok (by simpa[oneK] using h1) (by simpa[oneK] using h2) fun x hx=>?_
  simp only[oneK,List.mem_map] at hx
  obtain⟨x0,hx0,rfl⟩:=hx
  obtain⟨a,b,c,d,e,f⟩:=h3 x0 hx0
  refine⟨a,b,c,d,by simp[oneK],fun p hp=>?_⟩
  simp only[List.mem_singleton] at hp
  subst hp
  exact f _ (List.mem_of_getElem? (getD_of (by omega)))
 unfold checkE
 rw[e1,e2,if_neg (by simp),if_neg (by simp),e3]
theorem oneK_asked {K:Kt} {xs:List Int} (hA:askedE K xs=0) {g:Nat} (hg:g<K.goods.length):askedE (oneK K g) xs=0:=by
 obtain⟨hC,hR⟩:=askedE_zero hA
 refine asked_of (oneK_valid hC hg) ?_
 simpa[oneK] using hR
def oneG (K:Kt) (xs:List Int) (g:Nat):Good1:=goodOf K xs g (gdAt K.goods g)
theorem oneK_goods {K:Kt} {xs:List Int} {g:Nat} : dsOf (oneK K g) xs=[oneG K xs g]:=by
 unfold dsOf oneG
 show List.mapIdx _ [gdAt K.goods g]=_
 simp only[List.mapIdx_cons,List.mapIdx_nil]
 congr 1
 unfold goodOf
 congr 1
 simp only[oneK,List.zip_map_left,List.map_map]
 refine List.map_congr_left fun p _=>?_
 obtain⟨h,d⟩:=p
 simp only[Function.comp,Prod.map,id,haulOf]
 congr 1
 simp only[oneK,List.getD_eq_getElem?_getD,List.getElem?_map]
 cases K.dishes[d.toNat]?<;>simp
theorem dsOf_at {K:Kt} {xs:List Int} {g:Nat} (hg:g<K.goods.length):(dsOf K xs)[g]?=some (oneG K xs g):=by
 rw[dsOf_get,gdAt_get hg]
 rfl
theorem oneK_none {K:Kt} {xs:List Int} {g:Nat} : noneB (oneK K g) xs=(planOf (oneG K xs g)).2.2:=by
 unfold noneB
 rw[oneK_goods]
 simp
theorem oneK_cost {K:Kt} {xs:List Int} {g:Nat} : costOf (oneK K g) xs=(planOf (oneG K xs g)).2.1:=by
 unfold costOf costTo
 rw[oneK_goods]
 simp
theorem oneK_rows {K:Kt} {xs:List Int} {g h:Nat} (hh:h<K.hauls.length):(rowsOf (oneK K g) xs)[h]?=some [ldAt h (oneG K xs g)]:=by
 unfold rowsOf
 rw[oneK_goods,rowsTo_get (by simpa[oneK] using hh),if_neg (by omega)]
 rfl
theorem rowsOf_at {K:Kt} {xs:List Int} {h:Nat} (hh:h<K.hauls.length):(rowsOf K xs)[h]?=some ((dsOf K xs).map (ldAt h)):=by
 unfold rowsOf
 rw[rowsTo_get hh,if_neg (by omega),List.take_length]
theorem rowsOf_shape {K:Kt} {xs:List Int} : ∀ l∈rowsOf K xs,l.length=K.goods.length:=fun l hl=>by
 obtain⟨h,hh⟩:=List.getElem?_of_mem hl
 have hlt:h<K.hauls.length:=by have:=(List.getElem?_eq_some_iff.1 hh).1;rwa [rowsOf_len] at this
 rw[rowsOf_at hlt] at hh
 cases hh
 simp[dsOf_len]
theorem rowsOf_cell {K:Kt} {xs:List Int} {h g:Nat} (hg:g<K.goods.length):((dsOf K xs).map (ldAt h))[g]?=some (ldAt h (oneG K xs g)):=by
 rw[List.getElem?_map,dsOf_at hg]
 rfl
def sumTo (K:Kt) (xs:List Int):Nat→Nat
 | 0=>0
 | g+1=>sumTo K xs g+(if (planOf (oneG K xs g)).2.2 then 0 else (planOf (oneG K xs g)).2.1)
def fineTo (K:Kt) (xs:List Int):Nat→Bool
 | 0=>true
 | g+1=>fineTo K xs g&&!(planOf (oneG K xs g)).2.2
theorem fineTo_iff {K:Kt} {xs:List Int} : ∀ {n:Nat},fineTo K xs n=true↔∀ g,g<n→(planOf (oneG K xs g)).2.2=false
 | 0=>⟨fun _ g h=>by omega,fun _=>rfl⟩
 | n+1=>by
  unfold fineTo
  rw[Bool.and_eq_true,fineTo_iff]
  constructor
  ·rintro⟨a,b⟩ g hg
   rcases Nat.lt_or_ge g n with q|q
   ·exact a g q
   ·obtain rfl:g=n:=by omega
    simpa using b
  ·intro h
   exact⟨fun g hg=>h g (by omega),by simpa using h n (by omega)⟩
theorem fineTo_all {K:Kt} {xs:List Int} : fineTo K xs K.goods.length=!noneB K xs:=by
 have key:fineTo K xs K.goods.length=true↔noneB K xs=false:=by
  rw[fineTo_iff]
  unfold noneB
  rw[List.any_eq_false]
  constructor
  ·intro h D hD
   obtain⟨i,hi⟩:=List.getElem?_of_mem hD
   have hlt:i<K.goods.length:=by have:=(List.getElem?_eq_some_iff.1 hi).1;rwa [dsOf_len] at this
   rw[dsOf_at hlt] at hi
   cases hi
   simp[h i hlt]
  ·intro h g hg
   simpa using h _ (List.mem_of_getElem? (dsOf_at hg))
 cases h1:fineTo K xs K.goods.length<;>cases h2:noneB K xs<;>simp_all
theorem sumTo_cost {K:Kt} {xs:List Int} (hf:noneB K xs=false):∀ {n:Nat},n≤K.goods.length→sumTo K xs n=costTo (dsOf K xs) n
 | 0,_=>(costTo_zero _).symm
 | n+1,hn=>by
  have hfn:(planOf (oneG K xs n)).2.2=false:=by
   have:=fineTo_all (K:=K) (xs:=xs)
   rw[hf] at this
   exact fineTo_iff.1 this n (by omega)
  unfold sumTo
  rw[costTo_step (dsOf_at (by omega)),sumTo_cost hf (by omega),if_neg (by simp[hfn])]
theorem sumTo_full {K:Kt} {xs:List Int} (hf:noneB K xs=false):sumTo K xs K.goods.length=costOf K xs:=by
 rw[sumTo_cost hf (Nat.le_refl _)]
 unfold costOf
 rw[dsOf_len]
theorem oneG_cost {K:Kt} {xs:List Int} (hC:checkE K=0) {g:Nat} (hg:g<K.goods.length):(planOf (oneG K xs g)).2.1≤5*65025:=by
 obtain⟨c1,c2,c3⟩:=checkE_zero hC
 obtain⟨g1,g2,g3⟩:=goodsE_zero c1
 obtain⟨h1,h2,h3⟩:=haulsE_zero c3
 obtain⟨b1,b2,_⟩:=badGood_false (g3 _ (List.mem_of_getElem? (gdAt_get hg)))
 have hl:(oneG K xs g).hauls.length≤5:=by
  have:(oneG K xs g).hauls.length=min K.hauls.length xs.length:=by simp[oneG,goodOf]
  omega
 have h:=planFrom_cost (D:=oneG K xs g) (by show (gdAt K.goods g).room.toNat≤255;omega) (oneG K xs g).hauls (oneG K xs g).start fun h hh=>by
  simp only[oneG,goodOf,List.mem_map] at hh
  obtain⟨⟨x,d⟩,hx,rfl⟩:=hh
  obtain⟨_,_,_,_,e,f⟩:=h3 x (List.of_mem_zip hx).1
  have:=f _ (List.mem_of_getElem? (getD_of (l:=x.prices) (g:=g) (by omega)))
  show (x.prices.getD g 0).toNat≤255
  omega
 unfold planOf
 exact Nat.le_trans h (Nat.mul_le_mul_right _ hl)
theorem sumTo_le {K:Kt} {xs:List Int} (hC:checkE K=0):∀ {n:Nat},n≤K.goods.length→sumTo K xs n≤n*(5*65025)
 | 0,_=>Nat.zero_le _
 | n+1,hn=>by
  have h1:=sumTo_le (xs:=xs) hC (n:=n) (by omega)
  have h2:=oneG_cost (xs:=xs) hC (g:=n) (by omega)
  have h3:sumTo K xs (n+1)≤sumTo K xs n+(planOf (oneG K xs n)).2.1:=by
   show sumTo K xs n+_≤_
   split<;>omega
  rw[Nat.add_mul,Nat.one_mul]
  exact Nat.le_trans h3 (Nat.add_le_add h1 h2)
section
variable {fs:Array Func} [LikeS fs]
theorem cheapest_bad (K:Kt) (gA dA hA:Option Addr) (gc dc hc:Nat) (xs:List Int) (mA:Option Addr) (mc:Nat) (w:World) (k:KtAt w K gA dA hA) (m:Ints w mA xs) (hlen:xs.length≤1000) (ha:askedE K xs=0) (hn:noneB K xs=true) :
  Calls (Pf fs) 29 #[ktV K gA dA hA gc dc hc,.slice mA xs.length mc] w fun e w'=>e=.returned (.tuple #[.slice none 0 0,.int .i64 0,.int .i64 11])∧Grown w w':=
 (cheapest_any K gA dA hA gc dc hc xs mA mc w k m hlen).mono fun e w' ⟨v,e1,g,h⟩=>by
  cases h with
  | asked h1=>exact absurd ha h1
  | bad _ h1=>exact⟨e1,g⟩
  | good _ h1 M hM=>rw[hn] at h1;cases h1
theorem cheapest_good (K:Kt) (gA dA hA:Option Addr) (gc dc hc:Nat) (xs:List Int) (mA:Option Addr) (mc:Nat) (w:World) (k:KtAt w K gA dA hA) (m:Ints w mA xs) (hlen:xs.length≤1000) (ha:askedE K xs=0) (hn:noneB K xs=false) :
  Calls (Pf fs) 29 #[ktV K gA dA hA gc dc hc,.slice mA xs.length mc] w fun e w'=>∃ M,e=.returned (.tuple #[.slice (some ⟨M,0,none⟩) K.hauls.length K.hauls.length,.int .i64 (costOf K xs),.int .i64 0])∧Grown w w'∧DishesAt w' (some ⟨M,0,none⟩) (rowsOf K xs):=
 (cheapest_any K gA dA hA gc dc hc xs mA mc w k m hlen).mono fun e w' ⟨v,e1,g,h⟩=>by
  cases h with
  | asked h1=>exact absurd ha h1
  | bad _ h1=>rw[hn] at h1;cases h1
  | good _ h1 M hM=>exact⟨M,e1,g,hM⟩
theorem one_bad (K:Kt) (g:Nat) (gA dA hA:Option Addr) (gc dc hc:Nat) (xs:List Int) (mA:Option Addr) (mc:Nat) (w:World) (k:KtAt w (oneK K g) gA dA hA) (m:Ints w mA xs) (hlen:xs.length≤1000) (ha:askedE K xs=0) (hg:g<K.goods.length) (hn:(planOf (oneG K xs g)).2.2=true) :
  Calls (Pf fs) 29 #[.agg #[.slice gA 1 gc,.slice dA K.dishes.length dc,.slice hA K.hauls.length hc],.slice mA xs.length mc] w fun e w'=>e=.returned (.tuple #[.slice none 0 0,.int .i64 0,.int .i64 11])∧Grown w w':=by
 have h:=cheapest_bad (fs:=fs) (oneK K g) gA dA hA gc dc hc xs mA mc w k m hlen (oneK_asked ha hg) (by rw[oneK_none];exact hn)
 unfold ktV at h
 rw[show (oneK K g).goods.length=1 from rfl,show (oneK K g).dishes.length=K.dishes.length by simp[oneK],show (oneK K g).hauls.length=K.hauls.length by simp[oneK]] at h
 exact h
theorem one_good (K:Kt) (g:Nat) (gA dA hA:Option Addr) (gc dc hc:Nat) (xs:List Int) (mA:Option Addr) (mc:Nat) (w:World) (k:KtAt w (oneK K g) gA dA hA) (m:Ints w mA xs) (hlen:xs.length≤1000) (ha:askedE K xs=0) (hg:g<K.goods.length) (hn:(planOf (oneG K xs g)).2.2=false) :
  Calls (Pf fs) 29 #[.agg #[.slice gA 1 gc,.slice dA K.dishes.length dc,.slice hA K.hauls.length hc],.slice mA xs.length mc] w fun e w'=>∃ M,e=.returned (.tuple #[.slice (some ⟨M,0,none⟩) K.hauls.length K.hauls.length,.int .i64 (planOf (oneG K xs g)).2.1,.int .i64 0])∧Grown w w'∧DishesAt w' (some ⟨M,0,none⟩) (rowsOf (oneK K g) xs):=by
 have h:=cheapest_good (fs:=fs) (oneK K g) gA dA hA gc dc hc xs mA mc w k m hlen (oneK_asked ha hg) (by rw[oneK_none];exact hn)
 unfold ktV at h
 rw[oneK_cost,show (oneK K g).goods.length=1 from rfl,show (oneK K g).dishes.length=K.dishes.length by simp[oneK],show (oneK K g).hauls.length=K.hauls.length by simp[oneK]] at h
 exact h
theorem shaped_one (K:Kt) (g:Nat) (xs:List Int) (gA dA hA:Option Addr) (gc dc hc:Nat) (A:Option Addr) (c:Nat) (w:World) (h:DishesAt w A (rowsOf (oneK K g) xs)) (hn:K.hauls.length≤1000) :
  Calls (Pf fs) 31 #[.agg #[.slice gA 1 gc,.slice dA K.dishes.length dc,.slice hA K.hauls.length hc],.slice A K.hauls.length c] w fun e w'=>e=.returned (.bool true)∧Grown w w':=by
 have e1:(oneK K g).hauls.length=K.hauls.length:=by simp[oneK]
 have h:=shaped_yes (fs:=fs) (oneK K g) gA dA hA gc dc hc A c (rowsOf (oneK K g) xs) w h (by rw[rowsOf_len,e1];exact hn) (rowsOf_len _ _) rowsOf_shape
 unfold ktV at h
 rw[rowsOf_len,show (oneK K g).goods.length=1 from rfl,show (oneK K g).dishes.length=K.dishes.length by simp[oneK],e1] at h
 exact h
theorem shaped_rows (K:Kt) (xs:List Int) (gA dA hA:Option Addr) (gc dc hc:Nat) (A:Option Addr) (c:Nat) (w:World) (h:DishesAt w A (rowsOf K xs)) (hn:K.hauls.length≤1000) :
  Calls (Pf fs) 31 #[ktV K gA dA hA gc dc hc,.slice A K.hauls.length c] w fun e w'=>e=.returned (.bool true)∧Grown w w':=by
 have h:=shaped_yes (fs:=fs) K gA dA hA gc dc hc A c (rowsOf K xs) w h (by rw[rowsOf_len];exact hn) (rowsOf_len _ _) rowsOf_shape
 rw[rowsOf_len] at h
 exact h
theorem one_row {K:Kt} {xs:List Int} {g M:Nat} {w:World} (h:DishesAt w (some ⟨M,0,none⟩) (rowsOf (oneK K g) xs)) {j:Nat} (hj:j<K.hauls.length):∃ qb qo qc,w.cell? ⟨M,j,none⟩=some (.slice (some ⟨qb,qo,none⟩) 1 qc)∧w.cell? ⟨qb,qo,none⟩=some (.int .i64 (ldAt j (oneG K xs g))):=by
 obtain⟨b,o,e,dA,dc,h1,h2,_⟩:=h j _ (oneK_rows hj)
 cases e
 obtain⟨qb,qo,rfl,h3⟩:=h2 0 _ rfl
 exact⟨qb,qo,dc,by simpa using h1,by simpa using h3⟩
theorem all_row {K:Kt} {xs:List Int} {g M:Nat} {w:World} (h:DishesAt w (some ⟨M,0,none⟩) (rowsOf K xs)) {j:Nat} (hj:j<K.hauls.length) (hg:g<K.goods.length):∃ qb qo qc,w.cell? ⟨M,j,none⟩=some (.slice (some ⟨qb,qo,none⟩) K.goods.length qc)∧w.cell? ⟨qb,qo+g,none⟩=some (.int .i64 (ldAt j (oneG K xs g))):=by
 obtain⟨b,o,e,dA,dc,h1,h2,_⟩:=h j _ (rowsOf_at hj)
 cases e
 obtain⟨qb,qo,rfl,h3⟩:=h2 g _ (rowsOf_cell hg)
 exact⟨qb,qo,dc,by simpa[dsOf_len] using h1,h3⟩
end
end Go.Gal
end
section
namespace Go.Gal
open Go Go.Par Go.Proofs Go.RowKit
theorem own_form {w:World} {base:Nat} {A:Option Addr} {c:Nat} {xs:List Int} (h:L.OwnInts w base A c xs) (h0 : 0<xs.length):∃ b,A=some ⟨b,0,none⟩∧base≤b∧(∃ cs,w.heap[b]?=some (.cells cs 3 (0,0)))∧xs.length≤c∧Ints w A xs:=by
 have hc:=own_cap h
 rcases h.2 with ⟨q,_⟩|⟨g,cap,cur,hv,hg,hh,hn,hm,hsz,htk⟩
 ·injection q with _ q1 q2
  omega
 ·injection hv with hA _ hcc
  exact⟨g,hA,hg,⟨_,hh⟩,hc,ints_own h⟩
structure OneF (W0:World) (base:Nat) (K:Kt) (db hb:Nat) (nb nc pb pc:Nat→Nat):Prop where
 ne:db≠hb
 bd:base≤db∧base≤hb
 dish:∀ j d,K.dishes[j]?=some d→Ints W0 (some ⟨nb j,0,none⟩) d∧nb j≠db∧nb j≠hb∧K.goods.length≤nc j
 haul:∀ j h,K.hauls[j]?=some h→Ints W0 (some ⟨pb j,0,none⟩) h.prices∧pb j≠db∧pb j≠hb∧K.goods.length≤pc j
structure OneJ (W0 W:World) (K:Kt) (g db hb n m:Nat) (nb nc pb pc:Nat→Nat):Prop where
 size:W.heap.size=W0.heap.size
 os:W.os=W0.os
 same:∀ b,b≠db→b≠hb→W.heap[b]?=W0.heap[b]?
 drow:∃ cur,W.heap[db]?=some (.cells cur 48 (0,0))∧∀ j,j<K.dishes.length→cur[j]?=some (if j<n then .slice (some ⟨nb j,g,none⟩) 1 (nc j-g) else .slice (some ⟨nb j,0,none⟩) K.goods.length (nc j))
 hrow:∃ cur,W.heap[hb]?=some (.cells cur 46 (0,0))∧∀ j h,K.hauls[j]?=some h→cur[j*3]?=some (.int .i64 h.hours)∧cur[j*3+1]?=some (.int .i64 h.covers)∧cur[j*3+2]?=some (if j<m then .slice (some ⟨pb j,g,none⟩) 1 (pc j-g) else .slice (some ⟨pb j,0,none⟩) K.goods.length (pc j))
theorem KOwn.one {w:World} {base:Nat} {K:Kt} {gA:Option Addr} {gc:Nat} {dA:Option Addr} {dc:Nat} {hA:Option Addr} {hc:Nat} (h:KOwn w base K gA gc dA dc hA hc) (h1 : 1≤K.goods.length) (h2 : 1≤K.dishes.length) (h3 : 1≤K.hauls.length) (hd:∀ d∈K.dishes,d.length=K.goods.length) (hp:∀ x∈K.hauls,x.prices.length=K.goods.length) (g:Nat) :
  ∃ gb db hb nb nc pb pc,gA=some ⟨gb,0,none⟩∧dA=some ⟨db,0,none⟩∧hA=some ⟨hb,0,none⟩∧K.goods.length≤gc∧base≤gb∧gb≠db∧gb≠hb∧GdsAt w gA K.goods∧OneF w base K db hb nb nc pb pc∧OneJ w w K g db hb 0 0 nb nc pb pc:=by
 obtain⟨m,hm1,hm2,hG,hD,hH⟩:=h.ex
 have hGA:=GdList.at_ hG
 have hgc:=RecList.cap hG
 obtain⟨cellsG,AsG,csG,g1,_,_⟩:=hG
 obtain⟨cellsD,AsD,csD,d1,d2,d3⟩:=hD
 obtain⟨cellsH,AsH,csH,k1,k2,k3⟩:=hH
 rcases g1.2 with ⟨q,_⟩|⟨gb,_,curG,hvG,hgG,hhG,_,_,_,_⟩
 ·injection q with _ q1 q2;omega
 injection hvG with eG _ _
 rcases d1.2 with ⟨q,_⟩|⟨db,capD,curD,hvD,hgD,hhD,hnD,_,hszD,htD⟩
 ·injection q with _ q1 q2;omega
 injection hvD with eD _ _
 rcases k1.2 with ⟨q,_⟩|⟨hb,capH,curH,hvH,hgH,hhH,hnH,_,hszH,htH⟩
 ·injection q with _ q1 q2;omega
 injection hvH with eH _ _
 have fD:∀ j d,K.dishes[j]?=some d→∃ b,AsD j=some ⟨b,0,none⟩∧(∃ cs,w.heap[b]?=some (.cells cs 3 (0,0)))∧d.length≤csD j∧Ints w (AsD j) d:=fun j d hj=>by
  obtain⟨_,q2,_⟩:=d2 j d hj
  have hl:=hd d (List.mem_of_getElem? hj)
  obtain⟨b,e1,_,e3,e4,e5⟩:=own_form (xs:=d) q2 (by omega)
  exact⟨b,e1,e3,e4,e5⟩
 have fH:∀ j x,K.hauls[j]?=some x→∃ b,AsH j=some ⟨b,0,none⟩∧(∃ cs,w.heap[b]?=some (.cells cs 3 (0,0)))∧x.prices.length≤csH j∧Ints w (AsH j) x.prices:=fun j x hj=>by
  obtain⟨_,q2,_⟩:=k2 j x hj
  have hl:=hp x (List.mem_of_getElem? hj)
  obtain⟨b,e1,_,e3,e4,e5⟩:=own_form (xs:=x.prices) q2 (by omega)
  exact⟨b,e1,e3,e4,e5⟩
 refine⟨gb,db,hb,fun j=>((AsD j).map (·.block)).getD 0,csD,fun j=>((AsH j).map (·.block)).getD 0,csH,eG,eD,eH,hgc,hgG,fun e=>?_,fun e=>?_,hGA,⟨fun e=>?_,⟨hgD,by omega⟩,fun j d hj=>?_,fun j x hj=>?_⟩,⟨rfl,rfl,fun _ _ _=>rfl,⟨curD,hhD,fun j hj=>?_⟩,⟨curH,hhH,fun j x hj=>?_⟩⟩⟩
 ·exact tag_ne (show w.heap[db]?=some (.cells curG 42 (0,0)) by rw[← e];exact hhG) hhD (by decide) rfl
 ·exact tag_ne (show w.heap[hb]?=some (.cells curG 42 (0,0)) by rw[← e];exact hhG) hhH (by decide) rfl
 ·exact tag_ne (show w.heap[hb]?=some (.cells curD 48 (0,0)) by rw[← e];exact hhD) hhH (by decide) rfl
 ·obtain⟨b,e1,⟨cs,e2⟩,e3,e4⟩:=fD j d hj
  rw[e1] at e4
  have hl:=hd d (List.mem_of_getElem? hj)
  simp only[e1,Option.map_some,Option.getD_some]
  exact⟨e4,tag_ne e2 hhD (by decide),tag_ne e2 hhH (by decide),by omega⟩
 ·obtain⟨b,e1,⟨cs,e2⟩,e3,e4⟩:=fH j x hj
  rw[e1] at e4
  have hl:=hp x (List.mem_of_getElem? hj)
  simp only[e1,Option.map_some,Option.getD_some]
  exact⟨e4,tag_ne e2 hhD (by decide),tag_ne e2 hhH (by decide),by omega⟩
 ·have hjd:=List.getElem?_eq_getElem hj
  obtain⟨q1,_,_⟩:=d2 j _ hjd
  obtain⟨b,e1,_,_,_⟩:=fD j _ hjd
  have:=q1 0 _ rfl
  rw[← htD,List.getElem?_take] at this
  split at this
  ·rw[Array.getElem?_toList] at this
   simp only[Nat.mul_one,Nat.add_zero] at this
   rw[this,hd _ (List.getElem_mem hj)]
   simp[e1]
  ·cases this
 ·obtain⟨q1,_,_⟩:=k2 j _ hj
  obtain⟨b,e1,_,_,_⟩:=fH j _ hj
  have get:∀ i v,(encH x (AsH j) (csH j))[i]?=some v→curH[j*3+i]?=some v:=fun i v hv=>by
   have:=q1 i v hv
   rw[← htH,List.getElem?_take] at this
   split at this
   ·rwa [Array.getElem?_toList] at this
   ·cases this
  refine⟨get 0 _ rfl,get 1 _ rfl,?_⟩
  rw[get 2 _ rfl,hp _ (List.mem_of_getElem? hj)]
  simp[e1]
section
variable {W0 W:World} {base:Nat} {K:Kt} {g db hb n m:Nat} {nb nc pb pc:Nat→Nat}
theorem OneF.grown {W1:World} (f:OneF W0 base K db hb nb nc pb pc) (k:Grown W0 W1):OneF W1 base K db hb nb nc pb pc:=
 ⟨f.ne,f.bd,fun j d hj=>⟨(f.dish j d hj).1.grown k,(f.dish j d hj).2⟩,fun j d hj=>⟨(f.haul j d hj).1.grown k,(f.haul j d hj).2⟩⟩
theorem OneJ.refl_grown {W1:World} (f:OneJ W0 W0 K g db hb n m nb nc pb pc) (k:Grown W0 W1):OneJ W1 W1 K g db hb n m nb nc pb pc:=by
 obtain⟨cur,a1,a2⟩:=f.drow
 obtain⟨cur2,b1,b2⟩:=f.hrow
 exact⟨rfl,rfl,fun _ _ _=>rfl,⟨cur,blk_grown a1 k,a2⟩,⟨cur2,blk_grown b1 k,b2⟩⟩
theorem OneJ.drewN (f:OneJ W0 W K g db hb n m nb nc pb pc) (q:Nat):OneJ W0 (W.drewN q) K g db hb n m nb nc pb pc:=⟨f.size,f.os,f.same,f.drow,f.hrow⟩
theorem OneJ.keeps (f:OneJ W0 W K g db hb n m nb nc pb pc) {b:Nat} (h1:b≠db) (h2:b≠hb) {o:Obj} (h:W0.heap[b]?=some o):W.heap[b]?=some o:=(f.same b h1 h2).trans h
theorem OneJ.cell (f:OneJ W0 W K g db hb n m nb nc pb pc) {p:Addr} (h1:p.block≠db) (h2:p.block≠hb) {v:Value} (h:W0.cell? p=some v):W.cell? p=some v:=(World.cell?_of_block (f.same p.block h1 h2)).trans h
theorem OneJ.dish (f:OneJ W0 W K g db hb n m nb nc pb pc) (F:OneF W0 base K db hb nb nc pb pc) (hn:n<K.dishes.length) :
  W.cell? ⟨db,n,none⟩=some (.slice (some ⟨nb n,0,none⟩) K.goods.length (nc n))∧W.frozen? ⟨db,n,none⟩=false∧OneJ W0 (W.setCell ⟨db,n,none⟩ (.slice (some ⟨nb n,g,none⟩) 1 (nc n-g))) K g db hb (n+1) m nb nc pb pc:=by
 obtain⟨cur,a1,a2⟩:=f.drow
 obtain⟨cur2,b1,b2⟩:=f.hrow
 have hc:=a2 n hn
 rw[if_neg (by omega)] at hc
 have hsz:n<cur.size:=(Array.getElem?_eq_some_iff.1 hc).1
 refine⟨by rw[blk_cell a1];exact hc,blk_frozen a1 _,by rw[size_setCell];exact f.size,f.os,fun b h1 h2=>(Below.heap_setCell _ _ _ _ h1).trans (f.same b h1 h2),⟨_,blk_set a1 _,fun j hj=>?_⟩,⟨cur2,(Below.heap_setCell _ _ _ _ (Ne.symm F.ne)).trans b1,b2⟩⟩
 by_cases hjn:j=n
 ·subst hjn
  rw[Array.getElem?_setIfInBounds_self_of_lt hsz,if_pos (by omega)]
 ·rw[Array.getElem?_setIfInBounds_ne (Ne.symm hjn),a2 j hj]
  by_cases h:j<n
  ·rw[if_pos h,if_pos (by omega)]
  ·rw[if_neg h,if_neg (by omega)]
theorem OneJ.haul (f:OneJ W0 W K g db hb n m nb nc pb pc) (F:OneF W0 base K db hb nb nc pb pc) (hm:m<K.hauls.length) :
  W.cell? ⟨hb,m*3+2,none⟩=some (.slice (some ⟨pb m,0,none⟩) K.goods.length (pc m))∧W.frozen? ⟨hb,m*3+2,none⟩=false∧OneJ W0 (W.setCell ⟨hb,m*3+2,none⟩ (.slice (some ⟨pb m,g,none⟩) 1 (pc m-g))) K g db hb n (m+1) nb nc pb pc:=by
 obtain⟨cur,a1,a2⟩:=f.drow
 obtain⟨cur2,b1,b2⟩:=f.hrow
 obtain⟨_,_,hc⟩:=b2 m _ (List.getElem?_eq_getElem hm)
 rw[if_neg (by omega)] at hc
 have hsz:m*3+2<cur2.size:=(Array.getElem?_eq_some_iff.1 hc).1
 refine⟨by rw[blk_cell b1];exact hc,blk_frozen b1 _,by rw[size_setCell];exact f.size,f.os,fun b h1 h2=>(Below.heap_setCell _ _ _ _ h2).trans (f.same b h1 h2),⟨cur,(Below.heap_setCell _ _ _ _ F.ne).trans a1,a2⟩,⟨_,blk_set b1 _,fun j h hj=>?_⟩⟩
 obtain⟨c0,c1,c2⟩:=b2 j h hj
 refine⟨by rw[Array.getElem?_setIfInBounds_ne (by omega)];exact c0,by rw[Array.getElem?_setIfInBounds_ne (by omega)];exact c1,?_⟩
 by_cases hjm:j=m
 ·subst hjm
  rw[Array.getElem?_setIfInBounds_self_of_lt hsz,if_pos (by omega)]
 ·rw[Array.getElem?_setIfInBounds_ne (by omega),c2]
  by_cases h:j<m
  ·rw[if_pos h,if_pos (by omega)]
  ·rw[if_neg h,if_neg (by omega)]
theorem OneJ.kt {gb:Nat} (f:OneJ W0 W K g db hb K.dishes.length K.hauls.length nb nc pb pc) (F:OneF W0 base K db hb nb nc pb pc) (hG:GdsAt W0 (some ⟨gb,0,none⟩) K.goods) (h1:gb≠db) (h2:gb≠hb) (hg:g<K.goods.length) (hd:∀ d∈K.dishes,d.length=K.goods.length) (hp:∀ x∈K.hauls,x.prices.length=K.goods.length) (nd:K.dishes.length≤1000) (nh:K.hauls.length≤1000) :
  KtAt W (oneK K g) (some ⟨gb,g*4,none⟩) (some ⟨db,0,none⟩) (some ⟨hb,0,none⟩):=by
 obtain⟨cur,a1,a2⟩:=f.drow
 obtain⟨cur2,b1,b2⟩:=f.hrow
 have one:∀ {b:Nat} {xs:List Int},b≠db→b≠hb→g<xs.length→Ints W0 (some ⟨b,0,none⟩) xs→Ints W (some ⟨b,g,none⟩) [xs.getD g 0]:=fun {b xs} q1 q2 hl hi k x hk=>by
  rcases k with _|k
  ·simp only[List.getElem?_cons_zero] at hk
   cases hk
   obtain⟨b',o',e,hc⟩:=hi g _ (getD_of hl)
   cases e
   refine⟨_,_,rfl,f.cell (p:=⟨b,g+0,none⟩) q1 q2 ?_⟩
   simpa using hc
  ·simp at hk
 refine⟨fun j x hj=>?_,fun j x hj=>?_,fun j x hj=>?_,by simp[oneK],by simpa[oneK] using nd,by simpa[oneK] using nh⟩
 ·rcases j with _|j
  ·simp only[oneK,List.getElem?_cons_zero] at hj
   cases hj
   obtain⟨b,o,e,x1,x2,x3,x4⟩:=hG g _ (gdAt_get hg)
   cases e
   simp only[Nat.zero_add] at x1 x2 x3 x4
   refine⟨gb,g*4,rfl,?_,?_,?_,?_⟩
   ·simpa using f.cell (p:=⟨gb,g*4,none⟩) h1 h2 x1
   ·simpa using f.cell (p:=⟨gb,g*4+1,none⟩) h1 h2 x2
   ·simpa using f.cell (p:=⟨gb,g*4+2,none⟩) h1 h2 x3
   ·simpa using f.cell (p:=⟨gb,g*4+3,none⟩) h1 h2 x4
  ·simp[oneK] at hj
 ·simp only[oneK,List.getElem?_map,Option.map_eq_some_iff] at hj
  obtain⟨d,hj,rfl⟩:=hj
  have hjl:=(List.getElem?_eq_some_iff.1 hj).1
  obtain⟨q1,q2,q3,_⟩:=F.dish j d hj
  have hl:=hd d (List.mem_of_getElem? hj)
  have hc:=a2 j hjl
  rw[if_pos hjl] at hc
  exact⟨db,0,rfl,_,_,by rw[Nat.zero_add,blk_cell a1];exact hc,one q2 q3 (by omega) q1,by simp⟩
 ·simp only[oneK,List.getElem?_map,Option.map_eq_some_iff] at hj
  obtain⟨x,hj,rfl⟩:=hj
  have hjl:=(List.getElem?_eq_some_iff.1 hj).1
  obtain⟨q1,q2,q3,_⟩:=F.haul j x hj
  have hl:=hp x (List.mem_of_getElem? hj)
  obtain⟨c0,c1,c2⟩:=b2 j x hj
  rw[if_pos hjl] at c2
  exact⟨hb,0,rfl,_,_,by rw[Nat.zero_add,blk_cell b1];exact c0,by rw[Nat.zero_add,blk_cell b1];exact c1,by rw[Nat.zero_add,blk_cell b1];exact c2,one q2 q3 (by omega) q1,by simp⟩
end
end Go.Gal
end
