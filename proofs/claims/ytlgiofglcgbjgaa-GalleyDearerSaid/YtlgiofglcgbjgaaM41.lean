/- A law of the Galley over one list of numbers that answers true and leaves old memory alone, as its row asks it: from its contract on S to the row. Plain laws of runs: each good by .. -/
import Derived.Test.YtlgiofglcgbjgaaRows
import Derived.Test.YtlgiofglcgbjgaaM40
import Derived.Conc.LeavingOf
import Derived.OpenShut
import Derived.ChangeSame
import Derived.Carry
import Derived.Lib.SliceRun
import Derived.Deep.Upon
import Derived.Deep.MidRow
namespace Go.Gal
open Go Go.Par Go.Proofs Go.RowKit
section
open Go.ChangeShapes Go.WideShapes Go.ChangeAt
theorem own_knob:ownKnob Try.prog.godebug=none:=by kernel_rfl
theorem laid_out:laidOutB Try.prog=true:=by kernel_rfl
theorem cells_int:Try.prog.cellsOf 3=1:=by kernel_rfl
theorem readable_nums:Try.prog.readableRec 22=true:=by kernel_rfl
theorem nums_row : 22<Try.prog.types.size:=of_decide_eq_true (by kernel_rfl)
theorem no_globals:S.globals.size=0:=by kernel_rfl
section
variable {H:Type} {enc:TypeId×Value→H} {P:Program}
theorem post_of_below {f:Func} {s:ChangeSpec} {apart fresh handsOn again:Bool} {W W':World} {args:Array Value} {v:Value} {ds gs:List (DataW H)} {before pa pv:List MemPlace}
  (hW:DataW.Whole enc P f.params.toList s.vars apart W args.toList ds gs before)
  (hres:∀ (b:Nat) (sp:Nat→Bool) (hd:Bool),DataW.TrodAll enc P W' b sp hd f.resultTypes.toList (v.resultList f.resultTypes.size) (s.fn H (ds++gs)).results [])
  (hargs:∀ sp:Nat→Bool,(∀ p∈before,sp p.block=true)→DataW.TrodAll enc P W' 0 sp true f.params.toList args.toList (s.fn H (ds++gs)).args pa)
  (hvars:∀ sp:Nat→Bool,(∀ p∈before,sp p.block=true)→DataW.TrodVars enc P W' sp s.vars (s.fn H (ds++gs)).vars pv)
  (hps:before=pa++pv) (hb:Below W.heap.size W W')
  (hok:∀ (j:Nat) (t:TypeId) (r:Value),f.resultTypes[j]?=some t→(v.resultList f.resultTypes.size)[j]?=some r→Value.okWide P W' .any 0 t r) :
  s.post enc P f apart fresh handsOn again W args v W':=by
 have hlt:∀ p∈before,p.block<W.heap.size:=fun p hp=>hW.lt p hp
 have hold:∀ p∈before,(fun b=>decide (b<W.heap.size)) p.block=true:=fun p hp=>by simpa using hlt p hp
 refine⟨ds,gs,before,[],pa,pv,hW,hres _ _ _,hargs _ hold,hvars _ hold,World.keptBut_mono (fun p hp=>⟨hp,?_⟩) (hb.frame (·∈before)),fun _=>?_⟩
 ·rw[hps,List.mem_append] at hp
  exact Or.inr hp
 ·obtain⟨_,_,_,_,_,hz,hn⟩:=hW
  refine⟨hok,_,_,([]++pa)++pv,⟨[]++pa,pv,trodAll_append (hargs _ (fun _ _=>rfl)) (hres _ _ _),hvars _ (fun _ _=>rfl),rfl,?_,?_⟩,?_⟩
  ·intro b off hp
   have hin:MemPlace.cell b off∈before:=by rw[hps];simpa using hp
   rw[hb.frozen (hlt _ hin)]
   exact hz b off hin
  ·intro ha
   have:=hn ha
   rw[hps] at this
   simpa using this
  ·intro p hp _
   rw[hps]
   simpa using hp
end
def Walked (F:FuncId):Prop:=∀ (A:Option Addr) (cp:Nat) (xs:List Int) (w:World),Ints w A xs→xs.length≤9223372036854775807 →
 Calls S F #[.slice A xs.length cp] w fun e _=>e=.returned (.bool true)
theorem walked_of {F:FuncId} (h:∀ (ns:List Int) (A:Option Addr) (c:Nat) (w:World),Ints w A ns→ns.length≤9223372036854775807→Calls (Pf S.funcs) F #[.slice A ns.length c] w fun e _=>e=.returned (.bool true)):Walked F:=fun A c xs w hx hl=>by
 have:=h xs A c w hx hl
 rwa [pf_S] at this
set_option maxRecDepth 100000 in
theorem okWide_seen {W:World} {base:Nat} {A:Option Addr} {len cap:Nat} (h:Value.okWide Try.prog W .any base 22 (.slice A len cap)):∀ p,A=some p→Seen W p.block∧p.spot=none:=by
 rintro p rfl
 simp only[Value.okWide,Try.underlying22,Cell.okWide,Cell.ok] at h
 obtain⟨_,_,_,hsp,row,cells,hs,_⟩:=h
 refine⟨?_,hsp⟩
 unfold World.shape? at hs
 split at hs
 ·rename_i c t m hc
  exact⟨_,_,_,hc⟩
 ·cases hs
set_option maxRecDepth 100000 in
theorem nums_runs {F:FuncId} {fn:Func} {s:ChangeSpec} {apart fresh handsOn again:Bool} (hF:¬ FSt F) (hini:Try.prog.inits.idxOf? F=none) (hp:fn.params=#[22]) (hr:fn.resultTypes=#[4]) (hv:s.vars=[])
  (hs:∀ (H:Type) (d:DataW H),(s.fn H [d]).results=[.lit (.bool true)]∧(s.fn H [d]).args=[d]∧(s.fn H [d]).vars=[]) (hw:Walked F)
  (H:Type) (enc:TypeId×Value→H) (W:World) (base:Nat) (args:Array Value) (ds gs:List (DataW H)) (before:List MemPlace)
  (hval:∀ (j:Nat) t v,fn.params[j]?=some t→args[j]?=some v→Value.okWide Try.prog W .any base t v)
  (hW:DataW.Whole enc Try.prog fn.params.toList s.vars apart W args.toList ds gs before) :
  ∃ M last o w' t',runNT Try.prog (M+1) (Go.Conc.solo (Go.Conc.G (Frame.enter Try.prog F args .normal) []) W) #[]=(.ended o w',t')∧runN Try.prog M (Go.Conc.solo (Go.Conc.G (Frame.enter Try.prog F args .normal) []) W)=.next last ∧
   step Try.prog last=.ended o w'∧Go.Conc.Good Try.prog (fun v W'=>s.post enc Try.prog fn apart fresh handsOn again W args v W') last o w' t':=by
 have hW':=hW
 obtain⟨p,q,hA0,hV,rfl,hfz,hnd⟩:=hW
 have hA:DataW.TrodAll enc Try.prog W 0 (fun _=>true) true fn.params.toList args.toList ds p:=hA0
 rw[hp] at hA hval
 rw[hv] at hV
 obtain⟨v0,d0,rfl,rfl,h0⟩:=trodAll_one hA
 obtain⟨rfl,rfl⟩:=trodVars_none hV
 obtain⟨a0,len,cap,rfl⟩:=okWide_slice Try.underlying22 (hval 0 22 v0 rfl rfl)
 have hseen:=okWide_seen (hval 0 22 _ rfl rfl)
 have h0k:=h0
 obtain⟨fuel,hf⟩:=h0
 clear hA0
 simp only[List.append_nil] at hW'
 have hlt:∀ x∈p,x.block<W.heap.size:=fun x hx=>by simpa using hW'.lt x hx
 have hclose:∀ xs:List Int,xs.length=len→Ints W a0 xs→xs.length≤9223372036854775807 →
   ∃ M last o w' t',runNT Try.prog (M+1) (Go.Conc.solo (Go.Conc.G (Frame.enter Try.prog F #[.slice a0 len cap] .normal) []) W) #[]=(.ended o w',t')∧runN Try.prog M (Go.Conc.solo (Go.Conc.G (Frame.enter Try.prog F #[.slice a0 len cap] .normal) []) W)=.next last ∧
   step Try.prog last=.ended o w'∧Go.Conc.Good Try.prog (fun v W'=>s.post enc Try.prog fn apart fresh handsOn again W #[.slice a0 len cap] v W') last o w' t':=fun xs hx hi hl=>by
  subst hx
  have hN:∀ b,(∃ p,a0=some p∧p.block=b)→Seen W b:=fun b ⟨p,hp,hb⟩=>hb▸(hseen p hp).1
  have hrel:VsRel (idS fun b=>∃ p,a0=some p∧p.block=b) #[.slice a0 xs.length cap] #[.slice a0 xs.length cap]:=by
   refine⟨rfl,fun i x y h1 h2=>?_⟩
   rcases i with _|i
   ·simp at h1 h2
    subst h1 h2
    refine .slice _ _ ?_
    cases a0 with
    | none=>exact .none
    | some p =>
     obtain⟨b,off,spot⟩:=p
     have:=(hseen _ rfl).2
     simp only at this
     subst this
     exact .some ⟨⟨rfl,_,rfl,rfl⟩,rfl,rfl⟩
   ·simp at h1
  have hmi:∀ t,Ints { maskS (fun b=>∃ p,a0=some p∧p.block=b) W with tape:=t } a0 xs:=fun t k x hk=>by
   obtain⟨b,off,e,hc⟩:=hi k x hk
   exact⟨b,off,e,maskW_cell (N:=fun b=>∃ p,a0=some p∧p.block=b) ⟨_,e,rfl⟩ hc (.int _ _)⟩
  obtain⟨M,last,o,w',t',h1,h2,h3,h4⟩:=law_runs cheapOn_S cheapOn_Sw hF hini hN (by rw[no_globals];exact Nat.zero_le _) hrel fun t=>hw a0 cap xs _ (hmi t) hl
  refine⟨M,last,o,w',t',h1,h2,h3,h4.mono fun v hv1=>?_⟩
  obtain⟨rfl,g1,g2,g3⟩:=hv1
  have hb:Below W.heap.size W w':=⟨g3.os,g3.tape,g3.output,g1,g2⟩
  obtain⟨e1,e2,e3⟩:=hs H d0
  refine post_of_below (pa:=p) (pv:=[]) hW' (fun b sp hd=>?_) (fun sp hsp=>?_) (fun sp _=>?_) (by simp) hb (fun j t r hj hr2=>?_)
  ·rw[hr]
   show DataW.TrodAll enc Try.prog w' b sp hd [4] [.bool true] (s.fn H [d0]).results []
   rw[e1]
   exact trodAll_cons_mk (shut_bool Try.underlying4 _) trodAll_mk0
  ·rw[hp]
   show DataW.TrodAll enc Try.prog w' 0 sp true [22] [.slice a0 xs.length cap] (s.fn H [d0]).args p
   rw[e2]
   exact trodAll_mk1 (WideElems.Trod_stays laid_out readable_nums nums_row h0k (fun x hx=>hb.same (hlt x hx)) (fun x hx=>hsp x hx))
  ·rw[hv]
   show DataW.TrodVars enc Try.prog w' sp [] (s.fn H [d0]).vars []
   rw[e3]
   rfl
  ·exact ok_one hr rfl (okWide_bool_mk Try.underlying4 _) j t r hj hr2
 rcases open_ints Try.underlying22 Try.underlying3 cells_int hf with ⟨hcs,hx⟩|⟨a,len',cap',zs,hcs,_,hl,hm,hz,hx,hcell,hwz⟩
 ·simp[Value.cells] at hcs
  obtain⟨rfl,rfl,rfl⟩:=hcs
  exact hclose [] rfl (fun k x h=>by simp at h) (by simp)
 ·simp[Value.cells] at hcs
  obtain⟨rfl,rfl,rfl⟩:=hcs
  simp only[if_true] at hz
  simp only[Prod.mk.injEq] at hx
  obtain⟨_,rfl⟩:=hx
  have hlen:(zs.take len).length=len:=by rw[List.length_take];omega
  refine hclose (zs.take len) hlen (fun k x hk=>?_) (by rw[hlen];simp only[maxLen] at hm;omega)
  have hkl:k<len:=by
   have:=(List.getElem?_eq_some_iff.1 hk).1
   omega
  have hkz:zs.getD k 0=x:=by
   rw[List.getElem?_take,if_pos hkl] at hk
   simp[List.getD_eq_getElem?_getD,hk]
  have hc:=hcell k (by omega)
  rw[hkz] at hc
  obtain⟨b,off,spot⟩:=a
  have hs0:=(hseen _ rfl).2
  simp only at hs0
  subst hs0
  rw[add_plain] at hc
  exact⟨b,off,rfl,hc⟩
end
section
section
variable (D:Good1) (ld:Nat→Nat)
end
section
variable {Ds:List Good1} {ls:List (List Int)} {h i:Nat} {now:Nat→Nat}
end
section
variable {Ds:List Good1} {ls:List (List Int)}
end
structure AlikeTo (m:Nat) (D D':Good1) (ld ld':Nat→Nat):Prop where
 room:D'.room=D.room
 melts:D'.melts=D.melts
 start:D'.start=D.start
 reserve:D'.reserve=D.reserve
 haul:∀ h,h<m→hlG D' h=hlG D h
 load:∀ h,h<m→ld' h=ld h
section
variable {m:Nat} {D D':Good1} {ld ld':Nat→Nat}
end
def firstK (K:Kt) (m:Nat):Kt:={ K with hauls:=K.hauls.take m }
def gdAt (gs:List Gd) (i:Nat):Gd:=gs.getD i ⟨0,0,0,0⟩
theorem gdAt_get {gs:List Gd} {i:Nat} (h:i<gs.length):gs[i]?=some (gdAt gs i):=by
 unfold gdAt
 rw[List.getD_eq_getElem?_getD,List.getElem?_eq_getElem h]
 rfl
def spareK (K:Kt) (g m:Nat):Kt:=⟨K.goods.set g { gdAt K.goods g with reserve:=0 },K.dishes.map fun d=>d.set g 0,K.hauls.take m⟩
section
variable {K:Kt} {xs:List Int} {ls:List (List Int)} {m g:Nat}
end
structure ShortN (K:Kt) (ms:List Int) (ls:List (List Int)) (haul good:Nat) (room res mel st hours covers d nq N X:Nat) (l ds:List Int):Prop where
 hh:haul<K.hauls.length
 hg:good<K.goods.length
 gd:K.goods[good]?=some ⟨room,res,mel,st⟩
 hl:∃ pr,K.hauls[haul]?=some ⟨hours,covers,pr⟩
 menu:ms[haul]?=some (d:Int)
 hd:d<K.dishes.length
 dish:K.dishes[d]?=some ds
 dlen:ds.length=K.goods.length
 need:ds[good]?=some (nq:Int)
 load:ls[haul]?=some l
 llen:l.length=K.goods.length
 ld:l[good]?=some (X:Int)
 zero:haul=0→N=st
 more : 1≤haul→qp (firstK K haul) (ms.take haul) (ls.take haul)=0∧(runK (firstK K haul) (ms.take haul) (ls.take haul)).stop=none∧(runK (firstK K haul) (ms.take haul) (ls.take haul)).left.length=haul ∧
   ∃ row,(runK (firstK K haul) (ms.take haul) (ls.take haul)).left[haul-1]?=some row∧row.length=K.goods.length∧row[good]?=some (N:Int)
 short:((N+X-melted hours mel (N+X):Nat):Int)-((covers*nq:Nat):Int)<(res:Int)
 bds:N+X≤room∧room≤20∧hours≤24∧covers≤9∧nq≤3∧mel≤12∧res≤20∧N≤20∧X≤20
 spare:qp (spareK K good (haul+1)) (ms.take (haul+1)) (ls.take (haul+1))=0
 last:∀ h i er,(runK (spareK K good (haul+1)) (ms.take (haul+1)) (ls.take (haul+1))).stop=some (h,i,er)→er=9∨(er=11∧h=haul∧good<i∧i<K.goods.length)
end
section
theorem wrap_of {x v:Int} (h:v=x) (h1 : -1000000≤v) (h2:v≤1000000):IntKind.i64.wrap x=v:=by
 subst h
 rw[IntKind.wrap_i64]
 omega
section
variable {fs:Array Func} [LikeS fs]
variable (K:Kt) (gA dA hA:Option Addr) (gc dc hc:Nat) (xs:List Int) (mA:Option Addr) (mc:Nat) (ls:List (List Int)) (lA:Option Addr) (lc:Nat) (w:World) (k:KtAt w K gA dA hA) (m:Ints w mA xs) (hlen:xs.length≤1000) (hl:DishesAt w lA ls) (hll:ls.length≤1000) (hG:qp K xs ls=0)
include k m hlen hl hll hG
end
section
variable {fs:Array Func} [Like fs]
end
section
variable {fs:Array Func} [LikeS fs]
end
def behindN:Nat→Code→Code
 | 0,c=>c
 | n+1,.seq _ b=>behindN n b
 | _,c=>c
end
section
section
variable {fs:Array Func} [LikeS fs]
end
end
section
section
variable {fs:Array Func} [LikeS fs]
end
end
section
section
variable {fs:Array Func} [Like fs]
set_option maxRecDepth 20000 in
set_option maxHeartbeats 1000000 in
theorem shaped_yes (K:Kt) (gA dA hA:Option Addr) (gc dc hc:Nat) (A:Option Addr) (c:Nat) (ls:List (List Int)) (w:World) (h:DishesAt w A ls) (hl:ls.length≤1000) (h1:ls.length=K.hauls.length) (h2:∀ l∈ls,l.length=K.goods.length) :
  Calls (Pf fs) 31 #[ktV K gA dA hA gc dc hc,.slice A ls.length c] w fun e w'=>e=.returned (.bool true)∧Grown w w':=by
 unfold ktV
 rw[← h1]
 generalize K.goods.length=ng at *
 generalize K.dishes.length=nd at *
 have HG:=Lib.hid (Grown.alloc w (.cells #[.slice gA ng gc,.slice dA nd dc,.slice hA ls.length hc] 29))
 have HB:=Lib.hid (heap_alloc_new w (.cells #[.slice gA ng gc,.slice dA nd dc,.slice hA ls.length hc] 29))
 have HD:=Lib.hid (h.grown HG.out)
 clear h h1
 go_enter LK.func31,Try.ntmps31
 go_wp2_with fail
 generalize w.alloc (.cells #[.slice gA ng gc,.slice dA nd dc,.slice hA ls.length hc] 29)=w1 at HG HB HD ⊢
 go_loopw [5] (fun i wr=>∃ k:Nat,k≤ls.length∧i=.int .i64 k∧∃ q,wr=w1.drewN q) (fun i _=>ls.length-(intOf i).toNat)
 case atStart=>exact⟨0,by omega,rfl,0,rfl⟩
 case round =>
  obtain⟨k,hk,rfl,q,rfl⟩:=hrel
  have b0:=za HB.out 0
  simp only[List.getElem?_toArray,List.getElem?_cons_zero] at b0
  by_cases hkl:k<ls.length
  ·have k1:(k:Int)<(ls.length:Int):=by omega
   obtain⟨b,off,rfl,xA,xc,c1,_,_⟩:=HD.out k _ (List.getElem?_eq_getElem hkl)
   rw[h2 _ (List.getElem_mem hkl)] at c1
   go_wp2_with fail
   go_quiet (fail)
   go_wp2_with fail
   go_roundw
   case rel=>exact⟨k+1,by omega,by go_num,_,rfl⟩
   case measure=>simp[intOf];omega
  ·have k1:¬ (k:Int)<(ls.length:Int):=by omega
   go_wp2_with fail
   go_ret
   exact⟨rfl,HG.out.trans ((Grown.refl _).drewN _)⟩
end
def oneK (K:Kt) (g:Nat):Kt:=⟨[gdAt K.goods g],K.dishes.map fun d=>[d.getD g 0],K.hauls.map fun h=>{ h with prices:=[h.prices.getD g 0] }⟩
theorem getD_of {l:List Int} {g:Nat} (h:g<l.length):l[g]?=some (l.getD g 0):=by
 rw[List.getD_eq_getElem?_getD,List.getElem?_eq_getElem h]
 rfl
theorem oneK_valid {K:Kt} (hC:zF K=0) {g:Nat} (hg:g<K.goods.length):zF (oneK K g)=0:=by
 obtain⟨c1,c2,c3⟩:=zV hC
 obtain⟨g1,g2,g3⟩:=goodsE_zero c1
 obtain⟨h1,h2,h3⟩:=qd c3
 have e1:goodsE (oneK K g).goods=0:=by
  unfold goodsE
  rw[manyE_ok (by simp[oneK]) (by simp[oneK]),if_neg (by simp),if_neg]
  have:=g3 _ (List.mem_of_getElem? (gdAt_get hg))
  simp[oneK,this]
 have e2:qB (oneK K g).goods.length (oneK K g).dishes=0:=by
  unfold qB at c2 ⊢
  rw[show (oneK K g).dishes.length=K.dishes.length by simp[oneK]]
  split at c2
  ·rename_i q;exact absurd c2 q
  ·rename_i q
   rw[if_neg q]
   refine firstE_ok fun d hd=>?_
   simp only[oneK,List.mem_map] at hd
   obtain⟨d0,hd0,rfl⟩:=hd
   obtain⟨a1,a2⟩:=eachE_zero (firstE_zero c2 d0 hd0)
   refine eachE_ok (by simp[oneK]) fun x hx=>?_
   simp only[List.mem_singleton] at hx
   subst hx
   exact a2 _ (List.mem_of_getElem? (getD_of (by omega)))
 have e3:haulsE (oneK K g).goods.length (oneK K g).hauls=0:=by
  refine haulsE_ok (by simpa[oneK] using h1) (by simpa[oneK] using h2) fun x hx=>?_
  simp only[oneK,List.mem_map] at hx
  obtain⟨x0,hx0,rfl⟩:=hx
  obtain⟨a,b,c,d,e,f⟩:=h3 x0 hx0
  refine⟨a,b,c,d,by simp[oneK],fun p hp=>?_⟩
  simp only[List.mem_singleton] at hp
  subst hp
  exact f _ (List.mem_of_getElem? (getD_of (by omega)))
 unfold zF
 rw[e1,e2,if_neg (by simp),if_neg (by simp),e3]
def oneG (K:Kt) (xs:List Int) (g:Nat):Good1:=goodOf K xs g (gdAt K.goods g)
theorem oneK_goods {K:Kt} {xs:List Int} {g:Nat} : dsOf (oneK K g) xs=[oneG K xs g]:=by
 unfold dsOf oneG
 show List.mapIdx _ [gdAt K.goods g]=_
 simp only[List.mapIdx_cons,List.mapIdx_nil]
 congr 1
 unfold goodOf
 congr 1
 simp only[oneK,List.zip_map_left,List.map_map]
 refine List.map_congr_left fun p _=>?_
 obtain⟨h,d⟩:=p
 simp only[Function.comp,Prod.map,id,haulOf]
 congr 1
 simp only[List.getD_eq_getElem?_getD,List.getElem?_map]
 cases K.dishes[d.toNat]?<;>simp
theorem dsOf_at {K:Kt} {xs:List Int} {g:Nat} (hg:g<K.goods.length):(dsOf K xs)[g]?=some (oneG K xs g):=by
 rw[dsOf_get,gdAt_get hg]
 rfl
theorem oneK_rows {K:Kt} {xs:List Int} {g h:Nat} (hh:h<K.hauls.length):(rowsOf (oneK K g) xs)[h]?=some [ldAt h (oneG K xs g)]:=by
 unfold rowsOf
 rw[oneK_goods,rowsTo_get (by simpa[oneK] using hh),if_neg (by omega)]
 rfl
theorem rowsOf_at {K:Kt} {xs:List Int} {h:Nat} (hh:h<K.hauls.length):(rowsOf K xs)[h]?=some ((dsOf K xs).map (ldAt h)):=by
 unfold rowsOf
 rw[rowsTo_get hh,if_neg (by omega),List.take_length]
theorem rowsOf_shape {K:Kt} {xs:List Int} : ∀ l∈rowsOf K xs,l.length=K.goods.length:=fun l hl=>by
 obtain⟨h,hh⟩:=List.getElem?_of_mem hl
 have hlt:h<K.hauls.length:=by have:=(List.getElem?_eq_some_iff.1 hh).1;rwa [rowsOf_len] at this
 rw[rowsOf_at hlt] at hh
 cases hh
 simp[dsOf_len]
theorem rowsOf_cell {K:Kt} {xs:List Int} {h g:Nat} (hg:g<K.goods.length):((dsOf K xs).map (ldAt h))[g]?=some (ldAt h (oneG K xs g)):=by
 rw[List.getElem?_map,dsOf_at hg]
 rfl
def sumTo (K:Kt) (xs:List Int):Nat→Nat
 | 0=>0
 | g+1=>sumTo K xs g+(if (zf (oneG K xs g)).2.2 then 0 else (zf (oneG K xs g)).2.1)
def fineTo (K:Kt) (xs:List Int):Nat→Bool
 | 0=>true
 | g+1=>fineTo K xs g&&!(zf (oneG K xs g)).2.2
theorem fineTo_iff {K:Kt} {xs:List Int} : ∀ {n:Nat},fineTo K xs n=true↔∀ g,g<n→(zf (oneG K xs g)).2.2=false
 | 0=>⟨fun _ g h=>by omega,fun _=>rfl⟩
 | n+1=>by
  unfold fineTo
  rw[Bool.and_eq_true,fineTo_iff]
  constructor
  ·rintro⟨a,b⟩ g hg
   rcases Nat.lt_or_ge g n with q|q
   ·exact a g q
   ·obtain rfl:g=n:=by omega
    simpa using b
  ·intro h
   exact⟨fun g hg=>h g (by omega),by simpa using h n (by omega)⟩
theorem fineTo_all {K:Kt} {xs:List Int} : fineTo K xs K.goods.length=!noneB K xs:=by
 have key:fineTo K xs K.goods.length=true↔noneB K xs=false:=by
  rw[fineTo_iff]
  unfold noneB
  rw[List.any_eq_false]
  constructor
  ·intro h D hD
   obtain⟨i,hi⟩:=List.getElem?_of_mem hD
   have hlt:i<K.goods.length:=by have:=(List.getElem?_eq_some_iff.1 hi).1;rwa [dsOf_len] at this
   rw[dsOf_at hlt] at hi
   cases hi
   simp[h i hlt]
  ·intro h g hg
   simpa using h _ (List.mem_of_getElem? (dsOf_at hg))
 cases h1:fineTo K xs K.goods.length<;>cases h2:noneB K xs<;>simp_all
theorem sumTo_cost {K:Kt} {xs:List Int} (hf:noneB K xs=false):∀ {n:Nat},n≤K.goods.length→sumTo K xs n=costTo (dsOf K xs) n
 | 0,_=>(costTo_zero _).symm
 | n+1,hn=>by
  have hfn:(zf (oneG K xs n)).2.2=false:=by
   have:=fineTo_all (K:=K) (xs:=xs)
   rw[hf] at this
   exact fineTo_iff.1 this n (by omega)
  unfold sumTo
  rw[costTo_step (dsOf_at (by omega)),sumTo_cost hf (by omega),if_neg (by simp[hfn])]
theorem sumTo_full {K:Kt} {xs:List Int} (hf:noneB K xs=false):sumTo K xs K.goods.length=zR K xs:=by
 rw[sumTo_cost hf (Nat.le_refl _)]
 unfold zR
 rw[dsOf_len]
theorem oneG_cost {K:Kt} {xs:List Int} (hC:zF K=0) {g:Nat} (hg:g<K.goods.length):(zf (oneG K xs g)).2.1≤5*65025:=by
 obtain⟨c1,c2,c3⟩:=zV hC
 obtain⟨g1,g2,g3⟩:=goodsE_zero c1
 obtain⟨h1,h2,h3⟩:=qd c3
 obtain⟨b1,b2,_⟩:=badGood_false (g3 _ (List.mem_of_getElem? (gdAt_get hg)))
 have hl:(oneG K xs g).hauls.length≤5:=by
  have:(oneG K xs g).hauls.length=min K.hauls.length xs.length:=by simp[oneG,goodOf]
  omega
 have h:=planFrom_cost (D:=oneG K xs g) (by show (gdAt K.goods g).room.toNat≤255;omega) (oneG K xs g).hauls (oneG K xs g).start fun h hh=>by
  simp only[oneG,goodOf,List.mem_map] at hh
  obtain⟨⟨x,d⟩,hx,rfl⟩:=hh
  obtain⟨_,_,_,_,e,f⟩:=h3 x (List.of_mem_zip hx).1
  have:=f _ (List.mem_of_getElem? (getD_of (l:=x.prices) (g:=g) (by omega)))
  show (x.prices.getD g 0).toNat≤255
  omega
 unfold zf
 exact Nat.le_trans h (Nat.mul_le_mul_right _ hl)
theorem sumTo_le {K:Kt} {xs:List Int} (hC:zF K=0):∀ {n:Nat},n≤K.goods.length→sumTo K xs n≤n*(5*65025)
 | 0,_=>Nat.zero_le _
 | n+1,hn=>by
  have h1:=sumTo_le (xs:=xs) hC (n:=n) (by omega)
  have h2:=oneG_cost (xs:=xs) hC (g:=n) (by omega)
  have h3:sumTo K xs (n+1)≤sumTo K xs n+(zf (oneG K xs n)).2.1:=by
   show sumTo K xs n+_≤_
   split<;>omega
  rw[Nat.add_mul,Nat.one_mul]
  exact Nat.le_trans h3 (Nat.add_le_add h1 h2)
section
variable {fs:Array Func} [LikeS fs]
theorem cheapest_bad (K:Kt) (gA dA hA:Option Addr) (gc dc hc:Nat) (xs:List Int) (mA:Option Addr) (mc:Nat) (w:World) (k:KtAt w K gA dA hA) (m:Ints w mA xs) (hlen:xs.length≤1000) (ha:qe K xs=0) (hn:noneB K xs=true) :
  Calls (Pf fs) 29 #[ktV K gA dA hA gc dc hc,.slice mA xs.length mc] w fun e w'=>e=.returned (.tuple #[.slice none 0 0,.int .i64 0,.int .i64 11])∧Grown w w':=
 (cheapest_any K gA dA hA gc dc hc xs mA mc w k m hlen).mono fun e w' ⟨v,e1,g,h⟩=>by
  cases h with
  | asked h1=>exact absurd ha h1
  | bad _ h1=>exact⟨e1,g⟩
  | good _ h1 M hM=>rw[hn] at h1;cases h1
theorem cheapest_good (K:Kt) (gA dA hA:Option Addr) (gc dc hc:Nat) (xs:List Int) (mA:Option Addr) (mc:Nat) (w:World) (k:KtAt w K gA dA hA) (m:Ints w mA xs) (hlen:xs.length≤1000) (ha:qe K xs=0) (hn:noneB K xs=false) :
  Calls (Pf fs) 29 #[ktV K gA dA hA gc dc hc,.slice mA xs.length mc] w fun e w'=>∃ M,e=.returned (.tuple #[.slice (some ⟨M,0,none⟩) K.hauls.length K.hauls.length,.int .i64 (zR K xs),.int .i64 0])∧Grown w w'∧DishesAt w' (some ⟨M,0,none⟩) (rowsOf K xs):=
 (cheapest_any K gA dA hA gc dc hc xs mA mc w k m hlen).mono fun e w' ⟨v,e1,g,h⟩=>by
  cases h with
  | asked h1=>exact absurd ha h1
  | bad _ h1=>rw[hn] at h1;cases h1
  | good _ h1 M hM=>exact⟨M,e1,g,hM⟩
theorem shaped_rows (K:Kt) (xs:List Int) (gA dA hA:Option Addr) (gc dc hc:Nat) (A:Option Addr) (c:Nat) (w:World) (h:DishesAt w A (rowsOf K xs)) (hn:K.hauls.length≤1000) :
  Calls (Pf fs) 31 #[ktV K gA dA hA gc dc hc,.slice A K.hauls.length c] w fun e w'=>e=.returned (.bool true)∧Grown w w':=by
 have h:=shaped_yes (fs:=fs) K gA dA hA gc dc hc A c (rowsOf K xs) w h (by rw[rowsOf_len];exact hn) (rowsOf_len _ _) rowsOf_shape
 rw[rowsOf_len] at h
 exact h
theorem all_row {K:Kt} {xs:List Int} {g M:Nat} {w:World} (h:DishesAt w (some ⟨M,0,none⟩) (rowsOf K xs)) {j:Nat} (hj:j<K.hauls.length) (hg:g<K.goods.length):∃ qb qo qc,w.cell? ⟨M,j,none⟩=some (.slice (some ⟨qb,qo,none⟩) K.goods.length qc)∧w.cell? ⟨qb,qo+g,none⟩=some (.int .i64 (ldAt j (oneG K xs g))):=by
 obtain⟨b,o,e,dA,dc,h1,h2,_⟩:=h j _ (rowsOf_at hj)
 cases e
 obtain⟨qb,qo,rfl,h3⟩:=h2 g _ (rowsOf_cell hg)
 exact⟨qb,qo,dc,by simpa[dsOf_len] using h1,h3⟩
end
end
section
structure OneF (W0:World) (base:Nat) (K:Kt) (db hb:Nat) (nb nc pb pc:Nat→Nat):Prop where
 ne:db≠hb
 bd:base≤db∧base≤hb
 dish:∀ j d,K.dishes[j]?=some d→Ints W0 (some ⟨nb j,0,none⟩) d∧nb j≠db∧nb j≠hb∧K.goods.length≤nc j
 haul:∀ j h,K.hauls[j]?=some h→Ints W0 (some ⟨pb j,0,none⟩) h.prices∧pb j≠db∧pb j≠hb∧K.goods.length≤pc j
structure OneJ (W0 W:World) (K:Kt) (g db hb n m:Nat) (nb nc pb pc:Nat→Nat):Prop where
 size:W.heap.size=W0.heap.size
 os:W.os=W0.os
 same:∀ b,b≠db→b≠hb→W.heap[b]?=W0.heap[b]?
 drow:∃ cur,W.heap[db]?=some (.cells cur 48 (0,0))∧∀ j,j<K.dishes.length→cur[j]?=some (if j<n then .slice (some ⟨nb j,g,none⟩) 1 (nc j-g) else .slice (some ⟨nb j,0,none⟩) K.goods.length (nc j))
 hrow:∃ cur,W.heap[hb]?=some (.cells cur 46 (0,0))∧∀ j h,K.hauls[j]?=some h→cur[j*3]?=some (.int .i64 h.hours)∧cur[j*3+1]?=some (.int .i64 h.covers)∧cur[j*3+2]?=some (if j<m then .slice (some ⟨pb j,g,none⟩) 1 (pc j-g) else .slice (some ⟨pb j,0,none⟩) K.goods.length (pc j))
section
variable {W0 W:World} {base:Nat} {K:Kt} {g db hb n m:Nat} {nb nc pb pc:Nat→Nat}
end
end
section
def Fits (D:Good1):List Haul1→Nat→List Nat→Prop
 | [],_,[]=>True
 | h::hs,t,n::l=>n<tries D h t∧(D.reserve:Int)≤after D h (t+n)∧Fits D hs (after D h (t+n)).toNat l
 | [],_,_::_=>False
 | _::_,_,[]=>False
theorem planFrom_fits (D:Good1):∀ (hs:List Haul1) (t:Nat),(zv D hs t).2.2=false→Fits D hs t (zv D hs t).1
 | [],_,_=>trivial
 | h::hs,t,hf=>by
  have key:∀ k,k≤tries D h t→(zy D h hs t k).2.2=false→Fits D (h::hs) t (zy D h hs t k).1:=by
   intro k
   induction k with
   | zero=>intro _ hb;simp[bestTo_zero] at hb
   | succ k ih =>
    intro hk hb
    rw[bestTo_succ] at hb ⊢
    unfold tryN at hb ⊢
    split at hb
    ·rename_i h1
     rw[if_pos h1]
     exact ih (by omega) hb
    ·rename_i h1
     rw[if_neg h1]
     dsimp only at hb ⊢
     split at hb
     ·rename_i h2
      rw[if_pos h2]
      simp only[Bool.and_eq_true,Bool.not_eq_true'] at h2
      exact⟨by omega,by omega,planFrom_fits D hs _ h2.1⟩
     ·rename_i h2
      rw[if_neg h2]
      exact ih (by omega) hb
  rw[← bestTo_all] at hf ⊢
  exact key _ (Nat.le_refl _) hf
theorem fits_len {D:Good1} : ∀ {hs:List Haul1} {t:Nat} {l:List Nat},Fits D hs t l→l.length=hs.length
 | [],_,[],_=>rfl
 | _::_,_,_::_,⟨_,_,h3⟩=>by simp[fits_len h3]
 | [],_,_::_,h=>h.elim
 | _::_,_,[],h=>h.elim
theorem zip_set {α β γ : Type} {f : α×β→γ} {l:List α} {xs:List β} {j:Nat} {a : α} {x : β} (hx:xs[j]?=some x):((l.set j a).zip xs).map f=((l.zip xs).map f).set j (f (a,x)):=by
 apply List.ext_getElem?
 intro i
 by_cases hij:i=j
 ·subst hij
  rcases Nat.lt_or_ge i l.length with q|q
  ·have hxl:i<xs.length:=(List.getElem?_eq_some_iff.1 hx).1
   have hz:((l.set i a).zip xs)[i]?=some (a,x):=List.getElem?_zip_eq_some.2 ⟨List.getElem?_set_self q,hx⟩
   rw[List.getElem?_set_self (by simp;omega),List.getElem?_map,hz]
   rfl
  ·rw[List.getElem?_eq_none (by simp;omega),List.getElem?_eq_none (by simp;omega)]
 ·rw[List.getElem?_set_ne (Ne.symm hij),List.getElem?_map,List.getElem?_map]
  congr 1
  unfold List.zip
  rw[List.getElem?_zipWith,List.getElem?_zipWith,List.getElem?_set_ne (Ne.symm hij)]
theorem asked_len {K:Kt} {xs:List Int} (hA:qe K xs=0):xs.length=K.hauls.length:=by
 obtain⟨_,hR⟩:=askedE_zero hA
 unfold qr at hR
 split at hR
 ·rename_i q;exact absurd hR q
 ·rename_i q
  have:=manyE_zero (Decidable.not_not.1 q)
  omega
end
section
def costL:List Haul1→List Nat→Nat
 | h::hs,n::l=>costL hs l+n*h.price
 | [],_=>0
 | _::_,[]=>0
theorem planFrom_costL (D:Good1):∀ (hs:List Haul1) (t:Nat),(zv D hs t).2.2=false→(zv D hs t).2.1=costL hs (zv D hs t).1
 | [],_,_=>rfl
 | h::hs,t,hf=>by
  have key:∀ k,(zy D h hs t k).2.2=false→(zy D h hs t k).2.1=costL (h::hs) (zy D h hs t k).1:=by
   intro k
   induction k with
   | zero=>intro hb;simp[bestTo_zero] at hb
   | succ k ih =>
    intro hb
    rw[bestTo_succ] at hb ⊢
    unfold tryN at hb ⊢
    split at hb
    ·rename_i h1
     rw[if_pos h1]
     exact ih hb
    ·rename_i h1
     rw[if_neg h1]
     dsimp only at hb ⊢
     split at hb
     ·rename_i h2
      rw[if_pos h2]
      simp only[Bool.and_eq_true,Bool.not_eq_true'] at h2
      show _+_=costL hs _+_
      rw[planFrom_costL D hs _ h2.1]
     ·rename_i h2
      rw[if_neg h2]
      exact ih hb
  rw[← bestTo_all] at hf ⊢
  exact key _ hf
theorem tryN_keeps {D:Good1} {h:Haul1} {R:Nat→Plan} {t:Nat} {b:Plan} {n c:Nat} (h1:b.2.2=false) (h2:b.2.1≤c):(tryN D h R t b n).2.2=false∧(tryN D h R t b n).2.1≤c:=by
 unfold tryN
 split
 ·exact⟨h1,h2⟩
 ·dsimp only
  split
  ·rename_i h3
   simp only[h1,Bool.and_eq_true,Bool.or_eq_true,decide_eq_true_eq,Bool.false_eq_true,false_or] at h3
   exact⟨rfl,by show _+_≤c;omega⟩
  ·exact⟨h1,h2⟩
theorem planFrom_min (D:Good1):∀ {hs:List Haul1} {t:Nat} {l:List Nat},Fits D hs t l→(zv D hs t).2.2=false∧(zv D hs t).2.1≤costL hs l
 | [],_,[],_=>⟨rfl,Nat.le_refl _⟩
 | h::hs,t,n::l,⟨h1,h2,h3⟩=>by
  obtain⟨i1,i2⟩:=planFrom_min D h3
  have hb:(zy D h hs t (n+1)).2.2=false∧(zy D h hs t (n+1)).2.1≤costL (h::hs) (n::l):=by
   rw[bestTo_succ]
   unfold tryN
   rw[if_neg (by omega)]
   dsimp only
   split
   ·exact⟨rfl,by show _+_≤costL hs l+_;omega⟩
   ·rename_i h4
    rw[i1] at h4
    simp only[Bool.not_false,Bool.true_and,Bool.or_eq_true,decide_eq_true_eq,not_or,Nat.not_lt] at h4
    exact⟨by simpa using h4.1,by show _≤costL hs l+_;omega⟩
  have key:∀ k,n+1≤k→(zy D h hs t k).2.2=false∧(zy D h hs t k).2.1≤costL (h::hs) (n::l):=by
   intro k
   induction k with
   | zero=>intro h;omega
   | succ k ih =>
    intro hk
    rcases Nat.lt_or_ge n k with q|q
    ·obtain⟨j1,j2⟩:=ih q
     rw[bestTo_succ]
     exact tryN_keeps j1 j2
    ·rw[show k=n by omega]
     exact hb
  rw[← bestTo_all]
  exact key _ h1
 | [],_,_::_,h=>h.elim
 | _::_,_,[],h=>h.elim
theorem Fits.prices {D:Good1} : ∀ {hs hs':List Haul1} {t:Nat} {l:List Nat},Fits D hs t l→hs'.length=hs.length→(∀ (j:Nat) h h',hs[j]?=some h→hs'[j]?=some h'→h'.hours=h.hours∧h'.covers=h.covers∧h'.need=h.need∧(h'.price=0→h.price=0))→Fits D hs' t l
 | [],[],_,[],_,_,_=>trivial
 | h::hs,h'::hs',t,n::l,⟨h1,h2,h3⟩,hl,he=>by
  obtain⟨q1,q2,q3,q4⟩:=he 0 h h' rfl rfl
  have ha:after D h' (t+n)=after D h (t+n):=by unfold after;rw[q1,q2,q3]
  refine⟨?_,by rw[ha];exact h2,?_⟩
  ·unfold tries at h1 ⊢
   split at h1<;>split<;>omega
  ·rw[ha]
   exact Fits.prices h3 (by simpa using hl) fun j a a' x y=>he (j+1) a a' (by simpa using x) (by simpa using y)
 | [],_::_,_,_,_,hl,_=>by simp at hl
 | _::_,[],_,_,_,hl,_=>by simp at hl
 | [],[],_,_::_,h,_,_=>h.elim
 | _::_,_::_,_,[],h,_,_=>h.elim
def timesH (k:Nat) (h:Haul1):Haul1:={ h with price:=k*h.price }
theorem planFrom_times (D:Good1) {k:Nat} (hk : 0<k):∀ (hs:List Haul1) (t:Nat),zv D (hs.map (timesH k)) t=((zv D hs t).1,k*(zv D hs t).2.1,(zv D hs t).2.2)
 | [],_=>by simp[zv]
 | h::hs,t=>by
  have ht:tries D (timesH k h) t=tries D h t:=by
   unfold tries timesH
   simp only
   by_cases hp:h.price=0
   ·rw[if_pos hp,if_pos (by rw[hp];simp)]
   ·rw[if_neg hp,if_neg (by intro q;rcases Nat.mul_eq_zero.1 q with q|q<;>omega)]
  have key:∀ j,zy D (timesH k h) (hs.map (timesH k)) t j=((zy D h hs t j).1,k*(zy D h hs t j).2.1,(zy D h hs t j).2.2):=by
   intro j
   induction j with
   | zero=>simp[bestTo_zero]
   | succ j ih =>
    rw[bestTo_succ,bestTo_succ,ih]
    have ha:after D (timesH k h) (t+j)=after D h (t+j):=rfl
    unfold tryN
    rw[ha]
    by_cases h1:after D h (t+j)<D.reserve
    ·rw[if_pos h1,if_pos h1]
    ·rw[if_neg h1,if_neg h1]
     dsimp only
     rw[planFrom_times D hk hs]
     simp only
     have hm:k*(zv D hs (after D h (t+j)).toNat).2.1+j*(timesH k h).price=k*((zv D hs (after D h (t+j)).toNat).2.1+j*h.price):=by
      show _+j*(k*h.price)=_
      rw[Nat.mul_add,Nat.mul_left_comm]
     rw[hm]
     have hc:(k*((zv D hs (after D h (t+j)).toNat).2.1+j*h.price)<k*(zy D h hs t j).2.1)↔((zv D hs (after D h (t+j)).toNat).2.1+j*h.price<(zy D h hs t j).2.1):=Nat.mul_lt_mul_left hk
     simp only[hc]
     split<;>rfl
  have e1:zv D ((h::hs).map (timesH k)) t=zy D (timesH k h) (hs.map (timesH k)) t (tries D (timesH k h) t):=(bestTo_all D (timesH k h) (hs.map (timesH k)) t).symm
  rw[e1,ht,key,bestTo_all]
theorem costL_set:∀ {hs:List Haul1} {l:List Nat} {j d:Nat} {h h':Haul1} {n:Nat},hs[j]?=some h→l[j]?=some n→h'.price=h.price+d→costL (hs.set j h') l=costL hs l+n*d
 | _::hs,_::l,0,d,h,h',n,e1,e2,e3=>by
  simp only[List.getElem?_cons_zero,Option.some.injEq] at e1 e2
  subst e1 e2
  show costL hs l+_*h'.price=costL hs l+_+_
  rw[e3,Nat.mul_add]
  omega
 | x::hs,y::l,j+1,d,h,h',n,e1,e2,e3=>by
  have:=costL_set (hs:=hs) (l:=l) (j:=j) (d:=d) (h:=h) (h':=h') (n:=n) (by simpa using e1) (by simpa using e2) e3
  show costL (hs.set j h') l+_=costL hs l+_+_
  rw[this]
  omega
 | [],_,_,_,_,_,_,e1,_,_=>by simp at e1
 | _::_,[],_,_,_,_,_,_,e2,_=>by simp at e2
end
end Go.Gal
