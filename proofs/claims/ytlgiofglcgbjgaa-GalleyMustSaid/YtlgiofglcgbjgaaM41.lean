/- A law of the Galley over one list of numbers that answers true and leaves old memory alone, as its row asks it: from its contract on S to the row. Plain laws of runs: each good by .. -/
import Derived.Test.YtlgiofglcgbjgaaRows
import Derived.Test.YtlgiofglcgbjgaaM40
import Derived.Test.YtlgiofglcgbjgaaM22
import Derived.Conc.LeavingOf
import Derived.ProofKit
import Derived.OpenShut
import Derived.Below
import Derived.ChangeSame
import Derived.Carry
import Derived.Lib.SliceRun
import Derived.Deep.Upon
import Derived.Deep.MidRow
section
namespace Go.Gal
open Go Go.Par Go.Proofs Go.RowKit
open Go.ChangeShapes Go.WideShapes Go.ChangeAt
theorem own_knob:ownKnob Try.prog.godebug=none:=by kernel_rfl
theorem laid_out:laidOutB Try.prog=true:=by kernel_rfl
theorem cells_int:Try.prog.cellsOf 3=1:=by kernel_rfl
theorem readable_nums:Try.prog.readableRec 22=true:=by kernel_rfl
theorem nums_row : 22<Try.prog.types.size:=of_decide_eq_true (by kernel_rfl)
theorem no_globals:S.globals.size=0:=by kernel_rfl
section
variable {H:Type} {enc:TypeId×Value→H} {P:Program}
theorem post_of_below {f:Func} {s:ChangeSpec} {apart fresh handsOn again:Bool} {W W':World} {args:Array Value} {v:Value} {ds gs:List (DataW H)} {before pa pv:List MemPlace}
  (hW:DataW.Whole enc P f.params.toList s.vars apart W args.toList ds gs before)
  (hres:∀ (b:Nat) (sp:Nat→Bool) (hd:Bool),DataW.TrodAll enc P W' b sp hd f.resultTypes.toList (v.resultList f.resultTypes.size) (s.fn H (ds++gs)).results [])
  (hargs:∀ sp:Nat→Bool,(∀ p∈before,sp p.block=true)→DataW.TrodAll enc P W' 0 sp true f.params.toList args.toList (s.fn H (ds++gs)).args pa)
  (hvars:∀ sp:Nat→Bool,(∀ p∈before,sp p.block=true)→DataW.TrodVars enc P W' sp s.vars (s.fn H (ds++gs)).vars pv)
  (hps:before=pa++pv) (hb:Below W.heap.size W W')
  (hok:∀ (j:Nat) (t:TypeId) (r:Value),f.resultTypes[j]?=some t→(v.resultList f.resultTypes.size)[j]?=some r→Value.okWide P W' .any 0 t r) :
  s.post enc P f apart fresh handsOn again W args v W':=by
 have hlt:∀ p∈before,p.block<W.heap.size:=fun p hp=>hW.lt p hp
 have hold:∀ p∈before,(fun b=>decide (b<W.heap.size)) p.block=true:=fun p hp=>by simpa using hlt p hp
 refine⟨ds,gs,before,[],pa,pv,hW,hres _ _ _,hargs _ hold,hvars _ hold,World.keptBut_mono (fun p hp=>⟨hp,?_⟩) (hb.frame (·∈before)),fun _=>?_⟩
 ·rw[hps,List.mem_append] at hp
  exact Or.inr hp
 ·obtain⟨_,_,_,_,_,hz,hn⟩:=hW
  refine⟨hok,_,_,([]++pa)++pv,⟨[]++pa,pv,trodAll_append (hargs _ (fun _ _=>rfl)) (hres _ _ _),hvars _ (fun _ _=>rfl),rfl,?_,?_⟩,?_⟩
  ·intro b off hp
   have hin:MemPlace.cell b off∈before:=by rw[hps];simpa using hp
   rw[hb.frozen (hlt _ hin)]
   exact hz b off hin
  ·intro ha
   have:=hn ha
   rw[hps] at this
   simpa using this
  ·intro p hp _
   rw[hps]
   simpa using hp
end
def Walked (F:FuncId):Prop:=∀ (A:Option Addr) (cp:Nat) (xs:List Int) (w:World),Ints w A xs→xs.length≤9223372036854775807 →
 Calls S F #[.slice A xs.length cp] w fun e _=>e=.returned (.bool true)
theorem walked_of {F:FuncId} (h:∀ (ns:List Int) (A:Option Addr) (c:Nat) (w:World),Ints w A ns→ns.length≤9223372036854775807→Calls (Pf S.funcs) F #[.slice A ns.length c] w fun e _=>e=.returned (.bool true)):Walked F:=fun A c xs w hx hl=>by
 have:=h xs A c w hx hl
 rwa [pf_S] at this
set_option maxRecDepth 100000 in
theorem okWide_seen {W:World} {base:Nat} {A:Option Addr} {len cap:Nat} (h:Value.okWide Try.prog W .any base 22 (.slice A len cap)):∀ p,A=some p→Seen W p.block∧p.spot=none:=by
 rintro p rfl
 simp only[Value.okWide,Try.underlying22,Cell.okWide,Cell.ok] at h
 obtain⟨_,_,_,hsp,row,cells,hs,_⟩:=h
 refine⟨?_,hsp⟩
 unfold World.shape? at hs
 split at hs
 ·rename_i c t m hc
  exact⟨_,_,_,hc⟩
 ·cases hs
set_option maxRecDepth 100000 in
theorem nums_runs {F:FuncId} {fn:Func} {s:ChangeSpec} {apart fresh handsOn again:Bool} (hF:¬ FSt F) (hini:Try.prog.inits.idxOf? F=none) (hp:fn.params=#[22]) (hr:fn.resultTypes=#[4]) (hv:s.vars=[])
  (hs:∀ (H:Type) (d:DataW H),(s.fn H [d]).results=[.lit (.bool true)]∧(s.fn H [d]).args=[d]∧(s.fn H [d]).vars=[]) (hw:Walked F)
  (H:Type) (enc:TypeId×Value→H) (W:World) (base:Nat) (args:Array Value) (ds gs:List (DataW H)) (before:List MemPlace)
  (hval:∀ (j:Nat) t v,fn.params[j]?=some t→args[j]?=some v→Value.okWide Try.prog W .any base t v)
  (hW:DataW.Whole enc Try.prog fn.params.toList s.vars apart W args.toList ds gs before) :
  ∃ M last o w' t',runNT Try.prog (M+1) (Go.Conc.solo (Go.Conc.G (Frame.enter Try.prog F args .normal) []) W) #[]=(.ended o w',t')∧runN Try.prog M (Go.Conc.solo (Go.Conc.G (Frame.enter Try.prog F args .normal) []) W)=.next last ∧
   step Try.prog last=.ended o w'∧Go.Conc.Good Try.prog (fun v W'=>s.post enc Try.prog fn apart fresh handsOn again W args v W') last o w' t':=by
 have hW':=hW
 obtain⟨p,q,hA0,hV,rfl,hfz,hnd⟩:=hW
 have hA:DataW.TrodAll enc Try.prog W 0 (fun _=>true) true fn.params.toList args.toList ds p:=hA0
 rw[hp] at hA hval
 rw[hv] at hV
 obtain⟨v0,d0,rfl,rfl,h0⟩:=trodAll_one hA
 obtain⟨rfl,rfl⟩:=trodVars_none hV
 obtain⟨a0,len,cap,rfl⟩:=okWide_slice Try.underlying22 (hval 0 22 v0 rfl rfl)
 have hseen:=okWide_seen (hval 0 22 _ rfl rfl)
 have h0k:=h0
 obtain⟨fuel,hf⟩:=h0
 clear hA0
 simp only[List.append_nil] at hW'
 have hlt:∀ x∈p,x.block<W.heap.size:=fun x hx=>by simpa using hW'.lt x hx
 have hclose:∀ xs:List Int,xs.length=len→Ints W a0 xs→xs.length≤9223372036854775807 →
   ∃ M last o w' t',runNT Try.prog (M+1) (Go.Conc.solo (Go.Conc.G (Frame.enter Try.prog F #[.slice a0 len cap] .normal) []) W) #[]=(.ended o w',t')∧runN Try.prog M (Go.Conc.solo (Go.Conc.G (Frame.enter Try.prog F #[.slice a0 len cap] .normal) []) W)=.next last ∧
   step Try.prog last=.ended o w'∧Go.Conc.Good Try.prog (fun v W'=>s.post enc Try.prog fn apart fresh handsOn again W #[.slice a0 len cap] v W') last o w' t':=fun xs hx hi hl=>by
  subst hx
  have hN:∀ b,(∃ p,a0=some p∧p.block=b)→Seen W b:=fun b ⟨p,hp,hb⟩=>hb▸(hseen p hp).1
  have hrel:VsRel (idS fun b=>∃ p,a0=some p∧p.block=b) #[.slice a0 xs.length cap] #[.slice a0 xs.length cap]:=by
   refine⟨rfl,fun i x y h1 h2=>?_⟩
   rcases i with _|i
   ·simp at h1 h2
    subst h1 h2
    refine .slice _ _ ?_
    cases a0 with
    | none=>exact .none
    | some p =>
     obtain⟨b,off,spot⟩:=p
     have:=(hseen _ rfl).2
     simp only at this
     subst this
     exact .some ⟨⟨rfl,_,rfl,rfl⟩,rfl,rfl⟩
   ·simp at h1
  have hmi:∀ t,Ints { maskS (fun b=>∃ p,a0=some p∧p.block=b) W with tape:=t } a0 xs:=fun t k x hk=>by
   obtain⟨b,off,e,hc⟩:=hi k x hk
   exact⟨b,off,e,maskW_cell (N:=fun b=>∃ p,a0=some p∧p.block=b) ⟨_,e,rfl⟩ hc (.int _ _)⟩
  obtain⟨M,last,o,w',t',h1,h2,h3,h4⟩:=law_runs cheapOn_S cheapOn_Sw hF hini hN (by rw[no_globals];exact Nat.zero_le _) hrel fun t=>hw a0 cap xs _ (hmi t) hl
  refine⟨M,last,o,w',t',h1,h2,h3,h4.mono fun v hv1=>?_⟩
  obtain⟨rfl,g1,g2,g3⟩:=hv1
  have hb:Below W.heap.size W w':=⟨g3.os,g3.tape,g3.output,g1,g2⟩
  obtain⟨e1,e2,e3⟩:=hs H d0
  refine post_of_below (pa:=p) (pv:=[]) hW' (fun b sp hd=>?_) (fun sp hsp=>?_) (fun sp _=>?_) (by simp) hb (fun j t r hj hr2=>?_)
  ·rw[hr]
   show DataW.TrodAll enc Try.prog w' b sp hd [4] [.bool true] (s.fn H [d0]).results []
   rw[e1]
   exact trodAll_cons_mk (shut_bool Try.underlying4 _) trodAll_mk0
  ·rw[hp]
   show DataW.TrodAll enc Try.prog w' 0 sp true [22] [.slice a0 xs.length cap] (s.fn H [d0]).args p
   rw[e2]
   exact trodAll_mk1 (WideElems.Trod_stays laid_out readable_nums nums_row h0k (fun x hx=>hb.same (hlt x hx)) (fun x hx=>hsp x hx))
  ·rw[hv]
   show DataW.TrodVars enc Try.prog w' sp [] (s.fn H [d0]).vars []
   rw[e3]
   rfl
  ·exact ok_one hr rfl (okWide_bool_mk Try.underlying4 _) j t r hj hr2
 rcases open_ints Try.underlying22 Try.underlying3 cells_int hf with ⟨hcs,hx⟩|⟨a,len',cap',zs,hcs,_,hl,hm,hz,hx,hcell,hwz⟩
 ·simp[Value.cells] at hcs
  obtain⟨rfl,rfl,rfl⟩:=hcs
  exact hclose [] rfl (fun k x h=>by simp at h) (by simp)
 ·simp[Value.cells] at hcs
  obtain⟨rfl,rfl,rfl⟩:=hcs
  simp only[if_true] at hz
  simp only[Prod.mk.injEq] at hx
  obtain⟨_,rfl⟩:=hx
  have hlen:(zs.take len).length=len:=by rw[List.length_take];omega
  refine hclose (zs.take len) hlen (fun k x hk=>?_) (by rw[hlen];simp only[maxLen] at hm;omega)
  have hkl:k<len:=by
   have:=(List.getElem?_eq_some_iff.1 hk).1
   omega
  have hkz:zs.getD k 0=x:=by
   rw[List.getElem?_take,if_pos hkl] at hk
   simp[List.getD_eq_getElem?_getD,hk]
  have hc:=hcell k (by omega)
  rw[hkz] at hc
  obtain⟨b,off,spot⟩:=a
  have hs0:=(hseen _ rfl).2
  simp only at hs0
  subst hs0
  rw[add_plain] at hc
  exact⟨b,off,rfl,hc⟩
end Go.Gal
end
section
namespace Go.Gal
open Go Go.Par Go.Proofs Go.RowKit
section
variable (D:Good1) (ld:Nat→Nat)
end
section
variable {Ds:List Good1} {ls:List (List Int)} {h i:Nat} {now:Nat→Nat}
end
section
variable {Ds:List Good1} {ls:List (List Int)}
end
structure AlikeTo (m:Nat) (D D':Good1) (ld ld':Nat→Nat):Prop where
 room:D'.room=D.room
 melts:D'.melts=D.melts
 start:D'.start=D.start
 reserve:D'.reserve=D.reserve
 haul:∀ h,h<m→hlG D' h=hlG D h
 load:∀ h,h<m→ld' h=ld h
section
variable {m:Nat} {D D':Good1} {ld ld':Nat→Nat}
end
def firstK (K:Kt) (m:Nat):Kt:={ K with hauls:=K.hauls.take m }
def gdAt (gs:List Gd) (i:Nat):Gd:=gs.getD i ⟨0,0,0,0⟩
theorem gdAt_get {gs:List Gd} {i:Nat} (h:i<gs.length):gs[i]?=some (gdAt gs i):=by
 unfold gdAt
 rw[List.getD_eq_getElem?_getD,List.getElem?_eq_getElem h]
 rfl
def spareK (K:Kt) (g m:Nat):Kt:=⟨K.goods.set g { gdAt K.goods g with reserve:=0 },K.dishes.map fun d=>d.set g 0,K.hauls.take m⟩
section
variable {K:Kt} {xs:List Int} {ls:List (List Int)} {m g:Nat}
end
structure ShortN (K:Kt) (ms:List Int) (ls:List (List Int)) (haul good:Nat) (room res mel st hours covers d nq N X:Nat) (l ds:List Int):Prop where
 hh:haul<K.hauls.length
 hg:good<K.goods.length
 gd:K.goods[good]?=some ⟨room,res,mel,st⟩
 hl:∃ pr,K.hauls[haul]?=some ⟨hours,covers,pr⟩
 menu:ms[haul]?=some (d:Int)
 hd:d<K.dishes.length
 dish:K.dishes[d]?=some ds
 dlen:ds.length=K.goods.length
 need:ds[good]?=some (nq:Int)
 load:ls[haul]?=some l
 llen:l.length=K.goods.length
 ld:l[good]?=some (X:Int)
 zero:haul=0→N=st
 more : 1≤haul→givenE (firstK K haul) (ms.take haul) (ls.take haul)=0∧(runK (firstK K haul) (ms.take haul) (ls.take haul)).stop=none∧(runK (firstK K haul) (ms.take haul) (ls.take haul)).left.length=haul ∧
   ∃ row,(runK (firstK K haul) (ms.take haul) (ls.take haul)).left[haul-1]?=some row∧row.length=K.goods.length∧row[good]?=some (N:Int)
 short:((N+X-melted hours mel (N+X):Nat):Int)-((covers*nq:Nat):Int)<(res:Int)
 bds:N+X≤room∧room≤20∧hours≤24∧covers≤9∧nq≤3∧mel≤12∧res≤20∧N≤20∧X≤20
 spare:givenE (spareK K good (haul+1)) (ms.take (haul+1)) (ls.take (haul+1))=0
 last:∀ h i er,(runK (spareK K good (haul+1)) (ms.take (haul+1)) (ls.take (haul+1))).stop=some (h,i,er)→er=9∨(er=11∧h=haul∧good<i∧i<K.goods.length)
end Go.Gal
end
section
namespace Go.Gal
open Go Go.Par Go.Proofs Go.RowKit
theorem wrap_of {x v:Int} (h:v=x) (h1 : -1000000≤v) (h2:v≤1000000):IntKind.i64.wrap x=v:=by
 subst h
 rw[IntKind.wrap_i64]
 omega
section
variable {fs:Array Func} [LikeS fs]
variable (K:Kt) (gA dA hA:Option Addr) (gc dc hc:Nat) (xs:List Int) (mA:Option Addr) (mc:Nat) (ls:List (List Int)) (lA:Option Addr) (lc:Nat) (w:World) (k:KtAt w K gA dA hA) (m:Ints w mA xs) (hlen:xs.length≤1000) (hl:DishesAt w lA ls) (hll:ls.length≤1000) (hG:givenE K xs ls=0)
include k m hlen hl hll hG
end
section
variable {fs:Array Func} [Like fs]
end
section
variable {fs:Array Func} [LikeS fs]
end
def behindN:Nat→Code→Code
 | 0,c=>c
 | n+1,.seq _ b=>behindN n b
 | _,c=>c
end Go.Gal
end
section
namespace Go.Gal
open Go Go.Par Go.Proofs Go.RowKit
section
variable {fs:Array Func} [LikeS fs]
set_option maxRecDepth 20000 in
set_option maxHeartbeats 1000000 in
theorem n88_any (w:World) (haul:Nat) (h:Hl) (h1' : 1≤h.prices.length):Changes (Pf fs) 88 #[] w haul h { h with prices:=List.replicate h.prices.length 0 }:=by
 intro W g cur pA pc hg hgw hrow h0 h1 h2 ho hne
 have z0:=(blk_cell hrow (haul*3+2)).trans h2
 obtain⟨hl,hor⟩:=ho
 rcases hor with ⟨q,_⟩|⟨pb,cap,pcur,hv,hgp,hhp,hn,hm,hsz,htk⟩
 ·injection q with _ q1 q2;omega
 injection hv with hpA _ hcap
 subst hpA hcap
 have hpg:pb≠g:=fun q=>hne (by rw[← q];rfl)
 have hcell:∀ j,j<h.prices.length→(W.cell? ⟨pb,0+j,none⟩).isSome=true:=fun j hj=>by
  rw[Nat.zero_add,blk_cell hhp,Array.getElem?_eq_getElem (by omega)]
  rfl
 have hcl:=Lib.run_clear_slice (P:=Pf fs) W 22 3 0 (.int .i64 0) ((like_under 22).trans Try.underlying22) (fun w=>by go_simp) rfl rfl pb 0 h.prices.length pc (by omega) hcell (fun j _=>blk_frozen hhp _)
 have hin:=World.cell?_setCells_in pb (List.replicate h.prices.length (Value.int .i64 0)) 0 W (by simpa using hcell)
 have hoth:∀ b,b<W.heap.size→b≠pb→(W.setCells pb 0 (List.replicate h.prices.length (Value.int .i64 0))).heap[b]?=W.heap[b]?:=fun b hb hne'=>World.heap_setCells_other W pb 0 _ hb hne'
 have hgl:g<W.heap.size:=(Array.getElem?_eq_some_iff.1 hrow).1
 have hfin:Changed W (W.setCells pb 0 (List.replicate h.prices.length (Value.int .i64 0))) g haul (some ⟨pb,0,none⟩) cur { h with prices:=List.replicate h.prices.length 0 }:=by
  refine⟨?_,World.os_setCells _ _ _ _,fun b hb _ hb2=>hoth b hb fun q=>hb2 (by rw[q];rfl),cur,(hoth g hgl (Ne.symm hpg)).trans hrow,fun _ _ _ _=>rfl,h0,h1,some ⟨pb,0,none⟩,pc,by simpa using h2,fun k x hx=>?_⟩
  ·rcases Nat.lt_or_ge (W.setCells pb 0 (List.replicate h.prices.length (Value.int .i64 0))).heap.size W.heap.size with q|q
   ·exfalso
    rcases Nat.lt_or_ge pb (W.setCells pb 0 (List.replicate h.prices.length (Value.int .i64 0))).heap.size with q2|q2
    ·have:=hoth (W.heap.size-1) (by omega) (by omega)
     rw[Array.getElem?_eq_none (by omega),Array.getElem?_eq_getElem (by omega)] at this
     cases this
    ·have:=hcell 0 (by omega)
     have h0':=hin 0 (by simp;omega)
     have hlt:=cell_lt h0'
     omega
   ·exact q
  ·have hk:k<h.prices.length:=by
    have:=(List.getElem?_eq_some_iff.1 hx).1
    simpa using this
   rw[List.getElem?_replicate,if_pos hk] at hx
   cases hx
   refine⟨pb,0,rfl,?_⟩
   rw[hin k (by simpa using hk)]
   simp
 have HFIN:=Lib.hid hfin
 clear hfin hin hoth h0 h1 h2 hcell hhp htk hrow hsz hl hn hm hgp hg hgw hgl
 show Calls (Pf fs) 88 #[.pointer (some ⟨g,haul*3,none⟩)] W _
 go_enter LK.func88,Try.ntmps88
 go_wp2_with fail
 go_end0
 exact⟨rfl,HFIN.out⟩
set_option maxRecDepth 20000 in
set_option maxHeartbeats 1000000 in
theorem sum_any (A:Option Addr) (c:Nat) (xs:List Int) (w:World) (h:Ints w A xs) (hl:xs.length≤1000) (hx:∀ x∈xs,0≤x∧x≤1000) :
  Calls (Pf fs) 50 #[.slice A xs.length c] w fun e w'=>e=.returned (.int .i64 xs.sum)∧Grown w w':=by
 have hs:∀ k,k≤xs.length→0≤(xs.take k).sum∧(xs.take k).sum≤k*1000:=by
  intro k
  induction k with
  | zero=>intro _;simp
  | succ k ih =>
   intro hk
   have h1:=ih (by omega)
   have h2:=hx xs[k] (List.getElem_mem (by omega))
   rw[List.take_add_one,List.getElem?_eq_getElem (by omega)]
   simp only[Option.toList_some,List.sum_append,List.sum_cons,List.sum_nil]
   omega
 have HS:=Lib.hid hs
 have HI:=Lib.hid h
 clear hs h
 go_enter LK.func50,Try.ntmps50
 go_wp2_with fail
 go_loopw [3,4] (fun s i W=>∃ k:Nat,k≤xs.length∧i=.int .i64 k∧s=.int .i64 (xs.take k).sum∧∃ q,W=w.drewN q) (fun _ i _=>xs.length-(intOf i).toNat)
 case atStart=>exact⟨0,by omega,rfl,by simp,0,rfl⟩
 case round =>
  obtain⟨k,hk,rfl,rfl,q,rfl⟩:=hrel
  by_cases hkl:k<xs.length
  ·have hki:(k:Int)<xs.length:=by omega
   obtain⟨b,o,rfl,hc⟩:=HI.out k _ (List.getElem?_eq_getElem hkl)
   have b1:=HS.out k hk
   have b2:=HS.out (k+1) hkl
   have es:(xs.take (k+1)).sum=(xs.take k).sum+xs[k]:=by
    rw[List.take_add_one,List.getElem?_eq_getElem hkl]
    simp only[Option.toList_some,List.sum_append,List.sum_cons,List.sum_nil]
    omega
   have hw:IntKind.i64.wrap ((xs.take k).sum+xs[k])=(xs.take (k+1)).sum:=wrap_of es (by omega) (by omega)
   have HES:=Lib.hid es
   generalize xs[k]=x at hc hw es
   generalize (xs.take k).sum=s0 at hw es ⊢
   generalize hs1:(xs.take (k+1)).sum=s1 at hw es
   have HS1:=Lib.hid hs1
   clear b1 b2 es hs1
   have hc':(w.drewN q).cell? ⟨b,o+k,none⟩=some (.int .i64 x):=hc
   clear hc
   go_wp2_with fail
   go_roundw
   case rel=>exact⟨k+1,by omega,by go_num,by rw[HS1.out],_,rfl⟩
   case measure=>simp[intOf];omega
  ·have hki:¬ (k:Int)<xs.length:=by omega
   obtain rfl:k=xs.length:=by omega
   rw[List.take_length]
   go_wp2_with fail
   go_ret
   exact⟨rfl,(Grown.refl _).drewN _⟩
end
end Go.Gal
end
section
namespace Go.Gal
open Go Go.Par Go.Proofs Go.RowKit
def clearK (K:Kt) (h:Nat):Kt:={ K with hauls:=K.hauls.set h { hlAt K.hauls h with prices:=List.replicate (hlAt K.hauls h).prices.length 0 } }
def mustL (K:Kt) (xs:List Int) (n:Nat):List Int:=((List.range n).filter fun h=>noneB (clearK K h) xs).map fun h=>((h:Nat):Int)
theorem mustL_succ (K:Kt) (xs:List Int) (n:Nat):mustL K xs (n+1)=if noneB (clearK K n) xs then mustL K xs n++[(n:Int)] else mustL K xs n:=by
 unfold mustL
 rw[List.range_succ,List.filter_append]
 by_cases h:noneB (clearK K n) xs=true
 ·rw[if_pos h]
  simp[h]
 ·rw[if_neg h]
  simp[h]
theorem mustL_len (K:Kt) (xs:List Int) (n:Nat):(mustL K xs n).length≤n:=by
 unfold mustL
 rw[List.length_map]
 exact Nat.le_trans (List.length_filter_le _ _) (by simp)
theorem clearK_len (K:Kt) (h:Nat):(clearK K h).hauls.length=K.hauls.length:=by simp[clearK]
theorem clearK_valid {K:Kt} (hC:checkE K=0) {h:Nat} (hh:h<K.hauls.length):checkE (clearK K h)=0:=by
 obtain⟨_,_,c3⟩:=checkE_zero hC
 obtain⟨_,_,h3⟩:=haulsE_zero c3
 obtain⟨a,b,c,d,e,f⟩:=h3 _ (List.mem_of_getElem? (hlAt_get hh))
 refine checkE_set hC ⟨a,b,c,d,by simpa using e,fun p hp=>?_⟩
 rw[List.eq_of_mem_replicate hp]
 omega
theorem clearK_asked {K:Kt} {xs:List Int} (hA:askedE K xs=0) {h:Nat} (hh:h<K.hauls.length):askedE (clearK K h) xs=0:=by
 obtain⟨hC,hR⟩:=askedE_zero hA
 exact asked_of (clearK_valid hC hh) (by simpa[clearK] using hR)
section
variable {fs:Array Func} [LikeS fs]
set_option maxRecDepth 20000 in
set_option maxHeartbeats 2000000 in
theorem must_any (K:Kt) (gA dA:Option Addr) (hb ho gc dc hc:Nat) (xs:List Int) (mA:Option Addr) (mc:Nat) (w:World) (k:KtAt w K gA dA (some ⟨hb,ho,none⟩)) (m:Ints w mA xs) (hlen:xs.length≤1000) (hA:askedE K xs=0) :
  Calls (Pf fs) 47 #[ktV K gA dA (some ⟨hb,ho,none⟩) gc dc hc,.slice mA xs.length mc] w fun e w'=>∃ (A:Option Addr) (c:Nat) (l:List Int) (er:Int),e=.returned (.tuple #[.slice A l.length c,.int .i64 er])∧Grown w w'∧Ints w' A l∧((noneB K xs=true∧l=[]∧er=11)∨(noneB K xs=false∧l=mustL K xs K.hauls.length∧er=0)):=by
 obtain⟨hC,hR⟩:=askedE_zero hA
 have hp:∀ h,h<K.hauls.length→1≤(hlAt K.hauls h).prices.length∧(hlAt K.hauls h).prices.length≤1000:=fun h hh=>by
  obtain⟨c1,c2,c3⟩:=checkE_zero hC
  obtain⟨g1,g2,g3⟩:=goodsE_zero c1
  obtain⟨h1,h2,h3⟩:=haulsE_zero c3
  have:=(h3 _ (List.mem_of_getElem? (hlAt_get hh))).2.2.2.2.1
  omega
 have hasked:=fun W (g:Grown w W)=>asked_any (fs:=fs) K gA dA (some ⟨hb,ho,none⟩) gc dc hc xs mA mc W (k.grown g) (m.grown g) hlen
 rw[hA] at hasked
 have hcan0:=fun W (g:Grown w W)=>can_any (fs:=fs) K gA dA (some ⟨hb,ho,none⟩) gc dc hc xs mA mc W (k.grown g) (m.grown g) hC hR
 have hwith:∀ W h,h<K.hauls.length→Grown w W→Calls (Pf fs) 72 #[ktV K gA dA (some ⟨hb,ho,none⟩) gc dc hc,.int .i64 h,.func (.func 88) #[] #[]] W fun e w'=>∃ g c',e=.returned (.agg #[.slice gA K.goods.length gc,.slice dA K.dishes.length dc,.slice (some ⟨g,0,none⟩) K.hauls.length c'])∧Grown W w'∧HlsAt w' (some ⟨g,0,none⟩) (clearK K h).hauls:=fun W h hh hg =>
  with_any (fs:=fs) 88 _ (fun args wr=>LK.call88 args wr) K gA dA hb ho gc dc hc h _ _ W (k.grown hg) (hlAt_get hh) (hp h hh).1 (by simpa using (hp h hh).2) (n88_any W h _ (hp h hh).1)
 have hcan:∀ W h g c',h<K.hauls.length→Grown w W→HlsAt W (some ⟨g,0,none⟩) (clearK K h).hauls→Calls (Pf fs) 71 #[.agg #[.slice gA K.goods.length gc,.slice dA K.dishes.length dc,.slice (some ⟨g,0,none⟩) K.hauls.length c'],.slice mA xs.length mc] W fun e w'=>e=.returned (.bool (!noneB (clearK K h) xs))∧Grown W w':=fun W h g c' hh hg hl=>by
  have:=can_any (fs:=fs) (clearK K h) gA dA (some ⟨g,0,none⟩) gc dc c' xs mA mc W ⟨(k.grown hg).goods,(k.grown hg).dishes,hl,k.ng,k.nd,by rw[clearK_len];exact k.nh⟩ (m.grown hg) (clearK_valid hC hh) (by rw[clearK_len];exact hR)
  unfold ktV at this
  rw[clearK_len] at this
  exact this
 have hnh:=k.nh
 have HC:=Lib.hid hasked
 have HC0:=Lib.hid hcan0
 have HWI:=Lib.hid hwith
 have HCN:=Lib.hid hcan
 obtain⟨V,hV⟩:∃ V,V=w.alloc (.cells #[.slice gA K.goods.length gc,.slice dA K.dishes.length dc,.slice (some ⟨hb,ho,none⟩) K.hauls.length hc] 29):=⟨_,rfl⟩
 have v0:V.heap[w.heap.size]?=some (.cells #[.slice gA K.goods.length gc,.slice dA K.dishes.length dc,.slice (some ⟨hb,ho,none⟩) K.hauls.length hc] 29 (0,0)):=by rw[hV];exact heap_alloc_new w _
 have vg:Grown w V:=by rw[hV];exact Grown.alloc _ _
 have hY:∀ W,Grown V W→W.cell? ⟨w.heap.size,0,none⟩=some (.slice gA K.goods.length gc)∧W.cell? ⟨w.heap.size,1,none⟩=some (.slice dA K.dishes.length dc)∧W.cell? ⟨w.heap.size,2,none⟩=some (.slice (some ⟨hb,ho,none⟩) K.hauls.length hc):=fun W g =>
  ⟨blk_cell (blk_grown v0 g) 0,blk_cell (blk_grown v0 g) 1,blk_cell (blk_grown v0 g) 2⟩
 have HY:=Lib.hid hY
 have HVG:=Lib.hid vg
 have HVE:=Lib.hid hV
 clear k m hasked hcan0 hwith hcan hC hR hA hp v0 vg hY hV
 unfold ktV at *
 cases hno:noneB K xs with
 | true =>
  rw[hno] at HC0
  clear hno
  go_enter LK.func47,Try.ntmps47
  go_wp2_with (first|(go_at_call 69;have hg0:=HVG.out;rw[HVE.out] at hg0;refine (HC.out _ hg0).mono ?_;rintro e w1 ⟨rfl,hg1⟩;rw[← HVE.out] at hg1;have hy:=HY.out w1 hg1;have HG1:=Lib.hid hg1;clear hg1 hg0)|(go_at_call 71;refine (HC0.out _ (HVG.out.trans HG1.out)).mono ?_;rintro e w2 ⟨rfl,hg2⟩;have HG2:=Lib.hid (HG1.out.trans hg2);clear hg2))
  refine bodyPost_ret (v:=.tuple #[.slice none 0 0,.int .i64 11]) (by simp[results,Try.results47,go_sem]) rfl ⟨none,0,[],11,rfl,HVG.out.trans HG2.out,fun k x hx=>by simp at hx,by first|exact .inl ⟨rfl,rfl,rfl⟩|exact .inl ⟨trivial,rfl,rfl⟩|exact⟨rfl,rfl⟩⟩
 | false =>
  rw[hno] at HC0
  clear hno
  go_enter LK.func47,Try.ntmps47
  go_upto_region 6 with (first|(go_at_call 69;have hg0:=HVG.out;rw[HVE.out] at hg0;refine (HC.out _ hg0).mono ?_;rintro e w1 ⟨rfl,hg1⟩;rw[← HVE.out] at hg1;have hy:=HY.out w1 hg1;have HG1:=Lib.hid hg1;clear hg1 hg0)|(go_at_call 71;refine (HC0.out _ (HVG.out.trans HG1.out)).mono ?_;rintro e w2 ⟨rfl,hg2⟩;have HG2:=Lib.hid (HG1.out.trans hg2);clear hg2))
  clear hy
  obtain⟨y0,y1,y2⟩:=HY.out w2 HG2.out
  go_wp2_with fail
  have hbs:w.heap.size<w2.heap.size:=by
   have:=lt_of_block (blk_grown (show V.heap[w.heap.size]?=_ by rw[HVE.out];exact heap_alloc_new w _) HG2.out)
   exact this
  have HBS:=Lib.hid hbs
  clear y0 y1 y2 hbs
  go_loopw [7,22] (fun l i wr=>∃ (n:Nat) (A:Option Addr) (c:Nat),n≤K.hauls.length∧i=.int .i64 n∧l=.slice A (mustL K xs n).length c∧Hid (L.OwnInts wr w2.heap.size A c (mustL K xs n))∧Hid (Grown w2 wr)) (fun _ i _=>K.hauls.length-(intOf i).toNat)
  case atStart=>exact⟨0,none,0,Nat.zero_le _,rfl,rfl,Lib.hid (L.OwnInts.nil _ _),Lib.hid (Grown.refl _)⟩
  case round =>
   obtain⟨n,A,c,hn,rfl,rfl,HO,HG⟩:=hrel
   obtain⟨w0,rfl⟩:∃ w0,w0=wr:=⟨_,rfl⟩
   obtain⟨x0,x1,x2⟩:=HY.out w0 (HG2.out.trans HG.out)
   have hll:=mustL_len K xs n
   by_cases hnl:n<K.hauls.length
   ·have hni:(n:Int)<K.hauls.length:=by omega
    have HGW:=Lib.hid (HVG.out.trans (HG2.out.trans HG.out))
    have hsu:=mustL_succ K xs n
    cases hno:noneB (clearK K n) xs with
    | true =>
     have HNO:=Lib.hid hno
     rw[hno,if_pos rfl] at hsu
     have HSU:=Lib.hid hsu
     generalize mustL K xs n=l at HO HSU hll ⊢
     clear hno hsu
     go_wp2_with (first|(go_at_call 72;refine (HWI.out w0 n hnl HGW.out).mono ?_;rintro e w3 ⟨g,c',rfl,hg3,hl3⟩;have HG3:=Lib.hid hg3;have HL3:=Lib.hid hl3;clear hg3 hl3)|(go_at_call 71;refine (HCN.out w3 n g c' hnl (HGW.out.trans HG3.out) HL3.out).mono ?_;rw[HNO.out];rintro e w4 ⟨rfl,hg4⟩;have HG4:=Lib.hid (HG3.out.trans hg4);have HO4:=Lib.hid (own_grown HO.out (HG3.out.trans hg4));clear hg4)|(at_builtin;refine L.wpl_app_ints rfl (.tmp 31) (.tmp 33) 22 rfl w2.heap.size ((like_under 22).trans Try.underlying22) inf3 A c l rfl (own_grown HO4.out (Grown.alloc _ _)) (w4.heap.size+1) (some ⟨w4.heap.size,0,none⟩) 1 [(n:Int)] rfl ints1 (by simp;omega) (by have:=HG.out.size;have:=HG4.out.size;simp;omega) ?_;intro A2 c2 w5 hO5 hg5 hat5))
     have hG5:Grown w2 w5:=Grown.by hg5 w2 ((HG.out.trans HG4.out).trans (Grown.alloc _ _)) fun k hk=>(own_low HO.out hk).1
     go_roundw
     case rel=>exact⟨n+1,A2,c2,by omega,by go_num,by rw[HSU.out];simp,by rw[HSU.out];exact Lib.hid hO5,Lib.hid hG5⟩
     case measure=>simp[intOf];omega
    | false =>
     have HNO:=Lib.hid hno
     rw[hno,if_neg (by simp)] at hsu
     have HSU:=Lib.hid hsu
     generalize mustL K xs n=l at HO HSU hll ⊢
     clear hno hsu
     go_wp2_with (first|(go_at_call 72;refine (HWI.out w0 n hnl HGW.out).mono ?_;rintro e w3 ⟨g,c',rfl,hg3,hl3⟩;have HG3:=Lib.hid hg3;have HL3:=Lib.hid hl3;clear hg3 hl3)|(go_at_call 71;refine (HCN.out w3 n g c' hnl (HGW.out.trans HG3.out) HL3.out).mono ?_;rw[HNO.out];rintro e w4 ⟨rfl,hg4⟩;have HG4:=Lib.hid (HG3.out.trans hg4);have HO4:=Lib.hid (own_grown HO.out (HG3.out.trans hg4));clear hg4))
     go_roundw
     case rel=>exact⟨n+1,A,c,by omega,by go_num,by rw[HSU.out],by rw[HSU.out];exact HO4,Lib.hid (HG.out.trans HG4.out)⟩
     case measure=>simp[intOf];omega
   ·have hni:¬ (n:Int)<K.hauls.length:=by omega
    obtain rfl:n=K.hauls.length:=by omega
    go_wp2_with fail
    refine bodyPost_ret (v:=.tuple #[.slice A (mustL K xs K.hauls.length).length c,.int .i64 0]) (by simp[results,Try.results47,go_sem]) rfl ⟨A,c,mustL K xs K.hauls.length,0,rfl,HVG.out.trans (HG2.out.trans HG.out),ints_own HO.out,by first|exact .inr ⟨rfl,rfl,rfl⟩|exact⟨rfl,rfl⟩⟩
end
end Go.Gal
end
section
namespace Go.Gal
open Go Go.Par Go.Proofs Go.RowKit
section
variable {fs:Array Func} [Like fs]
set_option maxRecDepth 20000 in
set_option maxHeartbeats 1000000 in
theorem shaped_yes (K:Kt) (gA dA hA:Option Addr) (gc dc hc:Nat) (A:Option Addr) (c:Nat) (ls:List (List Int)) (w:World) (h:DishesAt w A ls) (hl:ls.length≤1000) (h1:ls.length=K.hauls.length) (h2:∀ l∈ls,l.length=K.goods.length) :
  Calls (Pf fs) 31 #[ktV K gA dA hA gc dc hc,.slice A ls.length c] w fun e w'=>e=.returned (.bool true)∧Grown w w':=by
 unfold ktV
 rw[← h1]
 generalize K.goods.length=ng at *
 generalize K.dishes.length=nd at *
 have HG:=Lib.hid (Grown.alloc w (.cells #[.slice gA ng gc,.slice dA nd dc,.slice hA ls.length hc] 29))
 have HB:=Lib.hid (heap_alloc_new w (.cells #[.slice gA ng gc,.slice dA nd dc,.slice hA ls.length hc] 29))
 have HD:=Lib.hid (h.grown HG.out)
 clear h h1
 go_enter LK.func31,Try.ntmps31
 go_wp2_with fail
 generalize w.alloc (.cells #[.slice gA ng gc,.slice dA nd dc,.slice hA ls.length hc] 29)=w1 at HG HB HD ⊢
 go_loopw [5] (fun i wr=>∃ k:Nat,k≤ls.length∧i=.int .i64 k∧∃ q,wr=w1.drewN q) (fun i _=>ls.length-(intOf i).toNat)
 case atStart=>exact⟨0,by omega,rfl,0,rfl⟩
 case round =>
  obtain⟨k,hk,rfl,q,rfl⟩:=hrel
  have b0:=blk_cell HB.out 0
  simp only[List.getElem?_toArray,List.getElem?_cons_zero,List.getElem?_cons_succ] at b0
  by_cases hkl:k<ls.length
  ·have k1:(k:Int)<(ls.length:Int):=by omega
   obtain⟨b,off,rfl,xA,xc,c1,_,_⟩:=HD.out k _ (List.getElem?_eq_getElem hkl)
   rw[h2 _ (List.getElem_mem hkl)] at c1
   go_wp2_with fail
   go_quiet (fail)
   go_wp2_with fail
   go_roundw
   case rel=>exact⟨k+1,by omega,by go_num,_,rfl⟩
   case measure=>simp[intOf];omega
  ·have k1:¬ (k:Int)<(ls.length:Int):=by omega
   go_wp2_with fail
   go_ret
   exact⟨rfl,HG.out.trans ((Grown.refl _).drewN _)⟩
end
def oneK (K:Kt) (g:Nat):Kt:=⟨[gdAt K.goods g],K.dishes.map fun d=>[d.getD g 0],K.hauls.map fun h=>{ h with prices:=[h.prices.getD g 0] }⟩
def oneG (K:Kt) (xs:List Int) (g:Nat):Good1:=goodOf K xs g (gdAt K.goods g)
theorem oneK_goods {K:Kt} {xs:List Int} {g:Nat} : dsOf (oneK K g) xs=[oneG K xs g]:=by
 unfold dsOf oneG
 show List.mapIdx _ [gdAt K.goods g]=_
 simp only[List.mapIdx_cons,List.mapIdx_nil]
 congr 1
 unfold goodOf
 congr 1
 simp only[oneK,List.zip_map_left,List.map_map]
 refine List.map_congr_left fun p _=>?_
 obtain⟨h,d⟩:=p
 simp only[Function.comp,Prod.map,id,haulOf]
 congr 1
 simp only[oneK,List.getD_eq_getElem?_getD,List.getElem?_map]
 cases K.dishes[d.toNat]?<;>simp
theorem dsOf_at {K:Kt} {xs:List Int} {g:Nat} (hg:g<K.goods.length):(dsOf K xs)[g]?=some (oneG K xs g):=by
 rw[dsOf_get,gdAt_get hg]
 rfl
theorem oneK_rows {K:Kt} {xs:List Int} {g h:Nat} (hh:h<K.hauls.length):(rowsOf (oneK K g) xs)[h]?=some [ldAt h (oneG K xs g)]:=by
 unfold rowsOf
 rw[oneK_goods,rowsTo_get (by simpa[oneK] using hh),if_neg (by omega)]
 rfl
theorem rowsOf_at {K:Kt} {xs:List Int} {h:Nat} (hh:h<K.hauls.length):(rowsOf K xs)[h]?=some ((dsOf K xs).map (ldAt h)):=by
 unfold rowsOf
 rw[rowsTo_get hh,if_neg (by omega),List.take_length]
theorem rowsOf_shape {K:Kt} {xs:List Int} : ∀ l∈rowsOf K xs,l.length=K.goods.length:=fun l hl=>by
 obtain⟨h,hh⟩:=List.getElem?_of_mem hl
 have hlt:h<K.hauls.length:=by have:=(List.getElem?_eq_some_iff.1 hh).1;rwa [rowsOf_len] at this
 rw[rowsOf_at hlt] at hh
 cases hh
 simp[dsOf_len]
theorem rowsOf_cell {K:Kt} {xs:List Int} {h g:Nat} (hg:g<K.goods.length):((dsOf K xs).map (ldAt h))[g]?=some (ldAt h (oneG K xs g)):=by
 rw[List.getElem?_map,dsOf_at hg]
 rfl
def sumTo (K:Kt) (xs:List Int):Nat→Nat
 | 0=>0
 | g+1=>sumTo K xs g+(if (planOf (oneG K xs g)).2.2 then 0 else (planOf (oneG K xs g)).2.1)
def fineTo (K:Kt) (xs:List Int):Nat→Bool
 | 0=>true
 | g+1=>fineTo K xs g&&!(planOf (oneG K xs g)).2.2
theorem fineTo_iff {K:Kt} {xs:List Int} : ∀ {n:Nat},fineTo K xs n=true↔∀ g,g<n→(planOf (oneG K xs g)).2.2=false
 | 0=>⟨fun _ g h=>by omega,fun _=>rfl⟩
 | n+1=>by
  unfold fineTo
  rw[Bool.and_eq_true,fineTo_iff]
  constructor
  ·rintro⟨a,b⟩ g hg
   rcases Nat.lt_or_ge g n with q|q
   ·exact a g q
   ·obtain rfl:g=n:=by omega
    simpa using b
  ·intro h
   exact⟨fun g hg=>h g (by omega),by simpa using h n (by omega)⟩
theorem fineTo_all {K:Kt} {xs:List Int} : fineTo K xs K.goods.length=!noneB K xs:=by
 have key:fineTo K xs K.goods.length=true↔noneB K xs=false:=by
  rw[fineTo_iff]
  unfold noneB
  rw[List.any_eq_false]
  constructor
  ·intro h D hD
   obtain⟨i,hi⟩:=List.getElem?_of_mem hD
   have hlt:i<K.goods.length:=by have:=(List.getElem?_eq_some_iff.1 hi).1;rwa [dsOf_len] at this
   rw[dsOf_at hlt] at hi
   cases hi
   simp[h i hlt]
  ·intro h g hg
   simpa using h _ (List.mem_of_getElem? (dsOf_at hg))
 cases h1:fineTo K xs K.goods.length<;>cases h2:noneB K xs<;>simp_all
section
variable {fs:Array Func} [LikeS fs]
theorem cheapest_bad (K:Kt) (gA dA hA:Option Addr) (gc dc hc:Nat) (xs:List Int) (mA:Option Addr) (mc:Nat) (w:World) (k:KtAt w K gA dA hA) (m:Ints w mA xs) (hlen:xs.length≤1000) (ha:askedE K xs=0) (hn:noneB K xs=true) :
  Calls (Pf fs) 29 #[ktV K gA dA hA gc dc hc,.slice mA xs.length mc] w fun e w'=>e=.returned (.tuple #[.slice none 0 0,.int .i64 0,.int .i64 11])∧Grown w w':=
 (cheapest_any K gA dA hA gc dc hc xs mA mc w k m hlen).mono fun e w' ⟨v,e1,g,h⟩=>by
  cases h with
  | asked h1=>exact absurd ha h1
  | bad _ h1=>exact⟨e1,g⟩
  | good _ h1 M hM=>rw[hn] at h1;cases h1
theorem cheapest_good (K:Kt) (gA dA hA:Option Addr) (gc dc hc:Nat) (xs:List Int) (mA:Option Addr) (mc:Nat) (w:World) (k:KtAt w K gA dA hA) (m:Ints w mA xs) (hlen:xs.length≤1000) (ha:askedE K xs=0) (hn:noneB K xs=false) :
  Calls (Pf fs) 29 #[ktV K gA dA hA gc dc hc,.slice mA xs.length mc] w fun e w'=>∃ M,e=.returned (.tuple #[.slice (some ⟨M,0,none⟩) K.hauls.length K.hauls.length,.int .i64 (costOf K xs),.int .i64 0])∧Grown w w'∧DishesAt w' (some ⟨M,0,none⟩) (rowsOf K xs):=
 (cheapest_any K gA dA hA gc dc hc xs mA mc w k m hlen).mono fun e w' ⟨v,e1,g,h⟩=>by
  cases h with
  | asked h1=>exact absurd ha h1
  | bad _ h1=>rw[hn] at h1;cases h1
  | good _ h1 M hM=>exact⟨M,e1,g,hM⟩
theorem shaped_rows (K:Kt) (xs:List Int) (gA dA hA:Option Addr) (gc dc hc:Nat) (A:Option Addr) (c:Nat) (w:World) (h:DishesAt w A (rowsOf K xs)) (hn:K.hauls.length≤1000) :
  Calls (Pf fs) 31 #[ktV K gA dA hA gc dc hc,.slice A K.hauls.length c] w fun e w'=>e=.returned (.bool true)∧Grown w w':=by
 have h:=shaped_yes (fs:=fs) K gA dA hA gc dc hc A c (rowsOf K xs) w h (by rw[rowsOf_len];exact hn) (rowsOf_len _ _) rowsOf_shape
 rw[rowsOf_len] at h
 exact h
end
end Go.Gal
end
section
namespace Go.Gal
open Go Go.Par Go.Proofs Go.RowKit
theorem own_form {w:World} {base:Nat} {A:Option Addr} {c:Nat} {xs:List Int} (h:L.OwnInts w base A c xs) (h0 : 0<xs.length):∃ b,A=some ⟨b,0,none⟩∧base≤b∧(∃ cs,w.heap[b]?=some (.cells cs 3 (0,0)))∧xs.length≤c∧Ints w A xs:=by
 have hc:=own_cap h
 rcases h.2 with ⟨q,_⟩|⟨g,cap,cur,hv,hg,hh,hn,hm,hsz,htk⟩
 ·injection q with _ q1 q2
  omega
 ·injection hv with hA _ hcc
  exact⟨g,hA,hg,⟨_,hh⟩,hc,ints_own h⟩
structure OneF (W0:World) (base:Nat) (K:Kt) (db hb:Nat) (nb nc pb pc:Nat→Nat):Prop where
 ne:db≠hb
 bd:base≤db∧base≤hb
 dish:∀ j d,K.dishes[j]?=some d→Ints W0 (some ⟨nb j,0,none⟩) d∧nb j≠db∧nb j≠hb∧K.goods.length≤nc j
 haul:∀ j h,K.hauls[j]?=some h→Ints W0 (some ⟨pb j,0,none⟩) h.prices∧pb j≠db∧pb j≠hb∧K.goods.length≤pc j
structure OneJ (W0 W:World) (K:Kt) (g db hb n m:Nat) (nb nc pb pc:Nat→Nat):Prop where
 size:W.heap.size=W0.heap.size
 os:W.os=W0.os
 same:∀ b,b≠db→b≠hb→W.heap[b]?=W0.heap[b]?
 drow:∃ cur,W.heap[db]?=some (.cells cur 48 (0,0))∧∀ j,j<K.dishes.length→cur[j]?=some (if j<n then .slice (some ⟨nb j,g,none⟩) 1 (nc j-g) else .slice (some ⟨nb j,0,none⟩) K.goods.length (nc j))
 hrow:∃ cur,W.heap[hb]?=some (.cells cur 46 (0,0))∧∀ j h,K.hauls[j]?=some h→cur[j*3]?=some (.int .i64 h.hours)∧cur[j*3+1]?=some (.int .i64 h.covers)∧cur[j*3+2]?=some (if j<m then .slice (some ⟨pb j,g,none⟩) 1 (pc j-g) else .slice (some ⟨pb j,0,none⟩) K.goods.length (pc j))
theorem KOwn.one {w:World} {base:Nat} {K:Kt} {gA:Option Addr} {gc:Nat} {dA:Option Addr} {dc:Nat} {hA:Option Addr} {hc:Nat} (h:KOwn w base K gA gc dA dc hA hc) (h1 : 1≤K.goods.length) (h2 : 1≤K.dishes.length) (h3 : 1≤K.hauls.length) (hd:∀ d∈K.dishes,d.length=K.goods.length) (hp:∀ x∈K.hauls,x.prices.length=K.goods.length) (g:Nat) :
  ∃ gb db hb nb nc pb pc,gA=some ⟨gb,0,none⟩∧dA=some ⟨db,0,none⟩∧hA=some ⟨hb,0,none⟩∧K.goods.length≤gc∧base≤gb∧gb≠db∧gb≠hb∧GdsAt w gA K.goods∧OneF w base K db hb nb nc pb pc∧OneJ w w K g db hb 0 0 nb nc pb pc:=by
 obtain⟨m,hm1,hm2,hG,hD,hH⟩:=h.ex
 have hGA:=GdList.at_ hG
 have hgc:=RecList.cap hG
 obtain⟨cellsG,AsG,csG,g1,_,_⟩:=hG
 obtain⟨cellsD,AsD,csD,d1,d2,d3⟩:=hD
 obtain⟨cellsH,AsH,csH,k1,k2,k3⟩:=hH
 rcases g1.2 with ⟨q,_⟩|⟨gb,_,curG,hvG,hgG,hhG,_,_,_,_⟩
 ·injection q with _ q1 q2;omega
 injection hvG with eG _ _
 rcases d1.2 with ⟨q,_⟩|⟨db,capD,curD,hvD,hgD,hhD,hnD,_,hszD,htD⟩
 ·injection q with _ q1 q2;omega
 injection hvD with eD _ _
 rcases k1.2 with ⟨q,_⟩|⟨hb,capH,curH,hvH,hgH,hhH,hnH,_,hszH,htH⟩
 ·injection q with _ q1 q2;omega
 injection hvH with eH _ _
 have fD:∀ j d,K.dishes[j]?=some d→∃ b,AsD j=some ⟨b,0,none⟩∧(∃ cs,w.heap[b]?=some (.cells cs 3 (0,0)))∧d.length≤csD j∧Ints w (AsD j) d:=fun j d hj=>by
  obtain⟨_,q2,_⟩:=d2 j d hj
  have hl:=hd d (List.mem_of_getElem? hj)
  obtain⟨b,e1,_,e3,e4,e5⟩:=own_form (xs:=d) q2 (by omega)
  exact⟨b,e1,e3,e4,e5⟩
 have fH:∀ j x,K.hauls[j]?=some x→∃ b,AsH j=some ⟨b,0,none⟩∧(∃ cs,w.heap[b]?=some (.cells cs 3 (0,0)))∧x.prices.length≤csH j∧Ints w (AsH j) x.prices:=fun j x hj=>by
  obtain⟨_,q2,_⟩:=k2 j x hj
  have hl:=hp x (List.mem_of_getElem? hj)
  obtain⟨b,e1,_,e3,e4,e5⟩:=own_form (xs:=x.prices) q2 (by omega)
  exact⟨b,e1,e3,e4,e5⟩
 refine⟨gb,db,hb,fun j=>((AsD j).map (·.block)).getD 0,csD,fun j=>((AsH j).map (·.block)).getD 0,csH,eG,eD,eH,hgc,hgG,fun e=>?_,fun e=>?_,hGA,⟨fun e=>?_,⟨hgD,by omega⟩,fun j d hj=>?_,fun j x hj=>?_⟩,⟨rfl,rfl,fun _ _ _=>rfl,⟨curD,hhD,fun j hj=>?_⟩,⟨curH,hhH,fun j x hj=>?_⟩⟩⟩
 ·exact tag_ne (show w.heap[db]?=some (.cells curG 42 (0,0)) by rw[← e];exact hhG) hhD (by decide) rfl
 ·exact tag_ne (show w.heap[hb]?=some (.cells curG 42 (0,0)) by rw[← e];exact hhG) hhH (by decide) rfl
 ·exact tag_ne (show w.heap[hb]?=some (.cells curD 48 (0,0)) by rw[← e];exact hhD) hhH (by decide) rfl
 ·obtain⟨b,e1,⟨cs,e2⟩,e3,e4⟩:=fD j d hj
  rw[e1] at e4
  have hl:=hd d (List.mem_of_getElem? hj)
  simp only[e1,Option.map_some,Option.getD_some]
  exact⟨e4,tag_ne e2 hhD (by decide),tag_ne e2 hhH (by decide),by omega⟩
 ·obtain⟨b,e1,⟨cs,e2⟩,e3,e4⟩:=fH j x hj
  rw[e1] at e4
  have hl:=hp x (List.mem_of_getElem? hj)
  simp only[e1,Option.map_some,Option.getD_some]
  exact⟨e4,tag_ne e2 hhD (by decide),tag_ne e2 hhH (by decide),by omega⟩
 ·have hjd:=List.getElem?_eq_getElem hj
  obtain⟨q1,_,_⟩:=d2 j _ hjd
  obtain⟨b,e1,_,_,_⟩:=fD j _ hjd
  have:=q1 0 _ rfl
  rw[← htD,List.getElem?_take] at this
  split at this
  ·rw[Array.getElem?_toList] at this
   simp only[Nat.mul_one,Nat.add_zero] at this
   rw[this,hd _ (List.getElem_mem hj)]
   simp[e1]
  ·cases this
 ·obtain⟨q1,_,_⟩:=k2 j _ hj
  obtain⟨b,e1,_,_,_⟩:=fH j _ hj
  have get:∀ i v,(encH x (AsH j) (csH j))[i]?=some v→curH[j*3+i]?=some v:=fun i v hv=>by
   have:=q1 i v hv
   rw[← htH,List.getElem?_take] at this
   split at this
   ·rwa [Array.getElem?_toList] at this
   ·cases this
  refine⟨get 0 _ rfl,get 1 _ rfl,?_⟩
  rw[get 2 _ rfl,hp _ (List.mem_of_getElem? hj)]
  simp[e1]
section
variable {W0 W:World} {base:Nat} {K:Kt} {g db hb n m:Nat} {nb nc pb pc:Nat→Nat}
theorem OneF.grown {W1:World} (f:OneF W0 base K db hb nb nc pb pc) (k:Grown W0 W1):OneF W1 base K db hb nb nc pb pc:=
 ⟨f.ne,f.bd,fun j d hj=>⟨(f.dish j d hj).1.grown k,(f.dish j d hj).2⟩,fun j d hj=>⟨(f.haul j d hj).1.grown k,(f.haul j d hj).2⟩⟩
theorem OneJ.refl_grown {W1:World} (f:OneJ W0 W0 K g db hb n m nb nc pb pc) (k:Grown W0 W1):OneJ W1 W1 K g db hb n m nb nc pb pc:=by
 obtain⟨cur,a1,a2⟩:=f.drow
 obtain⟨cur2,b1,b2⟩:=f.hrow
 exact⟨rfl,rfl,fun _ _ _=>rfl,⟨cur,blk_grown a1 k,a2⟩,⟨cur2,blk_grown b1 k,b2⟩⟩
end
end Go.Gal
end
