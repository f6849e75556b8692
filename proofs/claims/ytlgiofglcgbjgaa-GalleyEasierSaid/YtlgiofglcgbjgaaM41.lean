/- Writes into own rows of records; a kitchen of one's own; walks: covered. Plain laws: some loads will do (feas): with more that is there, and with fewer covers, too. Walks: GalleyCovers .. -/
import Derived.Test.YtlgiofglcgbjgaaM40
import Derived.Test.YtlgiofglcgbjgaaRows
import Derived.Conc.LeavingOf
import Derived.OpenShut
import Derived.ChangeSame
import Derived.Carry
import Derived.Lib.SliceRun
import Derived.Deep.Upon
import Derived.Deep.MidRow
namespace Go.Gal
open Go Go.Par Go.Proofs Go.RowKit
section
theorem own_put {w:World} {base e size n:Nat} {A:Option Addr} {c:Nat} {xs:List Value} (h:w.ownsRow base e size (.slice A n c) n xs) {i:Nat} (hi:i<n*size) (v:Value) :
  ∃ b cur,A=some ⟨b,0,none⟩∧base≤b∧w.heap[b]?=some (.cells cur e (0,0))∧(∃ old,w.cell? ⟨b,i,none⟩=some old)∧(w.setCell ⟨b,i,none⟩ v).ownsRow base e size (.slice A n c) n (xs.set i v):=by
 obtain⟨hl,h2⟩:=h
 rcases h2 with ⟨_,q⟩|⟨g,cap,cur,hv,hg,hh,hn,hm,hsz,htk⟩
 ·subst q;simp at hi
 ·injection hv with hA hcn hcc
  subst hA
  have hc2:n*size≤cap*size:=Nat.mul_le_mul_right _ hn
  refine⟨g,cur,rfl,hg,hh,⟨cur[i]'(by omega),by rw[za hh,Array.getElem?_eq_getElem (by omega)]⟩,by simpa using hl,.inr ⟨g,cap,cur.setIfInBounds i v,by rw[hcc],hg,zS hh v,hn,hm,by simpa using hsz,?_⟩⟩
  rw[Array.toList_setIfInBounds,List.take_set,htk]
section
variable {α : Type} {e size:Nat} {enc : α→Option Addr→Nat→List Value} {inn : α→List Int} {w w':World} {base top c:Nat} {A:Option Addr} {xs:List α}
theorem RecList.put1 (h:RecList e size enc inn w base top A c xs) (he:e≠3) {j i:Nat} {x y : α} {v:Value} (hj:xs[j]?=some x) (hi:i<size) (hs:∀ x B cc,(enc x B cc).length=size) (hy:∀ B cc,enc y B cc=(enc x B cc).set i v) (hin:inn y=inn x) :
  ∃ b,A=some ⟨b,0,none⟩∧(∃ cur,w.heap[b]?=some (.cells cur e (0,0)))∧(∃ old,w.cell? ⟨b,j*size+i,none⟩=some old)∧w.frozen? ⟨b,j*size+i,none⟩=false∧RecList e size enc inn (w.setCell ⟨b,j*size+i,none⟩ v) base top A c (xs.set j y):=by
 obtain⟨cells,As,cs,h1,h2,h3⟩:=h
 have hjl:j<xs.length:=(List.getElem?_eq_some_iff.1 hj).1
 have hb:j*size+i<xs.length*size:=by
  have:(j+1)*size≤xs.length*size:=Nat.mul_le_mul_right _ hjl
  rw[Nat.add_mul] at this
  omega
 obtain⟨b,cur,rfl,hbb,hh,hold,hp⟩:=own_put h1 hb v
 refine⟨b,rfl,⟨cur,hh⟩,hold,zk hh _,cells.set (j*size+i) v,As,cs,by rw[List.length_set];exact hp,fun j' z hz=>?_,by rw[List.length_set];exact h3⟩
 have hOK:∀ {D:Option Addr} {cd:Nat} {l:List Int},L.OwnInts w base D cd l→L.OwnInts (w.setCell ⟨b,j*size+i,none⟩ v) base D cd l:=fun {D cd l} hO=>own_keep hO fun k hk _=>Below.heap_setCell _ _ _ _ (by
  obtain⟨cc,q⟩:=own_tag hO hk
  exact tag_ne q hh (fun q=>he q.symm))
 by_cases hjj:j'=j
 ·subst hjj
  rw[List.getElem?_set_self hjl] at hz
  cases hz
  obtain⟨k1,k2,k3⟩:=h2 j' x hj
  refine⟨fun i' u hu=>?_,by rw[hin];exact hOK k2,k3⟩
  rw[hy] at hu
  by_cases hii:i'=i
  ·subst hii
   have hlen:i'<(enc x (As j') (cs j')).length:=by rw[hs];exact hi
   rw[List.getElem?_set_self hlen] at hu
   cases hu
   rw[List.getElem?_set_self (by rw[h1.1];exact hb)]
  ·rw[List.getElem?_set_ne (fun q=>hii q.symm)] at hu
   rw[List.getElem?_set_ne (by omega)]
   exact k1 i' u hu
 ·rw[List.getElem?_set_ne (fun q=>hjj q.symm)] at hz
  obtain⟨k1,k2,k3⟩:=h2 j' z hz
  refine⟨fun i' u hu=>?_,hOK k2,k3⟩
  have hi':i'<size:=by have:=(List.getElem?_eq_some_iff.1 hu).1;rwa [hs] at this
  rw[List.getElem?_set_ne (fun q=>?_)]
  ·exact k1 i' u hu
  ·rcases Nat.lt_or_ge j' j with q1|q1
   ·have:(j'+1)*size≤j*size:=Nat.mul_le_mul_right _ q1
    rw[Nat.add_mul] at this
    omega
   ·have:(j+1)*size≤j'*size:=Nat.mul_le_mul_right _ (by omega)
    rw[Nat.add_mul] at this
    omega
end
section
variable {w:World} {base:Nat} {K:Kt} {gA:Option Addr} {gc:Nat} {dA:Option Addr} {dc:Nat} {hA:Option Addr} {hc:Nat}
theorem KOwn.grown {w':World} (h:KOwn w base K gA gc dA dc hA hc) (g:Grown w w'):KOwn w' base K gA gc dA dc hA hc:=by
 obtain⟨m,h1,h2,h3,h4,h5⟩:=h
 exact⟨m,h1,Nat.le_trans h2 g.size,h3.grown g,h4.grown g,(h5.grown g).up g.size⟩
theorem KOwn.kt (h:KOwn w base K gA gc dA dc hA hc) (hd:∀ d∈K.dishes,d.length≤1000) (hp:∀ x∈K.hauls,x.prices.length≤1000) (n1:K.goods.length≤1000) (n2:K.dishes.length≤1000) (n3:K.hauls.length≤1000):KtAt w K gA dA hA:=by
 obtain⟨m,h1,h2,h3,h4,h5⟩:=h
 exact⟨GdList.at_ h3,DsList.at_ h4 hd,HlList.at_ h5 hp,n1,n2,n3⟩
theorem KOwn.covers (h:KOwn w base K gA gc dA dc hA hc) {j:Nat} {x:Hl} {v:Int} (hj:K.hauls[j]?=some x) :
  ∃ b,hA=some ⟨b,0,none⟩∧base≤b∧(∃ old,w.cell? ⟨b,j*3+1,none⟩=some old)∧w.frozen? ⟨b,j*3+1,none⟩=false ∧
   KOwn (w.setCell ⟨b,j*3+1,none⟩ (.int .i64 v)) base { K with hauls:=K.hauls.set j { x with covers:=v } } gA gc dA dc hA hc:=by
 obtain⟨m,h1,h2,h3,h4,h5⟩:=h
 obtain⟨b,e1,⟨cur,e2⟩,e3,e4,e5⟩:=RecList.put1 (y:={ x with covers:=v }) (v:=.int .i64 v) h5 (by decide) hj (i:=1) (by decide) (fun _ _ _=>rfl) (fun _ _=>rfl) rfl
 obtain⟨_,_,_,q1,q2,_⟩:=RecList.at_ h5 (fun _ _ _=>rfl) hj
 rw[e1] at q1
 injection q1 with q1
 injection q1 with q1 _
 subst q1
 exact⟨b,e1,by omega,e3,e4,m,h1,by rw[zu];exact h2,h3.setCell (p:=⟨b,j*3+1,none⟩) e2 (by decide) (by decide) _,h4.setCell (p:=⟨b,j*3+1,none⟩) e2 (by decide) (by decide) _,by rw[zu];exact e5⟩
end
section
variable {fs:Array Func} [Like fs]
end
end
section
def goes (D:Good1) (h:Haul1) (rest:Nat→Bool) (t n:Nat):Bool:=decide ((D.reserve:Int)≤after D h (t+n))&&rest (after D h (t+n)).toNat
structure Easier (h h':Haul1):Prop where
 hours:h.hours=h'.hours
 price:h.price=h'.price
 eaten:h.covers*h.need≤h'.covers*h'.need
theorem tries_room {D:Good1} {h:Haul1} {t n:Nat} (hn:n<tries D h t):t+n≤D.room:=by
 unfold tries at hn
 split at hn<;>omega
inductive EasyAll:List Haul1→List Haul1→Prop
 | nil:EasyAll [] []
 | cons {h h':Haul1} {hs hs':List Haul1} : Easier h h'→EasyAll hs hs'→EasyAll (h::hs) (h'::hs')
end
section
theorem dealt_valid {K:Kt} {goods room hauls:Nat} (h1 : 1≤K.goods.length∧K.goods.length≤goods∧∀ x∈K.goods,GdOk room x) (h2 : 1≤K.dishes.length∧K.dishes.length≤3∧∀ x∈K.dishes,DsOk K.goods.length x) (h3 : 1≤K.hauls.length∧K.hauls.length≤hauls∧∀ x∈K.hauls,HlOk K.goods.length x)
  (hg:goods≤3) (hr:room≤20) (hh:hauls≤5):zG K=0:=by
 have e1:goodsE K.goods=0:=by
  unfold goodsE
  rw[manyE_ok (by omega) (by omega),if_neg (by simp),if_neg]
  rw[List.any_eq_true]
  rintro⟨x,hx,hb⟩
  obtain⟨⟨a1,a2⟩,⟨b1,b2⟩,⟨c1,c2⟩,⟨d1,d2⟩⟩:=h1.2.2 x hx
  simp[qb,outB] at hb
  omega
 have e2:qt K.goods.length K.dishes=0:=by
  unfold qt
  rw[manyE_ok (by omega) (by omega),if_neg (by simp)]
  exact firstE_ok fun d hd=>eachE_ok (by have:=(h2.2.2 d hd).1;omega) (h2.2.2 d hd).2
 have e3:haulsE K.goods.length K.hauls=0:=haulsE_ok h3.1 (by omega) fun x hx=>by
  obtain⟨⟨a1,a2⟩,⟨b1,b2⟩,c,d⟩:=h3.2.2 x hx
  exact⟨a1,by omega,b1,b2,c,fun p hp=>⟨(d p hp).1,by have:=(d p hp).2;omega⟩⟩
 unfold zG
 rw[e1,e2,if_neg (by simp),if_neg (by simp),e3]
theorem asked_of {K:Kt} {xs:List Int} (h1:zG K=0) (h2:qi K.dishes.length K.hauls.length xs=0):qe K xs=0:=by
 unfold qe
 rw[h1,if_neg (by simp)]
 exact h2
section
variable {fs:Array Func} [LikeS fs]
end
end
section
open Go.ChangeShapes Go.WideShapes Go.ChangeAt
theorem own_knob:ownKnob Try.prog.godebug=none:=by kernel_rfl
theorem laid_out:laidOutB Try.prog=true:=by kernel_rfl
theorem cells_int:Try.prog.cellsOf 3=1:=by kernel_rfl
theorem readable_nums:Try.prog.readableRec 22=true:=by kernel_rfl
theorem nums_row : 22<Try.prog.types.size:=of_decide_eq_true (by kernel_rfl)
theorem no_globals:S.globals.size=0:=by kernel_rfl
section
variable {H:Type} {enc:TypeId×Value→H} {P:Program}
theorem post_of_below {f:Func} {s:ChangeSpec} {apart fresh handsOn again:Bool} {W W':World} {args:Array Value} {v:Value} {ds gs:List (DataW H)} {before pa pv:List MemPlace}
  (hW:DataW.Whole enc P f.params.toList s.vars apart W args.toList ds gs before)
  (hres:∀ (b:Nat) (sp:Nat→Bool) (hd:Bool),DataW.TrodAll enc P W' b sp hd f.resultTypes.toList (v.resultList f.resultTypes.size) (s.fn H (ds++gs)).results [])
  (hargs:∀ sp:Nat→Bool,(∀ p∈before,sp p.block=true)→DataW.TrodAll enc P W' 0 sp true f.params.toList args.toList (s.fn H (ds++gs)).args pa)
  (hvars:∀ sp:Nat→Bool,(∀ p∈before,sp p.block=true)→DataW.TrodVars enc P W' sp s.vars (s.fn H (ds++gs)).vars pv)
  (hps:before=pa++pv) (hb:Below W.heap.size W W')
  (hok:∀ (j:Nat) (t:TypeId) (r:Value),f.resultTypes[j]?=some t→(v.resultList f.resultTypes.size)[j]?=some r→Value.okWide P W' .any 0 t r) :
  s.post enc P f apart fresh handsOn again W args v W':=by
 have hlt:∀ p∈before,p.block<W.heap.size:=fun p hp=>hW.lt p hp
 have hold:∀ p∈before,(fun b=>decide (b<W.heap.size)) p.block=true:=fun p hp=>by simpa using hlt p hp
 refine⟨ds,gs,before,[],pa,pv,hW,hres _ _ _,hargs _ hold,hvars _ hold,World.keptBut_mono (fun p hp=>⟨hp,?_⟩) (hb.frame (·∈before)),fun _=>?_⟩
 ·rw[hps,List.mem_append] at hp
  exact Or.inr hp
 ·obtain⟨_,_,_,_,_,hz,hn⟩:=hW
  refine⟨hok,_,_,([]++pa)++pv,⟨[]++pa,pv,trodAll_append (hargs _ (fun _ _=>rfl)) (hres _ _ _),hvars _ (fun _ _=>rfl),rfl,?_,?_⟩,?_⟩
  ·intro b off hp
   have hin:MemPlace.cell b off∈before:=by rw[hps];simpa using hp
   rw[hb.frozen (hlt _ hin)]
   exact hz b off hin
  ·intro ha
   have:=hn ha
   rw[hps] at this
   simpa using this
  ·intro p hp _
   rw[hps]
   simpa using hp
end
def Walked (F:FuncId):Prop:=∀ (A:Option Addr) (cp:Nat) (xs:List Int) (w:World),Ints w A xs→xs.length≤9223372036854775807 →
 Calls S F #[.slice A xs.length cp] w fun e _=>e=.returned (.bool true)
theorem walked_of {F:FuncId} (h:∀ (ns:List Int) (A:Option Addr) (c:Nat) (w:World),Ints w A ns→ns.length≤9223372036854775807→Calls (Pf S.funcs) F #[.slice A ns.length c] w fun e _=>e=.returned (.bool true)):Walked F:=fun A c xs w hx hl=>by
 have:=h xs A c w hx hl
 rwa [pf_S] at this
set_option maxRecDepth 100000 in
theorem okWide_seen {W:World} {base:Nat} {A:Option Addr} {len cap:Nat} (h:Value.okWide Try.prog W .any base 22 (.slice A len cap)):∀ p,A=some p→Seen W p.block∧p.spot=none:=by
 rintro p rfl
 simp only[Value.okWide,Try.underlying22,Cell.okWide,Cell.ok] at h
 obtain⟨_,_,_,hsp,row,cells,hs,_⟩:=h
 refine⟨?_,hsp⟩
 unfold World.shape? at hs
 split at hs
 ·rename_i c t m hc
  exact⟨_,_,_,hc⟩
 ·cases hs
set_option maxRecDepth 100000 in
theorem nums_runs {F:FuncId} {fn:Func} {s:ChangeSpec} {apart fresh handsOn again:Bool} (hF:¬ FSt F) (hini:Try.prog.inits.idxOf? F=none) (hp:fn.params=#[22]) (hr:fn.resultTypes=#[4]) (hv:s.vars=[])
  (hs:∀ (H:Type) (d:DataW H),(s.fn H [d]).results=[.lit (.bool true)]∧(s.fn H [d]).args=[d]∧(s.fn H [d]).vars=[]) (hw:Walked F)
  (H:Type) (enc:TypeId×Value→H) (W:World) (base:Nat) (args:Array Value) (ds gs:List (DataW H)) (before:List MemPlace)
  (hval:∀ (j:Nat) t v,fn.params[j]?=some t→args[j]?=some v→Value.okWide Try.prog W .any base t v)
  (hW:DataW.Whole enc Try.prog fn.params.toList s.vars apart W args.toList ds gs before) :
  ∃ M last o w' t',runNT Try.prog (M+1) (Go.Conc.solo (Go.Conc.G (Frame.enter Try.prog F args .normal) []) W) #[]=(.ended o w',t')∧runN Try.prog M (Go.Conc.solo (Go.Conc.G (Frame.enter Try.prog F args .normal) []) W)=.next last ∧
   step Try.prog last=.ended o w'∧Go.Conc.Good Try.prog (fun v W'=>s.post enc Try.prog fn apart fresh handsOn again W args v W') last o w' t':=by
 have hW':=hW
 obtain⟨p,q,hA0,hV,rfl,hfz,hnd⟩:=hW
 have hA:DataW.TrodAll enc Try.prog W 0 (fun _=>true) true fn.params.toList args.toList ds p:=hA0
 rw[hp] at hA hval
 rw[hv] at hV
 obtain⟨v0,d0,rfl,rfl,h0⟩:=trodAll_one hA
 obtain⟨rfl,rfl⟩:=trodVars_none hV
 obtain⟨a0,len,cap,rfl⟩:=okWide_slice Try.underlying22 (hval 0 22 v0 rfl rfl)
 have hseen:=okWide_seen (hval 0 22 _ rfl rfl)
 have h0k:=h0
 obtain⟨fuel,hf⟩:=h0
 clear hA0
 simp only[List.append_nil] at hW'
 have hlt:∀ x∈p,x.block<W.heap.size:=fun x hx=>by simpa using hW'.lt x hx
 have hclose:∀ xs:List Int,xs.length=len→Ints W a0 xs→xs.length≤9223372036854775807 →
   ∃ M last o w' t',runNT Try.prog (M+1) (Go.Conc.solo (Go.Conc.G (Frame.enter Try.prog F #[.slice a0 len cap] .normal) []) W) #[]=(.ended o w',t')∧runN Try.prog M (Go.Conc.solo (Go.Conc.G (Frame.enter Try.prog F #[.slice a0 len cap] .normal) []) W)=.next last ∧
   step Try.prog last=.ended o w'∧Go.Conc.Good Try.prog (fun v W'=>s.post enc Try.prog fn apart fresh handsOn again W #[.slice a0 len cap] v W') last o w' t':=fun xs hx hi hl=>by
  subst hx
  have hN:∀ b,(∃ p,a0=some p∧p.block=b)→Seen W b:=fun b ⟨p,hp,hb⟩=>hb▸(hseen p hp).1
  have hrel:VsRel (idS fun b=>∃ p,a0=some p∧p.block=b) #[.slice a0 xs.length cap] #[.slice a0 xs.length cap]:=by
   refine⟨rfl,fun i x y h1 h2=>?_⟩
   rcases i with _|i
   ·simp at h1 h2
    subst h1 h2
    refine .slice _ _ ?_
    cases a0 with
    | none=>exact .none
    | some p =>
     obtain⟨b,off,spot⟩:=p
     have:=(hseen _ rfl).2
     simp only at this
     subst this
     exact .some ⟨⟨rfl,_,rfl,rfl⟩,rfl,rfl⟩
   ·simp at h1
  have hmi:∀ t,Ints { maskS (fun b=>∃ p,a0=some p∧p.block=b) W with tape:=t } a0 xs:=fun t k x hk=>by
   obtain⟨b,off,e,hc⟩:=hi k x hk
   exact⟨b,off,e,maskW_cell (N:=fun b=>∃ p,a0=some p∧p.block=b) ⟨_,e,rfl⟩ hc (.int _ _)⟩
  obtain⟨M,last,o,w',t',h1,h2,h3,h4⟩:=law_runs cheapOn_S cheapOn_Sw hF hini hN (by rw[no_globals];exact Nat.zero_le _) hrel fun t=>hw a0 cap xs _ (hmi t) hl
  refine⟨M,last,o,w',t',h1,h2,h3,h4.mono fun v hv1=>?_⟩
  obtain⟨rfl,g1,g2,g3⟩:=hv1
  have hb:Below W.heap.size W w':=⟨g3.os,g3.tape,g3.output,g1,g2⟩
  obtain⟨e1,e2,e3⟩:=hs H d0
  refine post_of_below (pa:=p) (pv:=[]) hW' (fun b sp hd=>?_) (fun sp hsp=>?_) (fun sp _=>?_) (by simp) hb (fun j t r hj hr2=>?_)
  ·rw[hr]
   show DataW.TrodAll enc Try.prog w' b sp hd [4] [.bool true] (s.fn H [d0]).results []
   rw[e1]
   exact trodAll_cons_mk (shut_bool Try.underlying4 _) trodAll_mk0
  ·rw[hp]
   show DataW.TrodAll enc Try.prog w' 0 sp true [22] [.slice a0 xs.length cap] (s.fn H [d0]).args p
   rw[e2]
   exact trodAll_mk1 (WideElems.Trod_stays laid_out readable_nums nums_row h0k (fun x hx=>hb.same (hlt x hx)) (fun x hx=>hsp x hx))
  ·rw[hv]
   show DataW.TrodVars enc Try.prog w' sp [] (s.fn H [d0]).vars []
   rw[e3]
   rfl
  ·exact ok_one hr rfl (okWide_bool_mk Try.underlying4 _) j t r hj hr2
 rcases open_ints Try.underlying22 Try.underlying3 cells_int hf with ⟨hcs,hx⟩|⟨a,len',cap',zs,hcs,_,hl,hm,hz,hx,hcell,hwz⟩
 ·simp[Value.cells] at hcs
  obtain⟨rfl,rfl,rfl⟩:=hcs
  exact hclose [] rfl (fun k x h=>by simp at h) (by simp)
 ·simp[Value.cells] at hcs
  obtain⟨rfl,rfl,rfl⟩:=hcs
  simp only[if_true] at hz
  simp only[Prod.mk.injEq] at hx
  obtain⟨_,rfl⟩:=hx
  have hlen:(zs.take len).length=len:=by rw[List.length_take];omega
  refine hclose (zs.take len) hlen (fun k x hk=>?_) (by rw[hlen];simp only[maxLen] at hm;omega)
  have hkl:k<len:=by
   have:=(List.getElem?_eq_some_iff.1 hk).1
   omega
  have hkz:zs.getD k 0=x:=by
   rw[List.getElem?_take,if_pos hkl] at hk
   simp[List.getD_eq_getElem?_getD,hk]
  have hc:=hcell k (by omega)
  rw[hkz] at hc
  obtain⟨b,off,spot⟩:=a
  have hs0:=(hseen _ rfl).2
  simp only at hs0
  subst hs0
  rw[add_plain] at hc
  exact⟨b,off,rfl,hc⟩
end
section
section
variable (D:Good1) (ld:Nat→Nat)
def nowD:Nat→Nat
 | 0=>D.start
 | h+1=>(after D (hlG D h) (nowD h+ld h)).toNat
end
abbrev ldI (ls:List (List Int)) (i:Nat):Nat→Nat:=fun h=>ldN ls h i
section
variable {Ds:List Good1} {ls:List (List Int)} {h i:Nat} {now:Nat→Nat}
end
section
variable {Ds:List Good1} {ls:List (List Int)}
end
structure AlikeTo (m:Nat) (D D':Good1) (ld ld':Nat→Nat):Prop where
 room:D'.room=D.room
 melts:D'.melts=D.melts
 start:D'.start=D.start
 reserve:D'.reserve=D.reserve
 haul:∀ h,h<m→hlG D' h=hlG D h
 load:∀ h,h<m→ld' h=ld h
section
variable {m:Nat} {D D':Good1} {ld ld':Nat→Nat}
end
def firstK (K:Kt) (m:Nat):Kt:={ K with hauls:=K.hauls.take m }
def gdAt (gs:List Gd) (i:Nat):Gd:=gs.getD i ⟨0,0,0,0⟩
theorem gdAt_get {gs:List Gd} {i:Nat} (h:i<gs.length):gs[i]?=some (gdAt gs i):=by
 unfold gdAt
 rw[List.getD_eq_getElem?_getD,List.getElem?_eq_getElem h]
 rfl
def spareK (K:Kt) (g m:Nat):Kt:=⟨K.goods.set g { gdAt K.goods g with reserve:=0 },K.dishes.map fun d=>d.set g 0,K.hauls.take m⟩
section
variable {K:Kt} {xs:List Int} {ls:List (List Int)} {m g:Nat}
end
structure ShortN (K:Kt) (ms:List Int) (ls:List (List Int)) (haul good:Nat) (room res mel st hours covers d nq N X:Nat) (l ds:List Int):Prop where
 hh:haul<K.hauls.length
 hg:good<K.goods.length
 gd:K.goods[good]?=some ⟨room,res,mel,st⟩
 hl:∃ pr,K.hauls[haul]?=some ⟨hours,covers,pr⟩
 menu:ms[haul]?=some (d:Int)
 hd:d<K.dishes.length
 dish:K.dishes[d]?=some ds
 dlen:ds.length=K.goods.length
 need:ds[good]?=some (nq:Int)
 load:ls[haul]?=some l
 llen:l.length=K.goods.length
 ld:l[good]?=some (X:Int)
 zero:haul=0→N=st
 more : 1≤haul→qh (firstK K haul) (ms.take haul) (ls.take haul)=0∧(runK (firstK K haul) (ms.take haul) (ls.take haul)).stop=none∧(runK (firstK K haul) (ms.take haul) (ls.take haul)).left.length=haul ∧
   ∃ row,(runK (firstK K haul) (ms.take haul) (ls.take haul)).left[haul-1]?=some row∧row.length=K.goods.length∧row[good]?=some (N:Int)
 short:((N+X-melted hours mel (N+X):Nat):Int)-((covers*nq:Nat):Int)<(res:Int)
 bds:N+X≤room∧room≤20∧hours≤24∧covers≤9∧nq≤3∧mel≤12∧res≤20∧N≤20∧X≤20
 spare:qh (spareK K good (haul+1)) (ms.take (haul+1)) (ls.take (haul+1))=0
 last:∀ h i er,(runK (spareK K good (haul+1)) (ms.take (haul+1)) (ls.take (haul+1))).stop=some (h,i,er)→er=9∨(er=11∧h=haul∧good<i∧i<K.goods.length)
end
section
theorem wrap_of {x v:Int} (h:v=x) (h1 : -1000000≤v) (h2:v≤1000000):IntKind.i64.wrap x=v:=by
 subst h
 rw[IntKind.wrap_i64]
 omega
section
variable {fs:Array Func} [LikeS fs]
variable (K:Kt) (gA dA hA:Option Addr) (gc dc hc:Nat) (xs:List Int) (mA:Option Addr) (mc:Nat) (ls:List (List Int)) (lA:Option Addr) (lc:Nat) (w:World) (k:KtAt w K gA dA hA) (m:Ints w mA xs) (hlen:xs.length≤1000) (hl:DishesAt w lA ls) (hll:ls.length≤1000) (hG:qh K xs ls=0)
include k m hlen hl hll hG
end
section
variable {fs:Array Func} [Like fs]
end
section
variable {fs:Array Func} [LikeS fs]
end
def behindN:Nat→Code→Code
 | 0,c=>c
 | n+1,.seq _ b=>behindN n b
 | _,c=>c
end
section
section
variable {fs:Array Func} [LikeS fs]
end
end
section
section
variable {fs:Array Func} [LikeS fs]
end
end
section
section
variable {fs:Array Func} [Like fs]
end
def oneK (K:Kt) (g:Nat):Kt:=⟨[gdAt K.goods g],K.dishes.map fun d=>[d.getD g 0],K.hauls.map fun h=>{ h with prices:=[h.prices.getD g 0] }⟩
theorem getD_of {l:List Int} {g:Nat} (h:g<l.length):l[g]?=some (l.getD g 0):=by
 rw[List.getD_eq_getElem?_getD,List.getElem?_eq_getElem h]
 rfl
theorem oneK_valid {K:Kt} (hC:zG K=0) {g:Nat} (hg:g<K.goods.length):zG (oneK K g)=0:=by
 obtain⟨c1,c2,c3⟩:=zW hC
 obtain⟨g1,g2,g3⟩:=goodsE_zero c1
 obtain⟨h1,h2,h3⟩:=haulsE_zero c3
 have e1:goodsE (oneK K g).goods=0:=by
  unfold goodsE
  rw[manyE_ok (by simp[oneK]) (by simp[oneK]),if_neg (by simp),if_neg]
  have:=g3 _ (List.mem_of_getElem? (gdAt_get hg))
  simp[oneK,this]
 have e2:qt (oneK K g).goods.length (oneK K g).dishes=0:=by
  unfold qt at c2 ⊢
  rw[show (oneK K g).dishes.length=K.dishes.length by simp[oneK]]
  split at c2
  ·rename_i q;exact absurd c2 q
  ·rename_i q
   rw[if_neg q]
   refine firstE_ok fun d hd=>?_
   simp only[oneK,List.mem_map] at hd
   obtain⟨d0,hd0,rfl⟩:=hd
   obtain⟨a1,a2⟩:=eachE_zero (firstE_zero c2 d0 hd0)
   refine eachE_ok (by simp[oneK]) fun x hx=>?_
   simp only[List.mem_singleton] at hx
   subst hx
   exact a2 _ (List.mem_of_getElem? (getD_of (by omega)))
 have e3:haulsE (oneK K g).goods.length (oneK K g).hauls=0:=by
  refine haulsE_ok (by simpa[oneK] using h1) (by simpa[oneK] using h2) fun x hx=>?_
  simp only[oneK,List.mem_map] at hx
  obtain⟨x0,hx0,rfl⟩:=hx
  obtain⟨a,b,c,d,e,f⟩:=h3 x0 hx0
  refine⟨a,b,c,d,by simp[oneK],fun p hp=>?_⟩
  simp only[List.mem_singleton] at hp
  subst hp
  exact f _ (List.mem_of_getElem? (getD_of (by omega)))
 unfold zG
 rw[e1,e2,if_neg (by simp),if_neg (by simp),e3]
def oneG (K:Kt) (xs:List Int) (g:Nat):Good1:=goodOf K xs g (gdAt K.goods g)
theorem dsOf_at {K:Kt} {xs:List Int} {g:Nat} (hg:g<K.goods.length):(dsOf K xs)[g]?=some (oneG K xs g):=by
 rw[dsOf_get,gdAt_get hg]
 rfl
def sumTo (K:Kt) (xs:List Int):Nat→Nat
 | 0=>0
 | g+1=>sumTo K xs g+(if (zh (oneG K xs g)).2.2 then 0 else (zh (oneG K xs g)).2.1)
def fineTo (K:Kt) (xs:List Int):Nat→Bool
 | 0=>true
 | g+1=>fineTo K xs g&&!(zh (oneG K xs g)).2.2
theorem fineTo_iff {K:Kt} {xs:List Int} : ∀ {n:Nat},fineTo K xs n=true↔∀ g,g<n→(zh (oneG K xs g)).2.2=false
 | 0=>⟨fun _ g h=>by omega,fun _=>rfl⟩
 | n+1=>by
  unfold fineTo
  rw[Bool.and_eq_true,fineTo_iff]
  constructor
  ·rintro⟨a,b⟩ g hg
   rcases Nat.lt_or_ge g n with q|q
   ·exact a g q
   ·obtain rfl:g=n:=by omega
    simpa using b
  ·intro h
   exact⟨fun g hg=>h g (by omega),by simpa using h n (by omega)⟩
theorem fineTo_all {K:Kt} {xs:List Int} : fineTo K xs K.goods.length=!noneB K xs:=by
 have key:fineTo K xs K.goods.length=true↔noneB K xs=false:=by
  rw[fineTo_iff]
  unfold noneB
  rw[List.any_eq_false]
  constructor
  ·intro h D hD
   obtain⟨i,hi⟩:=List.getElem?_of_mem hD
   have hlt:i<K.goods.length:=by have:=(List.getElem?_eq_some_iff.1 hi).1;rwa [dsOf_len] at this
   rw[dsOf_at hlt] at hi
   cases hi
   simp[h i hlt]
  ·intro h g hg
   simpa using h _ (List.mem_of_getElem? (dsOf_at hg))
 cases h1:fineTo K xs K.goods.length<;>cases h2:noneB K xs<;>simp_all
theorem sumTo_cost {K:Kt} {xs:List Int} (hf:noneB K xs=false):∀ {n:Nat},n≤K.goods.length→sumTo K xs n=costTo (dsOf K xs) n
 | 0,_=>(costTo_zero _).symm
 | n+1,hn=>by
  have hfn:(zh (oneG K xs n)).2.2=false:=by
   have:=fineTo_all (K:=K) (xs:=xs)
   rw[hf] at this
   exact fineTo_iff.1 this n (by omega)
  unfold sumTo
  rw[costTo_step (dsOf_at (by omega)),sumTo_cost hf (by omega),if_neg (by simp[hfn])]
theorem sumTo_full {K:Kt} {xs:List Int} (hf:noneB K xs=false):sumTo K xs K.goods.length=zT K xs:=by
 rw[sumTo_cost hf (Nat.le_refl _)]
 unfold zT
 rw[dsOf_len]
theorem oneG_cost {K:Kt} {xs:List Int} (hC:zG K=0) {g:Nat} (hg:g<K.goods.length):(zh (oneG K xs g)).2.1≤5*65025:=by
 obtain⟨c1,c2,c3⟩:=zW hC
 obtain⟨g1,g2,g3⟩:=goodsE_zero c1
 obtain⟨h1,h2,h3⟩:=haulsE_zero c3
 obtain⟨b1,b2,_⟩:=badGood_false (g3 _ (List.mem_of_getElem? (gdAt_get hg)))
 have hl:(oneG K xs g).hauls.length≤5:=by
  have:(oneG K xs g).hauls.length=min K.hauls.length xs.length:=by simp[oneG,goodOf]
  omega
 have h:=planFrom_cost (D:=oneG K xs g) (by show (gdAt K.goods g).room.toNat≤255;omega) (oneG K xs g).hauls (oneG K xs g).start fun h hh=>by
  simp only[oneG,goodOf,List.mem_map] at hh
  obtain⟨⟨x,d⟩,hx,rfl⟩:=hh
  obtain⟨_,_,_,_,e,f⟩:=h3 x (List.of_mem_zip hx).1
  have:=f _ (List.mem_of_getElem? (getD_of (l:=x.prices) (g:=g) (by omega)))
  show (x.prices.getD g 0).toNat≤255
  omega
 unfold zh
 exact Nat.le_trans h (Nat.mul_le_mul_right _ hl)
theorem sumTo_le {K:Kt} {xs:List Int} (hC:zG K=0):∀ {n:Nat},n≤K.goods.length→sumTo K xs n≤n*(5*65025)
 | 0,_=>Nat.zero_le _
 | n+1,hn=>by
  have h1:=sumTo_le (xs:=xs) hC (n:=n) (by omega)
  have h2:=oneG_cost (xs:=xs) hC (g:=n) (by omega)
  have h3:sumTo K xs (n+1)≤sumTo K xs n+(zh (oneG K xs n)).2.1:=by
   show sumTo K xs n+_≤_
   split<;>omega
  rw[Nat.add_mul,Nat.one_mul]
  exact Nat.le_trans h3 (Nat.add_le_add h1 h2)
section
variable {fs:Array Func} [LikeS fs]
theorem cheapest_bad (K:Kt) (gA dA hA:Option Addr) (gc dc hc:Nat) (xs:List Int) (mA:Option Addr) (mc:Nat) (w:World) (k:KtAt w K gA dA hA) (m:Ints w mA xs) (hlen:xs.length≤1000) (ha:qe K xs=0) (hn:noneB K xs=true) :
  Calls (Pf fs) 29 #[ktV K gA dA hA gc dc hc,.slice mA xs.length mc] w fun e w'=>e=.returned (.tuple #[.slice none 0 0,.int .i64 0,.int .i64 11])∧Grown w w':=
 (cheapest_any K gA dA hA gc dc hc xs mA mc w k m hlen).mono fun e w' ⟨v,e1,g,h⟩=>by
  cases h with
  | asked h1=>exact absurd ha h1
  | bad _ h1=>exact⟨e1,g⟩
  | good _ h1 M hM=>rw[hn] at h1;cases h1
theorem cheapest_good (K:Kt) (gA dA hA:Option Addr) (gc dc hc:Nat) (xs:List Int) (mA:Option Addr) (mc:Nat) (w:World) (k:KtAt w K gA dA hA) (m:Ints w mA xs) (hlen:xs.length≤1000) (ha:qe K xs=0) (hn:noneB K xs=false) :
  Calls (Pf fs) 29 #[ktV K gA dA hA gc dc hc,.slice mA xs.length mc] w fun e w'=>∃ M,e=.returned (.tuple #[.slice (some ⟨M,0,none⟩) K.hauls.length K.hauls.length,.int .i64 (zT K xs),.int .i64 0])∧Grown w w'∧DishesAt w' (some ⟨M,0,none⟩) (rowsOf K xs):=
 (cheapest_any K gA dA hA gc dc hc xs mA mc w k m hlen).mono fun e w' ⟨v,e1,g,h⟩=>by
  cases h with
  | asked h1=>exact absurd ha h1
  | bad _ h1=>rw[hn] at h1;cases h1
  | good _ h1 M hM=>exact⟨M,e1,g,hM⟩
end
end
section
structure OneF (W0:World) (base:Nat) (K:Kt) (db hb:Nat) (nb nc pb pc:Nat→Nat):Prop where
 ne:db≠hb
 bd:base≤db∧base≤hb
 dish:∀ j d,K.dishes[j]?=some d→Ints W0 (some ⟨nb j,0,none⟩) d∧nb j≠db∧nb j≠hb∧K.goods.length≤nc j
 haul:∀ j h,K.hauls[j]?=some h→Ints W0 (some ⟨pb j,0,none⟩) h.prices∧pb j≠db∧pb j≠hb∧K.goods.length≤pc j
structure OneJ (W0 W:World) (K:Kt) (g db hb n m:Nat) (nb nc pb pc:Nat→Nat):Prop where
 size:W.heap.size=W0.heap.size
 os:W.os=W0.os
 same:∀ b,b≠db→b≠hb→W.heap[b]?=W0.heap[b]?
 drow:∃ cur,W.heap[db]?=some (.cells cur 48 (0,0))∧∀ j,j<K.dishes.length→cur[j]?=some (if j<n then .slice (some ⟨nb j,g,none⟩) 1 (nc j-g) else .slice (some ⟨nb j,0,none⟩) K.goods.length (nc j))
 hrow:∃ cur,W.heap[hb]?=some (.cells cur 46 (0,0))∧∀ j h,K.hauls[j]?=some h→cur[j*3]?=some (.int .i64 h.hours)∧cur[j*3+1]?=some (.int .i64 h.covers)∧cur[j*3+2]?=some (if j<m then .slice (some ⟨pb j,g,none⟩) 1 (pc j-g) else .slice (some ⟨pb j,0,none⟩) K.goods.length (pc j))
section
variable {W0 W:World} {base:Nat} {K:Kt} {g db hb n m:Nat} {nb nc pb pc:Nat→Nat}
end
end
section
def Fits (D:Good1):List Haul1→Nat→List Nat→Prop
 | [],_,[]=>True
 | h::hs,t,n::l=>n<tries D h t∧(D.reserve:Int)≤after D h (t+n)∧Fits D hs (after D h (t+n)).toNat l
 | [],_,_::_=>False
 | _::_,_,[]=>False
theorem planFrom_fits (D:Good1):∀ (hs:List Haul1) (t:Nat),(zE D hs t).2.2=false→Fits D hs t (zE D hs t).1
 | [],_,_=>trivial
 | h::hs,t,hf=>by
  have key:∀ k,k≤tries D h t→(zy D h hs t k).2.2=false→Fits D (h::hs) t (zy D h hs t k).1:=by
   intro k
   induction k with
   | zero=>intro _ hb;simp[bestTo_zero] at hb
   | succ k ih =>
    intro hk hb
    rw[bestTo_succ] at hb ⊢
    unfold tryN at hb ⊢
    split at hb
    ·rename_i h1
     rw[if_pos h1]
     exact ih (by omega) hb
    ·rename_i h1
     rw[if_neg h1]
     dsimp only at hb ⊢
     split at hb
     ·rename_i h2
      rw[if_pos h2]
      simp only[Bool.and_eq_true,Bool.not_eq_true'] at h2
      exact⟨by omega,by omega,planFrom_fits D hs _ h2.1⟩
     ·rename_i h2
      rw[if_neg h2]
      exact ih (by omega) hb
  rw[← bestTo_all] at hf ⊢
  exact key _ (Nat.le_refl _) hf
theorem asked_len {K:Kt} {xs:List Int} (hA:qe K xs=0):xs.length=K.hauls.length:=by
 obtain⟨_,hR⟩:=askedE_zero hA
 unfold qi at hR
 split at hR
 ·rename_i q;exact absurd hR q
 ·rename_i q
  have:=manyE_zero (Decidable.not_not.1 q)
  omega
end
section
def costL:List Haul1→List Nat→Nat
 | h::hs,n::l=>costL hs l+n*h.price
 | [],_=>0
 | _::_,[]=>0
theorem planFrom_costL (D:Good1):∀ (hs:List Haul1) (t:Nat),(zE D hs t).2.2=false→(zE D hs t).2.1=costL hs (zE D hs t).1
 | [],_,_=>rfl
 | h::hs,t,hf=>by
  have key:∀ k,(zy D h hs t k).2.2=false→(zy D h hs t k).2.1=costL (h::hs) (zy D h hs t k).1:=by
   intro k
   induction k with
   | zero=>intro hb;simp[bestTo_zero] at hb
   | succ k ih =>
    intro hb
    rw[bestTo_succ] at hb ⊢
    unfold tryN at hb ⊢
    split at hb
    ·rename_i h1
     rw[if_pos h1]
     exact ih hb
    ·rename_i h1
     rw[if_neg h1]
     dsimp only at hb ⊢
     split at hb
     ·rename_i h2
      rw[if_pos h2]
      simp only[Bool.and_eq_true,Bool.not_eq_true'] at h2
      show _+_=costL hs _+_
      rw[planFrom_costL D hs _ h2.1]
     ·rename_i h2
      rw[if_neg h2]
      exact ih hb
  rw[← bestTo_all] at hf ⊢
  exact key _ hf
theorem tryN_keeps {D:Good1} {h:Haul1} {R:Nat→Plan} {t:Nat} {b:Plan} {n c:Nat} (h1:b.2.2=false) (h2:b.2.1≤c):(tryN D h R t b n).2.2=false∧(tryN D h R t b n).2.1≤c:=by
 unfold tryN
 split
 ·exact⟨h1,h2⟩
 ·dsimp only
  split
  ·rename_i h3
   simp only[h1,Bool.and_eq_true,Bool.or_eq_true,decide_eq_true_eq,Bool.false_eq_true,false_or] at h3
   exact⟨rfl,by show _+_≤c;omega⟩
  ·exact⟨h1,h2⟩
theorem planFrom_min (D:Good1):∀ {hs:List Haul1} {t:Nat} {l:List Nat},Fits D hs t l→(zE D hs t).2.2=false∧(zE D hs t).2.1≤costL hs l
 | [],_,[],_=>⟨rfl,Nat.le_refl _⟩
 | h::hs,t,n::l,⟨h1,h2,h3⟩=>by
  obtain⟨i1,i2⟩:=planFrom_min D h3
  have hb:(zy D h hs t (n+1)).2.2=false∧(zy D h hs t (n+1)).2.1≤costL (h::hs) (n::l):=by
   rw[bestTo_succ]
   unfold tryN
   rw[if_neg (by omega)]
   dsimp only
   split
   ·exact⟨rfl,by show _+_≤costL hs l+_;omega⟩
   ·rename_i h4
    rw[i1] at h4
    simp only[Bool.not_false,Bool.true_and,Bool.or_eq_true,decide_eq_true_eq,not_or,Nat.not_lt] at h4
    exact⟨by simpa using h4.1,by show _≤costL hs l+_;omega⟩
  have key:∀ k,n+1≤k→(zy D h hs t k).2.2=false∧(zy D h hs t k).2.1≤costL (h::hs) (n::l):=by
   intro k
   induction k with
   | zero=>intro h;omega
   | succ k ih =>
    intro hk
    rcases Nat.lt_or_ge n k with q|q
    ·obtain⟨j1,j2⟩:=ih q
     rw[bestTo_succ]
     exact tryN_keeps j1 j2
    ·rw[show k=n by omega]
     exact hb
  rw[← bestTo_all]
  exact key _ h1
 | [],_,_::_,h=>h.elim
 | _::_,_,[],h=>h.elim
end
section
section
variable {fs:Array Func} [LikeS fs]
end
end
section
section
variable {K:Kt} {xs:List Int} {h g:Nat} {p:Int}
end
end
section
structure EasyH (D D':Good1) (h h':Haul1):Prop where
 price:h'.price=h.price
 after:∀ x y:Nat,x≤y→after D h x≤after D' h' y
theorem fits_easier {D D':Good1} (e1:D.room≤D'.room) (e2:D'.reserve≤D.reserve):∀ {hs hs':List Haul1} {t t':Nat} {l:List Nat},hs'.length=hs.length→(∀ (j:Nat) h h',hs[j]?=some h→hs'[j]?=some h'→EasyH D D' h h')→t≤t'→t'≤D'.room→Fits D hs t l→∃ l',Fits D' hs' t' l'∧costL hs' l'≤costL hs l
 | [],[],_,_,[],_,_,_,_,_=>⟨[],trivial,Nat.le_refl _⟩
 | h::hs,h'::hs',t,t',n::l,hl,he,ht,hr,⟨h1,h2,h3⟩=>by
  have e:=he 0 h h' rfl rfl
  have hx:=tries_room h1
  have hp:=e.price
  have key:∃ n',n'<tries D' h' t'∧t+n≤t'+n'∧t'+n'≤D'.room∧n'≤n:=by
   rcases Nat.lt_or_ge t' (t+n) with q|q
   ·refine⟨t+n-t',?_,by omega,by omega,by omega⟩
    unfold tries at h1 ⊢
    split at h1<;>split<;>omega
   ·refine⟨0,?_,by omega,by omega,by omega⟩
    unfold tries
    split<;>omega
  obtain⟨n',k1,k2,k3,k4⟩:=key
  have ha:=e.after _ _ k2
  have hb:=after_le D' h' (t'+n')
  obtain⟨l',f1,f2⟩:=fits_easier e1 e2 (hs:=hs) (hs':=hs') (t:=(after D h (t+n)).toNat) (t':=(after D' h' (t'+n')).toNat) (l:=l) (by simpa using hl) (fun j a a' x y=>he (j+1) a a' (by simpa using x) (by simpa using y)) (by omega) (by omega) h3
  refine⟨n'::l',⟨k1,by omega,f1⟩,?_⟩
  show costL hs' l'+n'*h'.price≤costL hs l+n*h.price
  rw[hp]
  have:=Nat.mul_le_mul_right h.price k4
  omega
 | [],_::_,_,_,_,hl,_,_,_,_=>by simp at hl
 | _::_,[],_,_,_,hl,_,_,_,_=>by simp at hl
 | [],[],_,_,_::_,_,_,_,_,h=>h.elim
 | _::_,_::_,_,_,[],_,_,_,_,h=>h.elim
theorem plan_easier {D D':Good1} (e1:D.room≤D'.room) (e2:D'.reserve≤D.reserve) (e3:D.start≤D'.start) (e4:D'.start≤D'.room) (hl:D'.hauls.length=D.hauls.length) (he:∀ (j:Nat) h h',D.hauls[j]?=some h→D'.hauls[j]?=some h'→EasyH D D' h h') (hf:(zh D).2.2=false):(zh D').2.2=false∧(zh D').2.1≤(zh D).2.1:=by
 obtain⟨l',f1,f2⟩:=fits_easier e1 e2 hl he e3 e4 (planFrom_fits D _ _ hf)
 obtain⟨g1,g2⟩:=planFrom_min D' f1
 refine⟨g1,?_⟩
 have:=planFrom_costL D _ _ hf
 show (zE D' D'.hauls D'.start).2.1≤(zE D D.hauls D.start).2.1
 rw[this]
 exact Nat.le_trans g2 f2
structure EasyGd (x y:Gd):Prop where
 room:x.room≤y.room
 reserve:y.reserve≤x.reserve
 melts:y.melts=x.melts∨y.melts=0∨(0<x.melts∧x.melts≤y.melts)
 start:y.start=x.start
structure EasyK (K K':Kt):Prop where
 goods:K'.goods.length=K.goods.length∧∀ i,i<K.goods.length→EasyGd (gdAt K.goods i) (gdAt K'.goods i)
 dishes:K'.dishes=K.dishes
 hauls:K'.hauls.length=K.hauls.length∧∀ i,i<K.hauls.length→(hlAt K'.hauls i).hours=(hlAt K.hauls i).hours∧(hlAt K'.hauls i).prices=(hlAt K.hauls i).prices∧(hlAt K'.hauls i).covers≤(hlAt K.hauls i).covers
theorem melted_easier {hours m m' x y:Nat} (hm:m'=m∨m'=0∨(0<m∧m≤m')) (hxy:x≤y):x-melted hours m x≤y-melted hours m' y:=by
 unfold melted
 rcases hm with rfl|rfl|⟨h0,h1⟩
 ·split<;>omega
 ·rw[if_neg (Nat.lt_irrefl 0)]
  omega
 ·rw[if_pos h0,if_pos (by omega)]
  have:=Nat.div_le_div_left (a:=hours) h1 h0
  omega
theorem easy_plan {K K':Kt} {xs:List Int} (E:EasyK K K') (hC:zG K=0) (_hxl:xs.length=K.hauls.length) {g:Nat} (hg:g<K.goods.length) (hf:(zh (oneG K xs g)).2.2=false):(zh (oneG K' xs g)).2.2=false∧(zh (oneG K' xs g)).2.1≤(zh (oneG K xs g)).2.1:=by
 have e:=E.goods.2 g hg
 obtain⟨r1,r2,r3,r4,r5,r6,r7,r8⟩:=badGood_false ((goodsE_zero (zW hC).1).2.2 _ (List.mem_of_getElem? (gdAt_get hg)))
 have i1:=e.room
 have i2:=e.reserve
 have i3:=e.start
 refine plan_easier (D:=oneG K xs g) (D':=oneG K' xs g) (by show (gdAt K.goods g).room.toNat≤(gdAt K'.goods g).room.toNat;omega) (by show (gdAt K'.goods g).reserve.toNat≤(gdAt K.goods g).reserve.toNat;omega) (by show (gdAt K.goods g).start.toNat≤(gdAt K'.goods g).start.toNat;omega) (by show (gdAt K'.goods g).start.toNat≤(gdAt K'.goods g).room.toNat;omega) ?_ ?_ hf
 ·show ((K'.hauls.zip xs).map _).length=((K.hauls.zip xs).map _).length
  simp[E.hauls.1]
 ·intro j h h' hj hj'
  unfold oneG goodOf at hj hj'
  simp only[List.getElem?_map,Option.map_eq_some_iff] at hj hj'
  obtain⟨⟨a,x2⟩,hz,rfl⟩:=hj
  obtain⟨⟨a',x'⟩,hz',rfl⟩:=hj'
  obtain⟨z1,z2⟩:=List.getElem?_zip_eq_some.1 hz
  obtain⟨z3,z4⟩:=List.getElem?_zip_eq_some.1 hz'
  rw[z2] at z4
  cases z4
  have hjl:j<K.hauls.length:=(List.getElem?_eq_some_iff.1 z1).1
  rw[hlAt_get hjl] at z1
  rw[hlAt_get (by rw[E.hauls.1];exact hjl)] at z3
  cases z1
  cases z3
  obtain⟨q1,q2,q3⟩:=E.hauls.2 j hjl
  refine⟨?_,?_⟩
  ·show (((hlAt K'.hauls j).prices.getD g 0).toNat:Nat)=((hlAt K.hauls j).prices.getD g 0).toNat
   rw[q2]
  ·intro x y hxy
   rw[after_eq,after_eq]
   have hm:=melted_easier (hours:=(hlAt K.hauls j).hours.toNat) (m:=(gdAt K.goods g).melts.toNat) (m':=(gdAt K'.goods g).melts.toNat) (by rcases e.melts with q|q|q<;>omega) hxy
   have hu:(hlAt K'.hauls j).covers.toNat*(((K'.dishes.getD x2.toNat []).getD g 0).toNat)≤(hlAt K.hauls j).covers.toNat*(((K.dishes.getD x2.toNat []).getD g 0).toNat):=by
    rw[E.dishes]
    exact Nat.mul_le_mul_right _ (by omega)
   show (((x-melted (hlAt K.hauls j).hours.toNat (gdAt K.goods g).melts.toNat x:Nat):Int)-(((hlAt K.hauls j).covers.toNat*((K.dishes.getD x2.toNat []).getD g 0).toNat:Nat):Int))≤(((y-melted (hlAt K'.hauls j).hours.toNat (gdAt K'.goods g).melts.toNat y:Nat):Int)-(((hlAt K'.hauls j).covers.toNat*((K'.dishes.getD x2.toNat []).getD g 0).toNat:Nat):Int))
   rw[q1]
   omega
theorem easy_law {K K':Kt} {xs:List Int} (E:EasyK K K') (hA:qe K xs=0) (hn:noneB K xs=false):noneB K' xs=false∧zT K' xs≤zT K xs:=by
 have hC:=(askedE_zero hA).1
 have hxl:=asked_len hA
 have hp:∀ g,g<K.goods.length→(zh (oneG K xs g)).2.2=false:=fineTo_iff.1 (show fineTo K xs K.goods.length=true by rw[fineTo_all,hn];rfl)
 have key:=fun g hg=>easy_plan (xs:=xs) E hC hxl hg (hp g hg)
 have hn':noneB K' xs=false:=by
  have h2:fineTo K' xs K'.goods.length=true:=fineTo_iff.2 fun g hg=>(key g (by rw[← E.goods.1];exact hg)).1
  rw[fineTo_all] at h2
  simpa using h2
 refine⟨hn',?_⟩
 have h1:∀ n,n≤K.goods.length→costTo (dsOf K' xs) n≤costTo (dsOf K xs) n:=by
  intro n
  induction n with
  | zero=>intro _;rw[costTo_zero,costTo_zero];exact Nat.le_refl _
  | succ n ih =>
   intro hn
   rw[costTo_step (dsOf_at (by rw[E.goods.1];omega)),costTo_step (dsOf_at (by omega))]
   have:=ih (by omega)
   have:=(key n (by omega)).2
   omega
 unfold zT
 rw[dsOf_len,dsOf_len,E.goods.1]
 exact h1 _ (Nat.le_refl _)
def roomK (K:Kt) (g:Nat):Kt:={ K with goods:=K.goods.set g { gdAt K.goods g with room:=(gdAt K.goods g).room+1 } }
theorem roomK_easy (K:Kt) {g:Nat} (hg:g<K.goods.length):EasyK K (roomK K g):=by
 refine⟨⟨by simp[roomK],fun i hi=>?_⟩,rfl,rfl,fun i _=>⟨rfl,rfl,Int.le_refl _⟩⟩
 by_cases hig:i=g
 ·subst hig
  have:gdAt (roomK K i).goods i={ gdAt K.goods i with room:=(gdAt K.goods i).room+1 }:=by
   unfold gdAt roomK
   simp only
   rw[List.getD_eq_getElem?_getD,List.getElem?_set_self hi]
   rfl
  rw[this]
  exact⟨by simp only;omega,by simp only;omega,.inl rfl,rfl⟩
 ·have:gdAt (roomK K g).goods i=gdAt K.goods i:=by
   unfold gdAt roomK
   simp only
   rw[List.getD_eq_getElem?_getD,List.getD_eq_getElem?_getD,List.getElem?_set_ne (Ne.symm hig)]
  rw[this]
  exact⟨Int.le_refl _,Int.le_refl _,.inl rfl,rfl⟩
end
end Go.Gal
