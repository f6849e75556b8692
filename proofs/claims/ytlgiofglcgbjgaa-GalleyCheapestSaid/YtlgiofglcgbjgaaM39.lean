/- Walks: GalleyCovers (printed by gen_law4.py). A law of the Galley over one list of numbers that answers true and leaves old memory alone, as its row asks it: from its contract on S to .. -/
import Derived.Test.YtlgiofglcgbjgaaM38
import Derived.Test.YtlgiofglcgbjgaaRows
import Derived.Conc.LeavingOf
import Derived.OpenShut
import Derived.ChangeSame
import Derived.Carry
namespace Go.Gal
open Go Go.Par Go.Proofs Go.RowKit
section
theorem dealt_valid {K:Kt} {goods room hauls:Nat} (h1 : 1≤K.goods.length∧K.goods.length≤goods∧∀ x∈K.goods,GdOk room x) (h2 : 1≤K.dishes.length∧K.dishes.length≤3∧∀ x∈K.dishes,DsOk K.goods.length x) (h3 : 1≤K.hauls.length∧K.hauls.length≤hauls∧∀ x∈K.hauls,HlOk K.goods.length x)
  (hg:goods≤3) (hr:room≤20) (hh:hauls≤5):zR K=0:=by
 have e1:goodsE K.goods=0:=by
  unfold goodsE
  rw[manyE_ok (by omega) (by omega),if_neg (by simp),if_neg]
  rw[List.any_eq_true]
  rintro⟨x,hx,hb⟩
  obtain⟨⟨a1,a2⟩,⟨b1,b2⟩,⟨c1,c2⟩,⟨d1,d2⟩⟩:=h1.2.2 x hx
  simp[qj,outB] at hb
  omega
 have e2:qR K.goods.length K.dishes=0:=by
  unfold qR
  rw[manyE_ok (by omega) (by omega),if_neg (by simp)]
  exact firstE_ok fun d hd=>eachE_ok (by have:=(h2.2.2 d hd).1;omega) (h2.2.2 d hd).2
 have e3:jC K.goods.length K.hauls=0:=haulsE_ok h3.1 (by omega) fun x hx=>by
  obtain⟨⟨a1,a2⟩,⟨b1,b2⟩,c,d⟩:=h3.2.2 x hx
  exact⟨a1,by omega,b1,b2,c,fun p hp=>⟨(d p hp).1,by have:=(d p hp).2;omega⟩⟩
 unfold zR
 rw[e1,e2,if_neg (by simp),if_neg (by simp),e3]
theorem asked_of {K:Kt} {xs:List Int} (h1:zR K=0) (h2:qu K.dishes.length K.hauls.length xs=0):qn K xs=0:=by
 unfold qn
 rw[h1,if_neg (by simp)]
 exact h2
section
variable {fs:Array Func} [LikeS fs]
end
end
section
open Go.ChangeShapes Go.WideShapes Go.ChangeAt
theorem own_knob:ownKnob Try.prog.godebug=none:=by kernel_rfl
theorem laid_out:laidOutB Try.prog=true:=by kernel_rfl
theorem cells_int:Try.prog.cellsOf 3=1:=by kernel_rfl
theorem readable_nums:Try.prog.readableRec 22=true:=by kernel_rfl
theorem nums_row : 22<Try.prog.types.size:=of_decide_eq_true (by kernel_rfl)
theorem no_globals:S.globals.size=0:=by kernel_rfl
section
variable {H:Type} {enc:TypeId×Value→H} {P:Program}
theorem post_of_below {f:Func} {s:ChangeSpec} {apart fresh handsOn again:Bool} {W W':World} {args:Array Value} {v:Value} {ds gs:List (DataW H)} {before pa pv:List MemPlace}
  (hW:DataW.Whole enc P f.params.toList s.vars apart W args.toList ds gs before)
  (hres:∀ (b:Nat) (sp:Nat→Bool) (hd:Bool),DataW.TrodAll enc P W' b sp hd f.resultTypes.toList (v.resultList f.resultTypes.size) (s.fn H (ds++gs)).results [])
  (hargs:∀ sp:Nat→Bool,(∀ p∈before,sp p.block=true)→DataW.TrodAll enc P W' 0 sp true f.params.toList args.toList (s.fn H (ds++gs)).args pa)
  (hvars:∀ sp:Nat→Bool,(∀ p∈before,sp p.block=true)→DataW.TrodVars enc P W' sp s.vars (s.fn H (ds++gs)).vars pv)
  (hps:before=pa++pv) (hb:Below W.heap.size W W')
  (hok:∀ (j:Nat) (t:TypeId) (r:Value),f.resultTypes[j]?=some t→(v.resultList f.resultTypes.size)[j]?=some r→Value.okWide P W' .any 0 t r) :
  s.post enc P f apart fresh handsOn again W args v W':=by
 have hlt:∀ p∈before,p.block<W.heap.size:=fun p hp=>hW.lt p hp
 have hold:∀ p∈before,(fun b=>decide (b<W.heap.size)) p.block=true:=fun p hp=>by simpa using hlt p hp
 refine⟨ds,gs,before,[],pa,pv,hW,hres _ _ _,hargs _ hold,hvars _ hold,World.keptBut_mono (fun p hp=>⟨hp,?_⟩) (hb.frame (·∈before)),fun _=>?_⟩
 ·rw[hps,List.mem_append] at hp
  exact Or.inr hp
 ·obtain⟨_,_,_,_,_,hz,hn⟩:=hW
  refine⟨hok,_,_,([]++pa)++pv,⟨[]++pa,pv,trodAll_append (hargs _ (fun _ _=>rfl)) (hres _ _ _),hvars _ (fun _ _=>rfl),rfl,?_,?_⟩,?_⟩
  ·intro b off hp
   have hin:MemPlace.cell b off∈before:=by rw[hps];simpa using hp
   rw[hb.frozen (hlt _ hin)]
   exact hz b off hin
  ·intro ha
   have:=hn ha
   rw[hps] at this
   simpa using this
  ·intro p hp _
   rw[hps]
   simpa using hp
end
def Walked (F:FuncId):Prop:=∀ (A:Option Addr) (cp:Nat) (xs:List Int) (w:World),Ints w A xs→xs.length≤9223372036854775807 →
 Calls S F #[.slice A xs.length cp] w fun e _=>e=.returned (.bool true)
theorem walked_of {F:FuncId} (h:∀ (ns:List Int) (A:Option Addr) (c:Nat) (w:World),Ints w A ns→ns.length≤9223372036854775807→Calls (Pf S.funcs) F #[.slice A ns.length c] w fun e _=>e=.returned (.bool true)):Walked F:=fun A c xs w hx hl=>by
 have:=h xs A c w hx hl
 rwa [pf_S] at this
set_option maxRecDepth 100000 in
theorem okWide_seen {W:World} {base:Nat} {A:Option Addr} {len cap:Nat} (h:Value.okWide Try.prog W .any base 22 (.slice A len cap)):∀ p,A=some p→Seen W p.block∧p.spot=none:=by
 rintro p rfl
 simp only[Value.okWide,Try.underlying22,Cell.okWide,Cell.ok] at h
 obtain⟨_,_,_,hsp,row,cells,hs,_⟩:=h
 refine⟨?_,hsp⟩
 unfold World.shape? at hs
 split at hs
 ·rename_i c t m hc
  exact⟨_,_,_,hc⟩
 ·cases hs
set_option maxRecDepth 100000 in
theorem nums_runs {F:FuncId} {fn:Func} {s:ChangeSpec} {apart fresh handsOn again:Bool} (hF:¬ FSt F) (hini:Try.prog.inits.idxOf? F=none) (hp:fn.params=#[22]) (hr:fn.resultTypes=#[4]) (hv:s.vars=[])
  (hs:∀ (H:Type) (d:DataW H),(s.fn H [d]).results=[.lit (.bool true)]∧(s.fn H [d]).args=[d]∧(s.fn H [d]).vars=[]) (hw:Walked F)
  (H:Type) (enc:TypeId×Value→H) (W:World) (base:Nat) (args:Array Value) (ds gs:List (DataW H)) (before:List MemPlace)
  (hval:∀ (j:Nat) t v,fn.params[j]?=some t→args[j]?=some v→Value.okWide Try.prog W .any base t v)
  (hW:DataW.Whole enc Try.prog fn.params.toList s.vars apart W args.toList ds gs before) :
  ∃ M last o w' t',runNT Try.prog (M+1) (Go.Conc.solo (Go.Conc.G (Frame.enter Try.prog F args .normal) []) W) #[]=(.ended o w',t')∧runN Try.prog M (Go.Conc.solo (Go.Conc.G (Frame.enter Try.prog F args .normal) []) W)=.next last ∧
   step Try.prog last=.ended o w'∧Go.Conc.Good Try.prog (fun v W'=>s.post enc Try.prog fn apart fresh handsOn again W args v W') last o w' t':=by
 have hW':=hW
 obtain⟨p,q,hA0,hV,rfl,hfz,hnd⟩:=hW
 have hA:DataW.TrodAll enc Try.prog W 0 (fun _=>true) true fn.params.toList args.toList ds p:=hA0
 rw[hp] at hA hval
 rw[hv] at hV
 obtain⟨v0,d0,rfl,rfl,h0⟩:=trodAll_one hA
 obtain⟨rfl,rfl⟩:=trodVars_none hV
 obtain⟨a0,len,cap,rfl⟩:=okWide_slice Try.underlying22 (hval 0 22 v0 rfl rfl)
 have hseen:=okWide_seen (hval 0 22 _ rfl rfl)
 have h0k:=h0
 obtain⟨fuel,hf⟩:=h0
 clear hA0
 simp only[List.append_nil] at hW'
 have hlt:∀ x∈p,x.block<W.heap.size:=fun x hx=>by simpa using hW'.lt x hx
 have hclose:∀ xs:List Int,xs.length=len→Ints W a0 xs→xs.length≤9223372036854775807 →
   ∃ M last o w' t',runNT Try.prog (M+1) (Go.Conc.solo (Go.Conc.G (Frame.enter Try.prog F #[.slice a0 len cap] .normal) []) W) #[]=(.ended o w',t')∧runN Try.prog M (Go.Conc.solo (Go.Conc.G (Frame.enter Try.prog F #[.slice a0 len cap] .normal) []) W)=.next last ∧
   step Try.prog last=.ended o w'∧Go.Conc.Good Try.prog (fun v W'=>s.post enc Try.prog fn apart fresh handsOn again W #[.slice a0 len cap] v W') last o w' t':=fun xs hx hi hl=>by
  subst hx
  have hN:∀ b,(∃ p,a0=some p∧p.block=b)→Seen W b:=fun b ⟨p,hp,hb⟩=>hb▸(hseen p hp).1
  have hrel:VsRel (idS fun b=>∃ p,a0=some p∧p.block=b) #[.slice a0 xs.length cap] #[.slice a0 xs.length cap]:=by
   refine⟨rfl,fun i x y h1 h2=>?_⟩
   rcases i with _|i
   ·simp at h1 h2
    subst h1 h2
    refine .slice _ _ ?_
    cases a0 with
    | none=>exact .none
    | some p =>
     obtain⟨b,off,spot⟩:=p
     have:=(hseen _ rfl).2
     simp only at this
     subst this
     exact .some ⟨⟨rfl,_,rfl,rfl⟩,rfl,rfl⟩
   ·simp at h1
  have hmi:∀ t,Ints { maskS (fun b=>∃ p,a0=some p∧p.block=b) W with tape:=t } a0 xs:=fun t k x hk=>by
   obtain⟨b,off,e,hc⟩:=hi k x hk
   exact⟨b,off,e,maskW_cell (N:=fun b=>∃ p,a0=some p∧p.block=b) ⟨_,e,rfl⟩ hc (.int _ _)⟩
  obtain⟨M,last,o,w',t',h1,h2,h3,h4⟩:=law_runs cheapOn_S cheapOn_Sw hF hini hN (by rw[no_globals];exact Nat.zero_le _) hrel fun t=>hw a0 cap xs _ (hmi t) hl
  refine⟨M,last,o,w',t',h1,h2,h3,h4.mono fun v hv1=>?_⟩
  obtain⟨rfl,g1,g2,g3⟩:=hv1
  have hb:Below W.heap.size W w':=⟨g3.os,g3.tape,g3.output,g1,g2⟩
  obtain⟨e1,e2,e3⟩:=hs H d0
  refine post_of_below (pa:=p) (pv:=[]) hW' (fun b sp hd=>?_) (fun sp hsp=>?_) (fun sp _=>?_) (by simp) hb (fun j t r hj hr2=>?_)
  ·rw[hr]
   show DataW.TrodAll enc Try.prog w' b sp hd [4] [.bool true] (s.fn H [d0]).results []
   rw[e1]
   exact trodAll_cons_mk (shut_bool Try.underlying4 _) trodAll_mk0
  ·rw[hp]
   show DataW.TrodAll enc Try.prog w' 0 sp true [22] [.slice a0 xs.length cap] (s.fn H [d0]).args p
   rw[e2]
   exact trodAll_mk1 (WideElems.Trod_stays laid_out readable_nums nums_row h0k (fun x hx=>hb.same (hlt x hx)) (fun x hx=>hsp x hx))
  ·rw[hv]
   show DataW.TrodVars enc Try.prog w' sp [] (s.fn H [d0]).vars []
   rw[e3]
   rfl
  ·exact ok_one hr rfl (okWide_bool_mk Try.underlying4 _) j t r hj hr2
 rcases open_ints Try.underlying22 Try.underlying3 cells_int hf with ⟨hcs,hx⟩|⟨a,len',cap',zs,hcs,_,hl,hm,hz,hx,hcell,hwz⟩
 ·simp[Value.cells] at hcs
  obtain⟨rfl,rfl,rfl⟩:=hcs
  exact hclose [] rfl (fun k x h=>by simp at h) (by simp)
 ·simp[Value.cells] at hcs
  obtain⟨rfl,rfl,rfl⟩:=hcs
  simp only[if_true] at hz
  simp only[Prod.mk.injEq] at hx
  obtain⟨_,rfl⟩:=hx
  have hlen:(zs.take len).length=len:=by rw[List.length_take];omega
  refine hclose (zs.take len) hlen (fun k x hk=>?_) (by rw[hlen];simp only[maxLen] at hm;omega)
  have hkl:k<len:=by
   have:=(List.getElem?_eq_some_iff.1 hk).1
   omega
  have hkz:zs.getD k 0=x:=by
   rw[List.getElem?_take,if_pos hkl] at hk
   simp[List.getD_eq_getElem?_getD,hk]
  have hc:=hcell k (by omega)
  rw[hkz] at hc
  obtain⟨b,off,spot⟩:=a
  have hs0:=(hseen _ rfl).2
  simp only at hs0
  subst hs0
  rw[add_plain] at hc
  exact⟨b,off,rfl,hc⟩
end
end Go.Gal
namespace Go.Gal
section
end
section
open Go Go.Par Go.Proofs Go.RowKit
def TagAt (w:World) (A:Option Addr) (t:TypeId):Prop:=∀ k,A.map (·.block)=some k→∃ cs,w.heap[k]?=some (.cells cs t (0,0))
def Tags (T:TypeId→Prop) (w w':World):Prop:=∀ (b:Nat) (cs:Array Value) (t:TypeId),w.heap[b]?=some (.cells cs t (0,0))→T t→w'.heap[b]?=w.heap[b]?
theorem Tags.of_grown {T:TypeId→Prop} {w w':World} (g:Grown w w'):Tags T w w':=fun b _ _ h _=>g.same b (zj h)
theorem Tags.of_row {T:TypeId→Prop} {w w':World} {row:Option Nat} (g:w.grownBy w' row) (hr:∀ k,row=some k→∃ cs t,w.heap[k]?=some (.cells cs t (0,0))∧¬ T t):Tags T w w':=fun b cs t h ht=>g.block b (zj h) fun e=>by
 obtain⟨cs',t',h1,h2⟩:=hr b e.symm
 rw[h] at h1
 cases h1
 exact h2 ht
theorem TagAt.keep {T:TypeId→Prop} {w w':World} {A:Option Addr} {t:TypeId} (h:TagAt w A t) (hT:T t) (k:Tags T w w'):TagAt w' A t:=fun b hb=>by
 obtain⟨cs,hc⟩:=h b hb
 exact⟨cs,(k b cs t hc hT).trans hc⟩
def IntsT (w:World) (A:Option Addr) (xs:List Int):Prop:=Ints w A xs∧TagAt w A 3
theorem IntsT.keep {T:TypeId→Prop} {w w':World} {A:Option Addr} {xs:List Int} (h:IntsT w A xs) (hT:T 3) (k:Tags T w w'):IntsT w' A xs:=⟨fun i x hx=>by
 obtain⟨b,off,e,hc⟩:=h.1 i x hx
 obtain⟨cs,hb⟩:=h.2 b (by rw[e];rfl)
 exact⟨b,off,e,(World.cell?_of_block (a:=⟨b,off+i,none⟩) (k b cs 3 hb hT)).trans hc⟩,h.2.keep hT k⟩
theorem IntsT.of_own {w:World} {base c:Nat} {A:Option Addr} {xs:List Int} (h:L.OwnInts w base A c xs):IntsT w A xs:=⟨ints_own h,fun _ hk=>jj h (by rw[qw];exact hk)⟩
def CellsT (w:World) (rows:List (List Int)) (cells:List Value):Prop:=cells.length=rows.length∧∀ (j:Nat) (l:List Int),rows[j]?=some l→∃ B c,cells[j]?=some (.slice B l.length c)∧l.length≤1000∧IntsT w B l
theorem CellsT.keep {T:TypeId→Prop} {w w':World} {rows:List (List Int)} {cells:List Value} (h:CellsT w rows cells) (hT:T 3) (k:Tags T w w'):CellsT w' rows cells:=⟨h.1,fun j l hj=>by
 obtain⟨B,c,h1,h2,h3⟩:=h.2 j l hj
 exact⟨B,c,h1,h2,h3.keep hT k⟩⟩
theorem CellsT.one {w:World} {rows:List (List Int)} {cells:List Value} (h:CellsT w rows cells):∀ u∈cells,u.oneCell'=true:=fun u hu=>by
 obtain⟨j,hj⟩:=List.getElem?_of_mem hu
 have hlt:j<rows.length:=by rw[← h.1];exact (List.getElem?_eq_some_iff.1 hj).1
 obtain⟨B,c,h1,_⟩:=h.2 j _ (List.getElem?_eq_getElem hlt)
 rw[hj] at h1
 cases h1
 rfl
theorem CellsT.append {w:World} {rows ys:List (List Int)} {cells cs:List Value} (h:CellsT w rows cells) (k:CellsT w ys cs):CellsT w (rows++ys) (cells++cs):=⟨by rw[List.length_append,List.length_append,h.1,k.1],fun j l hj=>by
 rcases Nat.lt_or_ge j rows.length with q|q
 ·rw[List.getElem?_append_left q] at hj
  obtain⟨B,c,h1,h2⟩:=h.2 j l hj
  exact⟨B,c,by rw[List.getElem?_append_left (by rw[h.1];exact q)];exact h1,h2⟩
 ·rw[List.getElem?_append_right q] at hj
  obtain⟨B,c,h1,h2⟩:=k.2 _ l hj
  exact⟨B,c,by rw[List.getElem?_append_right (by rw[h.1];exact q),h.1];exact h1,h2⟩⟩
def RowT (w:World) (base:Nat) (A:Option Addr) (c:Nat) (rows:List (List Int)):Prop:=∃ cells,w.ownsRow base 22 1 (.slice A rows.length c) rows.length cells∧CellsT w rows cells
theorem RowT.nil (w:World) (base:Nat):RowT w base none 0 []:=⟨[],⟨by simp,.inl ⟨rfl,rfl⟩⟩,rfl,fun j l h=>by simp at h⟩
theorem RowT.keep {T:TypeId→Prop} {w w':World} {base c:Nat} {A:Option Addr} {rows:List (List Int)} (h:RowT w base A c rows) (hT:T 3) (hT2:T 22) (k:Tags T w w'):RowT w' base A c rows:=by
 obtain⟨cells,h1,h2⟩:=h
 refine⟨cells,jb h1 fun b hb hl=>?_,h2.keep hT k⟩
 obtain⟨cs,hc⟩:=jj h1 hb
 exact k b cs 22 hc hT2
theorem RowT.grown {w w':World} {base c:Nat} {A:Option Addr} {rows:List (List Int)} (h:RowT w base A c rows) (g:Grown w w'):RowT w' base A c rows:=h.keep (T:=fun _=>True) trivial trivial (.of_grown g)
theorem RowT.lower {w:World} {base base2 c:Nat} {A:Option Addr} {rows:List (List Int)} (h:RowT w base A c rows) (hb:base2≤base):RowT w base2 A c rows:=by
 obtain⟨cells,h1,h2⟩:=h
 exact⟨cells,own_lower h1 hb,h2⟩
theorem RowT.one {w:World} {A:Option Addr} {l:List Int} {c n:Nat} (h:IntsT w A l) (hn:l.length=n) (hl:n≤1000):RowT (w.alloc (.cells #[.slice A n c] 22)) w.heap.size (some ⟨w.heap.size,0,none⟩) 1 [l]:=by
 subst hn
 refine⟨[.slice A l.length c],World.ownsRow_lit w #[.slice A l.length c] 1 (Nat.le_refl _) (by decide) (by simp),rfl,fun j l' hj=>?_⟩
 rcases j with _|j
 ·simp only[List.getElem?_cons_zero,Option.some.injEq] at hj
  subst hj
  exact⟨A,c,rfl,hl,h.keep (T:=fun _=>True) trivial (.of_grown (Grown.alloc _ _))⟩
 ·simp at hj
section
variable {P:Program}
theorem wp_app_rows {w:World} {o:Oper} {a:Act} {K:Act→World→Prop} {Q:Exit→Act→World→Prop} (s x:Operand)
  (ho:o.op=.call { callee:=.builtin .append,args:=#[s,x],argTypes:=#[32,32] }) (base:Nat) (ht:P.underlying 32=some (.slice 22)) (hi:(P.info? 22).map (fun i=>(i.zero,i.size,i.bytes))=some (some (.slice none 0 0),1,24))
  {A:Option Addr} {c:Nat} {rows:List (List Int)} (hs:a.eval s=.slice A rows.length c) (hR:RowT w base A c rows) {B:Option Addr} {BB m c2:Nat} {ys:List (List Int)} {cs:List Value} (hx:a.eval x=.slice B m c2) (hm:m=ys.length) (hr:L.Reads w BB 1 B m cs) (hc:CellsT w ys cs) (hlen:rows.length+ys.length≤1000000) (hbase:base≤w.heap.size)
  (h:∀ A2 c3 w',RowT w' base A2 c3 (rows++ys)→w.grownBy w' (Value.slice A rows.length c).ownBlock→Tags (fun t=>t≠22) w w'→K (a.put o.dst (.slice A2 (rows++ys).length c3)) w'):o.wp P a w K Q:=by
 subst hm
 obtain⟨i,h1,h2,h3,h4⟩:=info_parts hi
 obtain⟨cells,hrow,hcells⟩:=hR
 refine L.wp_append_any w s x 32 ho base 22 i _ 1 24 ht h1 h2 h3 h4 rfl (by omega) (.slice A rows.length c) rows.length cells hs hrow BB B ys.length c2 cs hx hr hc.one (by simp only[maxLen];omega) (by omega) hbase ?_
 intro v' w' hown' hg _
 obtain⟨A2,c3,rfl⟩:=L.own_slice hown'
 have k:Tags (fun t=>t≠22) w w':=.of_row hg fun b hb=>by
  obtain⟨cs',hc'⟩:=jj hrow hb
  exact⟨cs',22,hc',fun e=>e rfl⟩
 rw[← List.length_append] at hown' ⊢
 exact h A2 c3 w' ⟨cells++cs,hown',(hcells.keep (by decide) k).append (hc.keep (by decide) k)⟩ hg k
theorem jh {w:World} {ops:Array Oper} {o:Oper} {a:Act} {K:Act→World→Prop} {Q:Exit→Act→World→Prop} {E:Prop} (hgd:o.guard=none) (s x:Operand)
  (ho:o.op=.call { callee:=.builtin .append,args:=#[s,x],argTypes:=#[32,32] }) (base:Nat) (ht:P.underlying 32=some (.slice 22)) (hi:(P.info? 22).map (fun i=>(i.zero,i.size,i.bytes))=some (some (.slice none 0 0),1,24))
  {A:Option Addr} {c:Nat} {rows:List (List Int)} (hs:a.eval s=.slice A rows.length c) (hR:RowT w base A c rows) {B:Option Addr} {BB m c2:Nat} {ys:List (List Int)} {cs:List Value} (hx:a.eval x=.slice B m c2) (hm:m=ys.length) (hr:L.Reads w BB 1 B m cs) (hc:CellsT w ys cs) (hlen:rows.length+ys.length≤1000000) (hbase:base≤w.heap.size)
  (h:∀ A2 c3 w',RowT w' base A2 c3 (rows++ys)→w.grownBy w' (Value.slice A rows.length c).ownBlock→Tags (fun t=>t≠22) w w'→K (a.put o.dst (.slice A2 (rows++ys).length c3)) w'):if Region.wanted o (yielded ops a.tmps)=true then Oper.wp P o a w K Q else E:=by
 rw[if_pos (show Region.wanted o (yielded ops a.tmps)=true by simp[Region.wanted,hgd])]
 exact wp_app_rows s x ho base ht hi hs hR hx hm hr hc hlen hbase h
end
end
section
open Go Go.Par Go.Proofs Go.RowKit
section
variable (D:Good1) (ld:Nat→Nat)
def nowD:Nat→Nat
 | 0=>D.start
 | h+1=>(after D (hlG D h) (nowD h+ld h)).toNat
def barD (h:Nat):Bool:=barB (hlG D h).price D.room (ld h) (nowD D ld h)
def shortD (h:Nat):Bool:=decide (after D (hlG D h) (nowD D ld h+ld h)<D.reserve)
end
abbrev ldI (ls:List (List Int)) (i:Nat):Nat→Nat:=fun h=>ldN ls h i
section
variable {Ds:List Good1} {ls:List (List Int)} {h i:Nat} {now:Nat→Nat}
theorem barAt_eq (hn:now i=nowD (atG Ds i) (ldI ls i) h):barAt Ds ls h now i=barD (atG Ds i) (ldI ls i) h:=by
 unfold barAt barD
 rw[hn]
theorem shortAt_eq (hn:now i=nowD (atG Ds i) (ldI ls i) h):shortAt Ds ls h now i=shortD (atG Ds i) (ldI ls i) h:=by
 unfold shortAt shortD
 rw[hn]
theorem nextN_eq (hn:now i=nowD (atG Ds i) (ldI ls i) h):nextN Ds ls h now i=nowD (atG Ds i) (ldI ls i) (h+1):=by
 unfold nextN
 rw[hn]
 rfl
end
section
variable {Ds:List Good1} {ls:List (List Int)}
def WellAt (Ds:List Good1) (ls:List (List Int)) (h:Nat):Prop:=∀ i,i<Ds.length→barD (atG Ds i) (ldI ls i) h=false∧shortD (atG Ds i) (ldI ls i) h=false
def EndsAt (Ds:List Good1) (ls:List (List Int)) (h i:Nat) (er:Int):Prop:=i<Ds.length∧((er=9∧barD (atG Ds i) (ldI ls i) h=true)∨(er=11∧(∀ j,j<Ds.length→barD (atG Ds j) (ldI ls j) h=false)∧shortD (atG Ds i) (ldI ls i) h=true∧∀ j,j<i→shortD (atG Ds j) (ldI ls j) h=false))
theorem step_now {h:Nat} {now:Nat→Nat} (hn:∀ i,i<Ds.length→now i=nowD (atG Ds i) (ldI ls i) h):∀ i,i<Ds.length→zy Ds.length now (nextN Ds ls h now) i=nowD (atG Ds i) (ldI ls i) (h+1):=fun i hi=>by
 unfold zy
 rw[if_pos hi]
 exact nextN_eq (hn i hi)
theorem runG_ends:∀ {r h:Nat} {now mel:Nat→Nat} {h' i:Nat} {er:Int},(∀ i,i<Ds.length→now i=nowD (atG Ds i) (ldI ls i) h)→(runG Ds ls r h now mel).stop=some (h',i,er) →
  h≤h'∧h'<h+r∧(∀ j,h≤j→j<h'→WellAt Ds ls j)∧EndsAt Ds ls h' i er
 | 0,h,now,mel,h',i,er,_,hs=>by cases hs
 | r+1,h,now,mel,h',i,er,hn,hs=>by
  cases hf:(List.range Ds.length).find? (barAt Ds ls h now) with
  | some k =>
   rw[runG_bar hf] at hs
   cases hs
   obtain⟨h1,h2,_⟩:=find_some hf
   exact⟨Nat.le_refl _,by omega,fun j a b=>by omega,h1,.inl ⟨rfl,by rw[← barAt_eq (hn _ h1)];exact h2⟩⟩
  | none =>
   have hb:=find_none hf
   have hb':∀ j,j<Ds.length→barD (atG Ds j) (ldI ls j) h=false:=fun j hj=>by rw[← barAt_eq (hn j hj)];exact hb j hj
   cases hg:(List.range Ds.length).find? (shortAt Ds ls h now) with
   | some k =>
    rw[runG_short hf hg] at hs
    cases hs
    obtain⟨h1,h2,h3⟩:=find_some hg
    exact⟨Nat.le_refl _,by omega,fun j a b=>by omega,h1,.inr ⟨rfl,hb',by rw[← shortAt_eq (hn _ h1)];exact h2,fun j hj=>by rw[← shortAt_eq (hn j (by omega))];exact h3 j hj⟩⟩
   | none =>
    have hc:=find_none hg
    rw[runG_step hf hg] at hs
    obtain⟨a1,a2,a3,a4⟩:=runG_ends (step_now hn) hs
    refine⟨by omega,by omega,fun j x y=>?_,a4⟩
    rcases Nat.lt_or_ge h j with q|q
    ·exact a3 j (by omega) y
    ·obtain rfl:j=h:=by omega
     exact fun i hi=>⟨hb' i hi,by rw[← shortAt_eq (hn i hi)];exact hc i hi⟩
def leftRow (Ds:List Good1) (ls:List (List Int)) (h:Nat):List Int:=(List.range Ds.length).map fun i=>((nowD (atG Ds i) (ldI ls i) (h+1):Nat):Int)
theorem runG_well:∀ {r h:Nat} {now mel:Nat→Nat},(∀ i,i<Ds.length→now i=nowD (atG Ds i) (ldI ls i) h)→(runG Ds ls r h now mel).stop=none →
  (∀ j,h≤j→j<h+r→WellAt Ds ls j)∧(runG Ds ls r h now mel).left=(List.range r).map fun j=>leftRow Ds ls (h+j)
 | 0,h,now,mel,_,_=>⟨fun j a b=>by omega,rfl⟩
 | r+1,h,now,mel,hn,hs=>by
  cases hf:(List.range Ds.length).find? (barAt Ds ls h now) with
  | some k=>rw[runG_bar hf] at hs;cases hs
  | none =>
   have hb:=find_none hf
   cases hg:(List.range Ds.length).find? (shortAt Ds ls h now) with
   | some k=>rw[runG_short hf hg] at hs;cases hs
   | none =>
    have hc:=find_none hg
    rw[runG_step hf hg] at hs ⊢
    obtain⟨a1,a2⟩:=runG_well (step_now hn) hs
    refine⟨fun j x y=>?_,?_⟩
    ·rcases Nat.lt_or_ge h j with q|q
     ·exact a1 j (by omega) (by omega)
     ·obtain rfl:j=h:=by omega
      exact fun i hi=>⟨by rw[← barAt_eq (hn i hi)];exact hb i hi,by rw[← shortAt_eq (hn i hi)];exact hc i hi⟩
    ·show _::(runG Ds ls r (h+1) _ _).left=_
     rw[a2,List.range_succ_eq_map,List.map_cons,List.map_map]
     congr 1
     ·unfold leftRow
      refine List.map_congr_left fun i hi=>?_
      rw[nextN_eq (hn i (by simpa using hi))]
     ·refine List.map_congr_left fun j _=>?_
      show leftRow Ds ls (h+1+j)=leftRow Ds ls (h+(j+1))
      rw[show h+1+j=h+(j+1) by omega]
theorem start_now:∀ i,i<Ds.length→zy Ds.length (fun _=>0) (fun i=>(atG Ds i).start) i=nowD (atG Ds i) (ldI ls i) 0:=fun i hi=>by
 unfold zy
 rw[if_pos hi]
 rfl
end
theorem runK_ends {K:Kt} {xs:List Int} {ls:List (List Int)} {h i:Nat} {er:Int} (hs:(runK K xs ls).stop=some (h,i,er)):h<K.hauls.length∧(∀ j,j<h→WellAt (dsOf K xs) ls j)∧EndsAt (dsOf K xs) ls h i er:=by
 obtain⟨_,h2,h3,h4⟩:=runG_ends start_now hs
 exact⟨by omega,fun j hj=>h3 j (Nat.zero_le _) hj,h4⟩
theorem runK_well {K:Kt} {xs:List Int} {ls:List (List Int)} (hs:(runK K xs ls).stop=none):(∀ j,j<K.hauls.length→WellAt (dsOf K xs) ls j)∧(runK K xs ls).left=(List.range K.hauls.length).map (leftRow (dsOf K xs) ls):=by
 obtain⟨h1,h2⟩:=runG_well start_now hs
 refine⟨fun j hj=>h1 j (Nat.zero_le _) (by omega),?_⟩
 unfold runK runOf
 rw[h2]
 exact List.map_congr_left fun j _=>by rw[Nat.zero_add]
theorem runK_none_of {K:Kt} {xs:List Int} {ls:List (List Int)} (hw:∀ j,j<K.hauls.length→WellAt (dsOf K xs) ls j):(runK K xs ls).stop=none:=by
 cases hs:(runK K xs ls).stop with
 | none=>rfl
 | some p =>
  obtain⟨h,i,er⟩:=p
  obtain⟨h1,_,h3,h4⟩:=runK_ends hs
  obtain⟨w1,w2⟩:=hw h h1 i h3
  rcases h4 with ⟨_,q⟩|⟨_,_,q,_⟩
  ·rw[w1] at q;cases q
  ·rw[w2] at q;cases q
structure AlikeTo (m:Nat) (D D':Good1) (ld ld':Nat→Nat):Prop where
 room:D'.room=D.room
 melts:D'.melts=D.melts
 start:D'.start=D.start
 reserve:D'.reserve=D.reserve
 haul:∀ h,h<m→hlG D' h=hlG D h
 load:∀ h,h<m→ld' h=ld h
section
variable {m:Nat} {D D':Good1} {ld ld':Nat→Nat}
end
theorem hlG_goodOf {K:Kt} {xs:List Int} {i h:Nat} {g:Gd} (hl:xs.length=K.hauls.length) (hh:h<K.hauls.length):hlG (goodOf K xs i g) h=haulOf K i K.hauls[h] (xs[h]'(by omega)):=by
 unfold hlG goodOf
 simp only
 rw[List.getD_eq_getElem?_getD,List.getElem?_map,List.getElem?_eq_getElem (by simp;omega)]
 simp
def firstK (K:Kt) (m:Nat):Kt:={ K with hauls:=K.hauls.take m }
def gdAt (gs:List Gd) (i:Nat):Gd:=gs.getD i ⟨0,0,0,0⟩
theorem gdAt_get {gs:List Gd} {i:Nat} (h:i<gs.length):gs[i]?=some (gdAt gs i):=by
 unfold gdAt
 rw[List.getD_eq_getElem?_getD,List.getElem?_eq_getElem h]
 rfl
def spareK (K:Kt) (g m:Nat):Kt:=⟨K.goods.set g { gdAt K.goods g with reserve:=0 },K.dishes.map fun d=>d.set g 0,K.hauls.take m⟩
section
variable {K:Kt} {xs:List Int} {ls:List (List Int)} {m g:Nat}
end
theorem given_of {K:Kt} {xs:List Int} {ls:List (List Int)} (ha:qn K xs=0) (h1:ls.length=K.hauls.length) (h2:∀ l∈ls,l.length=K.goods.length∧∀ x∈l,0≤x∧x≤20):qh K xs ls=0:=by
 unfold qh
 rw[ha,if_neg (by simp)]
 unfold qN
 rw[manyE_ok (by omega) (by omega),if_neg (by simp)]
 exact firstE_ok fun l hl=>eachE_ok (by have:=(h2 l hl).1;omega) (h2 l hl).2
structure ShortN (K:Kt) (ms:List Int) (ls:List (List Int)) (haul good:Nat) (room res mel st hours covers d nq N X:Nat) (l ds:List Int):Prop where
 hh:haul<K.hauls.length
 hg:good<K.goods.length
 gd:K.goods[good]?=some ⟨room,res,mel,st⟩
 hl:∃ pr,K.hauls[haul]?=some ⟨hours,covers,pr⟩
 menu:ms[haul]?=some (d:Int)
 hd:d<K.dishes.length
 dish:K.dishes[d]?=some ds
 dlen:ds.length=K.goods.length
 need:ds[good]?=some (nq:Int)
 load:ls[haul]?=some l
 llen:l.length=K.goods.length
 ld:l[good]?=some (X:Int)
 zero:haul=0→N=st
 more : 1≤haul→qh (firstK K haul) (ms.take haul) (ls.take haul)=0∧(runK (firstK K haul) (ms.take haul) (ls.take haul)).stop=none∧(runK (firstK K haul) (ms.take haul) (ls.take haul)).left.length=haul ∧
   ∃ row,(runK (firstK K haul) (ms.take haul) (ls.take haul)).left[haul-1]?=some row∧row.length=K.goods.length∧row[good]?=some (N:Int)
 short:((N+X-melted hours mel (N+X):Nat):Int)-((covers*nq:Nat):Int)<(res:Int)
 bds:N+X≤room∧room≤20∧hours≤24∧covers≤9∧nq≤3∧mel≤12∧res≤20∧N≤20∧X≤20
 spare:qh (spareK K good (haul+1)) (ms.take (haul+1)) (ls.take (haul+1))=0
 last:∀ h i er,(runK (spareK K good (haul+1)) (ms.take (haul+1)) (ls.take (haul+1))).stop=some (h,i,er)→er=9∨(er=11∧h=haul∧good<i∧i<K.goods.length)
end
section
open Go Go.Par Go.Proofs Go.RowKit
theorem wrap_of {x v:Int} (h:v=x) (h1 : -1000000≤v) (h2:v≤1000000):IntKind.i64.wrap x=v:=by
 subst h
 rw[IntKind.wrap_i64]
 omega
section
variable {fs:Array Func} [LikeS fs]
variable (K:Kt) (gA dA hA:Option Addr) (gc dc hc:Nat) (xs:List Int) (mA:Option Addr) (mc:Nat) (ls:List (List Int)) (lA:Option Addr) (lc:Nat) (w:World) (k:KtAt w K gA dA hA) (m:Ints w mA xs) (hlen:xs.length≤1000) (hl:DishesAt w lA ls) (hll:ls.length≤1000) (hG:qh K xs ls=0)
include k m hlen hl hll hG
theorem out_bar {h i:Nat} (hs:(runK K xs ls).stop=some (h,i,9)) :
  Calls (Pf fs) 23 #[ktV K gA dA hA gc dc hc,.slice mA xs.length mc,.slice lA ls.length lc] w fun e w'=>e=.returned (.tuple #[.int .i64 0,.int .i64 0,.int .i64 9])∧Grown w w':=
 (out_run (fs:=fs) K gA dA hA gc dc hc xs mA mc ls lA lc w k m hlen hl hll).mono fun e w' ⟨v,e1,g1,ho⟩=>by
  rcases ho with hne|⟨_,_,_,_⟩|⟨_,_,_,hne⟩|⟨_,hne⟩
  ·exact absurd hG hne
  ·exact⟨e1,g1⟩
  ·exact absurd (hs.symm.trans hne) (by simp)
  ·exact absurd (hs.symm.trans hne) (by simp)
theorem out_short {h i:Nat} (hs:(runK K xs ls).stop=some (h,i,11)) :
  Calls (Pf fs) 23 #[ktV K gA dA hA gc dc hc,.slice mA xs.length mc,.slice lA ls.length lc] w fun e w'=>e=.returned (.tuple #[.int .i64 h,.int .i64 i,.int .i64 0])∧Grown w w':=
 (out_run (fs:=fs) K gA dA hA gc dc hc xs mA mc ls lA lc w k m hlen hl hll).mono fun e w' ⟨v,e1,g1,ho⟩=>by
  rcases ho with hne|⟨_,_,_,hne⟩|⟨_,_,_,hne⟩|⟨_,hne⟩
  ·exact absurd hG hne
  ·exact absurd (hs.symm.trans hne) (by simp)
  ·cases hs.symm.trans hne
   exact⟨e1,g1⟩
  ·exact absurd (hs.symm.trans hne) (by simp)
theorem out_none (hs:(runK K xs ls).stop=none) :
  Calls (Pf fs) 23 #[ktV K gA dA hA gc dc hc,.slice mA xs.length mc,.slice lA ls.length lc] w fun e w'=>e=.returned (.tuple #[.int .i64 (-1),.int .i64 (-1),.int .i64 0])∧Grown w w':=
 (out_run (fs:=fs) K gA dA hA gc dc hc xs mA mc ls lA lc w k m hlen hl hll).mono fun e w' ⟨v,e1,g1,ho⟩=>by
  rcases ho with hne|⟨_,_,_,hne⟩|⟨_,_,_,hne⟩|⟨_,hne⟩
  ·exact absurd hG hne
  ·exact absurd (hs.symm.trans hne) (by simp)
  ·exact absurd (hs.symm.trans hne) (by simp)
  ·exact⟨e1,g1⟩
end
section
variable {fs:Array Func} [Like fs]
end
section
variable {fs:Array Func} [LikeS fs]
end
def behindN:Nat→Code→Code
 | 0,c=>c
 | n+1,.seq _ b=>behindN n b
 | _,c=>c
end
section
open Go Go.Par Go.Proofs Go.RowKit
section
variable {fs:Array Func} [LikeS fs]
end
end
section
open Go Go.Par Go.Proofs Go.RowKit
theorem inf32:(Try.prog.info? 32).map (fun i=>(i.zero,i.size,i.bytes))=some (some (.slice none 0 0),1,24):=by kernel_rfl
def DishT (w:World) (B:Option Addr) (rows:List (List Int)):Prop:=(∀ (j:Nat) (l:List Int),rows[j]?=some l→∃ b off A c,B=some ⟨b,off,none⟩∧w.cell? ⟨b,off+j,none⟩=some (.slice A l.length c)∧l.length≤1000∧IntsT w A l)∧TagAt w B 22
theorem DishT.keep {T:TypeId→Prop} {w w':World} {B:Option Addr} {rows:List (List Int)} (h:DishT w B rows) (h1:T 3) (h2:T 22) (k:Tags T w w'):DishT w' B rows:=⟨fun j l hj=>by
 obtain⟨b,off,A,c,e,q1,q2,q3⟩:=h.1 j l hj
 obtain⟨cs,hb⟩:=h.2 b (by rw[e];rfl)
 exact⟨b,off,A,c,e,(World.cell?_of_block (a:=⟨b,off+j,none⟩) (k b cs 22 hb h2)).trans q1,q2,q3.keep h1 k⟩,h.2.keep h2 k⟩
theorem DishT.at_ {w:World} {B:Option Addr} {rows:List (List Int)} (h:DishT w B rows):DishesAt w B rows:=fun j l hj=>by
 obtain⟨b,off,A,c,e,q1,q2,q3⟩:=h.1 j l hj
 exact⟨b,off,e,A,c,q1,q3.1,q2⟩
theorem RowT.dish {w:World} {base c:Nat} {A:Option Addr} {rows:List (List Int)} (h:RowT w base A c rows):DishT w A rows:=by
 obtain⟨cells,h1,h2⟩:=h
 refine⟨fun j l hj=>?_,fun k hk=>jj h1 (by rw[qw];exact hk)⟩
 obtain⟨B,c',k1,k2,k3⟩:=h2.2 j l hj
 have hjl:j<rows.length:=(List.getElem?_eq_some_iff.1 hj).1
 obtain⟨ad,u,e1,_,e2,e3⟩:=(L.Reads.of_own h1).at_ hjl
 rw[k1] at e2
 cases e2
 rcases h1.2 with ⟨e,_⟩|⟨g,cap,cur,e,_⟩
 ·rw[e1] at e;cases e
 ·rw[e1] at e
  cases e
  refine⟨g,0,B,c',e1,?_,k2,k3⟩
  rw[Nat.zero_add]
  unfold Addr.add at e3
  split at e3
  ·rename_i h0;subst h0;exact e3
  ·simpa using e3
def Cells3 (w:World) (xs:List (List (List Int))) (cells:List Value):Prop:=cells.length=xs.length∧∀ (j:Nat) (rows:List (List Int)),xs[j]?=some rows→∃ B c,cells[j]?=some (.slice B rows.length c)∧rows.length≤1000∧DishT w B rows
theorem Cells3.keep {T:TypeId→Prop} {w w':World} {xs:List (List (List Int))} {cells:List Value} (h:Cells3 w xs cells) (h1:T 3) (h2:T 22) (k:Tags T w w'):Cells3 w' xs cells:=⟨h.1,fun j l hj=>by
 obtain⟨B,c,q1,q2,q3⟩:=h.2 j l hj
 exact⟨B,c,q1,q2,q3.keep h1 h2 k⟩⟩
theorem Cells3.one {w:World} {xs:List (List (List Int))} {cells:List Value} (h:Cells3 w xs cells):∀ u∈cells,u.oneCell'=true:=fun u hu=>by
 obtain⟨j,hj⟩:=List.getElem?_of_mem hu
 have hlt:j<xs.length:=by rw[← h.1];exact (List.getElem?_eq_some_iff.1 hj).1
 obtain⟨B,c,h1,_⟩:=h.2 j _ (List.getElem?_eq_getElem hlt)
 rw[hj] at h1
 cases h1
 rfl
theorem Cells3.append {w:World} {xs ys:List (List (List Int))} {cells cs:List Value} (h:Cells3 w xs cells) (k:Cells3 w ys cs):Cells3 w (xs++ys) (cells++cs):=⟨by rw[List.length_append,List.length_append,h.1,k.1],fun j l hj=>by
 rcases Nat.lt_or_ge j xs.length with q|q
 ·rw[List.getElem?_append_left q] at hj
  obtain⟨B,c,h1,h2⟩:=h.2 j l hj
  exact⟨B,c,by rw[List.getElem?_append_left (by rw[h.1];exact q)];exact h1,h2⟩
 ·rw[List.getElem?_append_right q] at hj
  obtain⟨B,c,h1,h2⟩:=k.2 _ l hj
  exact⟨B,c,by rw[List.getElem?_append_right (by rw[h.1];exact q),h.1];exact h1,h2⟩⟩
def Row3 (w:World) (base:Nat) (A:Option Addr) (c:Nat) (xs:List (List (List Int))):Prop:=∃ cells,w.ownsRow base 32 1 (.slice A xs.length c) xs.length cells∧Cells3 w xs cells
theorem Row3.nil (w:World) (base:Nat):Row3 w base none 0 []:=⟨[],⟨by simp,.inl ⟨rfl,rfl⟩⟩,rfl,fun j l h=>by simp at h⟩
theorem Row3.grown {w w':World} {base c:Nat} {A:Option Addr} {xs:List (List (List Int))} (h:Row3 w base A c xs) (g:Grown w w'):Row3 w' base A c xs:=by
 obtain⟨cells,h1,h2⟩:=h
 exact⟨cells,jb h1 fun b _ hl=>g.same b hl,h2.keep (T:=fun _=>True) trivial trivial (.of_grown g)⟩
theorem Row3.lower {w:World} {base base2 c:Nat} {A:Option Addr} {xs:List (List (List Int))} (h:Row3 w base A c xs) (hb:base2≤base):Row3 w base2 A c xs:=by
 obtain⟨cells,h1,h2⟩:=h
 exact⟨cells,own_lower h1 hb,h2⟩
theorem Row3.at_ {w:World} {base c:Nat} {A:Option Addr} {xs:List (List (List Int))} (h:Row3 w base A c xs) {j:Nat} {rows:List (List Int)} (hj:xs[j]?=some rows):∃ b B c',A=some ⟨b,0,none⟩∧w.cell? ⟨b,j,none⟩=some (.slice B rows.length c')∧rows.length≤1000∧DishT w B rows:=by
 obtain⟨cells,h1,h2⟩:=h
 obtain⟨B,c',k1,k2,k3⟩:=h2.2 j rows hj
 have hjl:j<xs.length:=(List.getElem?_eq_some_iff.1 hj).1
 obtain⟨ad,u,e1,_,e2,e3⟩:=(L.Reads.of_own h1).at_ hjl
 rw[k1] at e2
 cases e2
 rcases h1.2 with ⟨e,_⟩|⟨g,cap,cur,e,_⟩
 ·rw[e1] at e;cases e
 ·rw[e1] at e
  cases e
  refine⟨g,B,c',e1,?_,k2,k3⟩
  unfold Addr.add at e3
  split at e3
  ·rename_i h0;subst h0;exact e3
  ·simpa using e3
theorem Row3.one {w:World} {A:Option Addr} {rows:List (List Int)} {c n:Nat} (h:DishT w A rows) (hn:rows.length=n) (hl:n≤1000):Row3 (w.alloc (.cells #[.slice A n c] 32)) w.heap.size (some ⟨w.heap.size,0,none⟩) 1 [rows]:=by
 subst hn
 refine⟨[.slice A rows.length c],World.ownsRow_lit w #[.slice A rows.length c] 1 (Nat.le_refl _) (by decide) (by simp),rfl,fun j l' hj=>?_⟩
 rcases j with _|j
 ·simp only[List.getElem?_cons_zero,Option.some.injEq] at hj
  subst hj
  exact⟨A,c,rfl,hl,h.keep (T:=fun _=>True) trivial trivial (.of_grown (Grown.alloc _ _))⟩
 ·simp at hj
section
variable {P:Program}
theorem step_app_row3 {w:World} {ops:Array Oper} {o:Oper} {a:Act} {K:Act→World→Prop} {Q:Exit→Act→World→Prop} {E:Prop} (hgd:o.guard=none) (s x:Operand)
  (ho:o.op=.call { callee:=.builtin .append,args:=#[s,x],argTypes:=#[67,67] }) (base:Nat) (ht:P.underlying 67=some (.slice 32)) (hi:(P.info? 32).map (fun i=>(i.zero,i.size,i.bytes))=some (some (.slice none 0 0),1,24))
  {A:Option Addr} {c:Nat} {xs:List (List (List Int))} (hs:a.eval s=.slice A xs.length c) (hR:Row3 w base A c xs) {B:Option Addr} {BB m c2:Nat} {ys:List (List (List Int))} {cs:List Value} (hx:a.eval x=.slice B m c2) (hm:m=ys.length) (hr:L.Reads w BB 1 B m cs) (hc:Cells3 w ys cs) (hlen:xs.length+ys.length≤1000000) (hbase:base≤w.heap.size)
  (h:∀ A2 c3 w',Row3 w' base A2 c3 (xs++ys)→w.grownBy w' (Value.slice A xs.length c).ownBlock→K (a.put o.dst (.slice A2 (xs++ys).length c3)) w'):if Region.wanted o (yielded ops a.tmps)=true then Oper.wp P o a w K Q else E:=by
 rw[if_pos (show Region.wanted o (yielded ops a.tmps)=true by simp[Region.wanted,hgd])]
 subst hm
 obtain⟨i,h1,h2,h3,h4⟩:=info_parts hi
 obtain⟨cells,hrow,hcells⟩:=hR
 refine L.wp_append_any w s x 67 ho base 32 i _ 1 24 ht h1 h2 h3 h4 rfl (by omega) (.slice A xs.length c) xs.length cells hs hrow BB B ys.length c2 cs hx hr hc.one (by simp only[maxLen];omega) (by omega) hbase ?_
 intro v' w' hown' hg _
 obtain⟨A2,c3,rfl⟩:=L.own_slice hown'
 have k:Tags (fun t=>t≠32) w w':=.of_row hg fun b hb=>by
  obtain⟨cs',hc'⟩:=jj hrow hb
  exact⟨cs',32,hc',fun e=>e rfl⟩
 rw[← List.length_append] at hown' ⊢
 exact h A2 c3 w' ⟨cells++cs,hown',(hcells.keep (by decide) (by decide) k).append (hc.keep (by decide) (by decide) k)⟩ hg
end
def mostN (K:Kt) (h g:Nat):Nat:=if (hlAt K.hauls h).prices.getD g 0=0 then 0 else (gdAt K.goods g).room.toNat
def rowsL (K:Kt) (h:Nat):Nat→List (List Int)
 | 0=>[[]]
 | g+1=>(rowsL K h g).flatMap fun r=>(List.range (mostN K h g+1)).map fun (n:Nat)=>r++[(n:Int)]
def allL (K:Kt):Nat→List (List (List Int))
 | 0=>[[]]
 | h+1=>(allL K h).flatMap fun l=>(rowsL K h K.goods.length).map fun r=>l++[r]
theorem rowsL_len {K:Kt} {h:Nat} : ∀ {g:Nat},∀ r∈rowsL K h g,r.length=g
 | 0,r,hr=>by simp[rowsL] at hr;rw[hr];rfl
 | g+1,r,hr=>by
  unfold rowsL at hr
  obtain⟨r0,h0,h1⟩:=List.mem_flatMap.1 hr
  obtain⟨n,_,rfl⟩:=List.mem_map.1 h1
  simp[rowsL_len r0 h0]
theorem allL_len {K:Kt} : ∀ {h:Nat},∀ l∈allL K h,l.length=h
 | 0,l,hl=>by simp[allL] at hl;rw[hl];rfl
 | h+1,l,hl=>by
  unfold allL at hl
  obtain⟨r0,h0,h1⟩:=List.mem_flatMap.1 hl
  obtain⟨n,_,rfl⟩:=List.mem_map.1 h1
  simp[allL_len r0 h0]
theorem flat_count {α β : Type} {f : α→List β} {m:Nat} : ∀ {l:List α},(∀ x∈l,(f x).length≤m)→(l.flatMap f).length≤l.length*m
 | [],_=>by simp
 | x::l,h=>by
  rw[List.flatMap_cons,List.length_append,List.length_cons,Nat.succ_mul]
  have:=h x (by simp)
  have:=flat_count (l:=l) fun y hy=>h y (by simp[hy])
  omega
theorem rowsL_count {K:Kt} {h:Nat} (hr:∀ g,mostN K h g≤3):∀ g:Nat,(rowsL K h g).length≤4 ^ g
 | 0=>by simp[rowsL]
 | g+1=>by
  unfold rowsL
  have h1:=flat_count (l:=rowsL K h g) (f:=fun r=>(List.range (mostN K h g+1)).map fun (n:Nat)=>r++[(n:Int)]) (m:=4) fun x _=>by
   have:=hr g
   simp
   omega
  have h2:=rowsL_count hr g
  rw[Nat.pow_succ]
  omega
theorem allL_count {K:Kt} (hr:∀ h g,mostN K h g≤3) (hg:K.goods.length≤2):∀ h:Nat,(allL K h).length≤16 ^ h
 | 0=>by simp[allL]
 | h+1=>by
  unfold allL
  have hc:=rowsL_count (hr h) K.goods.length
  have h4 : 4 ^ K.goods.length≤4 ^ 2:=Nat.pow_le_pow_right (by decide) hg
  have h1:=flat_count (l:=allL K h) (f:=fun l=>(rowsL K h K.goods.length).map fun r=>l++[r]) (m:=16) fun x _=>by
   simp
   omega
  have h2:=allL_count hr hg h
  rw[Nat.pow_succ]
  omega
end
section
open Go Go.Par Go.Proofs Go.RowKit
structure USt (V W:World) (tp:Nat) (ls:List (List Int)) (A:Option Addr) (c:Nat):Prop where
 row:LdList W V.heap.size tp A c ls
 gr:Grown V W
 top:tp≤W.heap.size
section
variable {fs:Array Func} [LikeS fs]
end
end
section
open Go Go.Par Go.Proofs Go.RowKit
section
variable {fs:Array Func} [LikeS fs]
end
end
section
open Go Go.Par Go.Proofs Go.RowKit
section
variable (D:Good1) (ld:Nat→Nat)
end
section
variable {Ds:List Good1} {ls:List (List Int)}
end
end
end Go.Gal
