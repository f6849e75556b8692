/- The door: a law over kitchens, menus, loads and numbers that answers true, from its contract on S, in masked memory, to its row. Operations of a drawn region that come up in any order .. -/
import Derived.Test.YtlgiofglcgbjgaaM40
import Derived.Test.YtlgiofglcgbjgaaM41
import Derived.Deep.Slices
import Derived.Deep.Strs
namespace Go.Gal
open Go Go.Par Go.Proofs Go.RowKit
section
open Go.ChangeShapes Go.WideShapes Go.ChangeAt Go.Deep
def Ken (W:World) (v:Value):Prop:=VRel (idS (Seen W)) v v
noncomputable def masked (W:World) (t:Nat→Question→Nat):World:={ maskS (Seen W) W with tape:=t }
theorem zbG {W:World} {a:Addr} {v:Value} (h:W.cell? a=some v):Seen W a.block:=by
 unfold World.cell? at h
 split at h
 ·rename_i c t m hc
  exact⟨_,_,_,hc⟩
 ·cases h
theorem jA {W:World} {a:Addr} {v:Value} (h:W.cell? a=some v) (hv:Ken W v) (t:Nat→Question→Nat):(masked W t).cell? a=some v:=Ju (N:=Seen W) (zbG h) h hv
section
variable {H:Type} {enc:TypeId×Value→H} {W:World} {held:Bool}
set_option maxRecDepth 100000 in
theorem QU {α : Type} (q0 : α) {t e sz:Nat} (ht:Try.prog.underlying t=some (.slice e)) (hc:Try.prog.cellsOf e=sz) (hsz : 0<sz) (Rep : α→List Value→Prop)
  (hopen:∀ (fuel:Nat) (cs:List Value) (x:DataW H×List MemPlace),cs.length=sz→DataW.trod enc Try.prog W 0 (fun _=>true) held fuel e cs=some x→∃ q,Rep q cs)
  {fuel:Nat} {cs:List Value} {x:DataW H×List MemPlace} (h:DataW.trod enc Try.prog W 0 (fun _=>true) held fuel t cs=some x) :
  ∃ (A:Option Addr) (cp:Nat) (ts:List α),cs=[.slice A ts.length cp]∧Ken W (.slice A ts.length cp)∧ts.length≤maxLen ∧
   ∀ (k:Nat) (q : α),ts[k]?=some q→∃ b off cs',A=some ⟨b,off,none⟩∧Rep q cs'∧cs'.length=sz∧∀ (j:Nat) v,cs'[j]?=some v→W.cell? ⟨b,off+(k*sz+j),none⟩=some v:=by
 rcases open_slice ht h with ⟨hcs,hx⟩|⟨a,len,cap,m,n,D,Pp,rfl,hb,hl,hm,hmm,rfl,hx⟩
 ·exact⟨none,0,[],by rw[hcs];rfl,.slice _ _ .none,by simp,fun k t hk=>by simp at hk⟩
 ·simp only[if_true] at hmm
  subst hmm
  rw[hc] at hx
  obtain⟨b,off,spot⟩:=a
  have hsp : 0<m→spot=none:=fun h0=>by
   obtain⟨cs',h1,_⟩:=hx 0 h0
   obtain⟨_,hlen,hcell⟩:=World.cells?_some h1
   have h2:=hcell 0 hsz
   rw[List.getElem?_eq_getElem (by omega)] at h2
   simpa[Addr.add] using World.cell?_spot h2
  have each:∀ i,i<m→∃ y : α×List Value,Rep y.1 y.2∧y.2.length=sz∧∀ (j:Nat) v,y.2[j]?=some v→W.cell? ⟨b,off+(i*sz+j),none⟩=some v:=fun i hi=>by
   obtain rfl:=hsp (by omega)
   obtain⟨cs',h1,h2⟩:=hx i hi
   obtain⟨_,hlen,hcell⟩:=World.cells?_some h1
   obtain⟨q,hq⟩:=hopen _ _ _ hlen h2
   refine⟨⟨q,cs'⟩,hq,hlen,fun j v hj=>?_⟩
   have hjl:j<sz:=by
    have h9:j<cs'.length:=(List.getElem?_eq_some_iff.1 hj).1
    omega
   have:=hcell j hjl
   rw[add_plain,add_plain,hj] at this
   rw[Nat.add_assoc] at this
   exact this
  have:Inhabited (α×List Value):=⟨⟨q0,[]⟩⟩
  obtain⟨q,hq⟩:=choose_lt each
  refine⟨some ⟨b,off,spot⟩,m,(List.range len).map fun i=>(q i).1,by simp,?_,by simp;omega,fun k t hk=>?_⟩
  ·simp only[List.length_map,List.length_range]
   rcases Nat.eq_zero_or_pos m with h0|h0
   ·obtain rfl:len=0:=by omega
    subst h0
    exact .empty
   ·obtain rfl:=hsp h0
    obtain⟨_,h2,h3⟩:=hq 0 h0
    have h4:=zbG (h3 0 _ (List.getElem?_eq_getElem (by omega)))
    exact .slice _ _ (.some ⟨⟨rfl,h4⟩,rfl,rfl⟩)
  ·have hkl:k<len:=by
    have:=(List.getElem?_eq_some_iff.1 hk).1
    simpa using this
   obtain rfl:=hsp (by omega)
   have htq:(q k).1=t:=by
    rw[List.getElem?_map,List.getElem?_range hkl] at hk
    injection hk
   obtain⟨h1,h2,h3⟩:=hq k (by omega)
   rw[htq] at h1
   exact⟨b,off,_,rfl,h1,h2,h3⟩
theorem cells_ints:Try.prog.cellsOf 22=1:=by kernel_rfl
theorem zdr:Try.prog.cellsOf 42=4:=by kernel_rfl
theorem zdq:Try.prog.cellsOf 46=3:=by kernel_rfl
theorem zds:Try.prog.cellsOf 48=1:=by kernel_rfl
theorem cells_kt:Try.prog.cellsOf 29=3:=by kernel_rfl
def shape (P:Program) (t:TypeId):Option (List (TypeId×Nat)):=match P.underlying t with
 | some (.struct fs)=>some (fs.toList.map fun f=>(f.type,f.offset))
 | _=>none
theorem shape_gd:shape Try.prog 42=some [(3,0),(3,1),(3,2),(3,3)]:=by kernel_rfl
theorem shape_hl:shape Try.prog 46=some [(3,0),(3,1),(22,2)]:=by kernel_rfl
theorem shape_ds:shape Try.prog 48=some [(22,0)]:=by kernel_rfl
theorem shape_kt:shape Try.prog 29=some [(25,0),(26,1),(27,2)]:=by kernel_rfl
set_option maxRecDepth 100000 in
theorem ZT {t:TypeId} {l:List (TypeId×Nat)} {fuel:Nat} {cs:List Value} {x:DataW H×List MemPlace} (hs:shape Try.prog t=some l) (h:DataW.trod enc Try.prog W 0 (fun _=>true) held fuel t cs=some x) :
  cs.length=Try.prog.cellsOf t∧∃ n:Nat,∀ (i:Nat) (f:TypeId×Nat),l[i]?=some f→∃ y,DataW.trod enc Try.prog W 0 (fun _=>true) held n f.1 ((cs.drop f.2).take (Try.prog.cellsOf f.1))=some y:=by
 unfold shape at hs
 split at hs
 ·rename_i fs hu
  injection hs with hs
  obtain⟨xs,n,_,rfl,hl,hxl,hf⟩:=DataW.trod_struct hu h
  refine⟨hl,n,fun i f hi=>?_⟩
  rw[← hs,List.getElem?_map] at hi
  cases hfi:fs.toList[i]? with
  | none=>rw[hfi] at hi;cases hi
  | some g =>
   rw[hfi] at hi
   injection hi with hi
   subst hi
   have hg:fs[i]?=some g:=by rw[← Array.getElem?_toList];exact hfi
   have hlt:i<xs.length:=by rw[hxl];exact (Array.getElem?_eq_some_iff.1 hg).1
   exact⟨xs[i],by rw[hf i g hg,List.getElem?_eq_getElem hlt]⟩
 ·cases hs
theorem jj {cs:List Value} {i n:Nat} {v:Value} (h:(cs.drop i).take n=[v]):cs[i]?=some v:=by
 cases n with
 | zero=>simp at h
 | succ n =>
  have:(cs.drop i)[0]?=some v:=by
   cases hd:cs.drop i with
   | nil=>rw[hd] at h;simp at h
   | cons a l=>rw[hd] at h;simp at h;simp[h.1]
  simpa using this
def IntsV (W:World) (d:List Int) (v:Value):Prop:=∃ A c,v=.slice A d.length c∧Ken W v∧d.length≤maxLen∧∀ t,Ints (masked W t) A d
set_option maxRecDepth 100000 in
theorem Qa {fuel:Nat} {cs:List Value} {x:DataW H×List MemPlace} (h:DataW.trod enc Try.prog W 0 (fun _=>true) held fuel 22 cs=some x):∃ d v,cs=[v]∧IntsV W d v:=by
 obtain⟨A,cp,ts,e,hk,hl,hc⟩:=QU (0:Int) Try.underlying22 cells_int (by decide) (fun q cs=>cs=[.int .i64 q]) (fun fuel cs x _ h=>by
  obtain⟨k,hk,_⟩:=DataW.trod_int Try.underlying3 h
  exact⟨k,hk⟩) h
 refine⟨ts,_,e,A,cp,rfl,hk,hl,fun t k q hq=>?_⟩
 obtain⟨b,off,cs',e1,rfl,_,h3⟩:=hc k q hq
 have:=h3 0 _ rfl
 rw[Nat.mul_one,Nat.add_zero] at this
 exact⟨b,off,e1,jA this (.int _ _) t⟩
set_option maxRecDepth 100000 in
theorem open_gd {fuel:Nat} {cs:List Value} {x:DataW H×List MemPlace} (h:DataW.trod enc Try.prog W 0 (fun _=>true) held fuel 42 cs=some x):∃ g:Gd,cs=[.int .i64 g.room,.int .i64 g.reserve,.int .i64 g.melts,.int .i64 g.start]:=by
 obtain⟨hl,n,hf⟩:=ZT shape_gd h
 rw[zdr] at hl
 obtain⟨_,g0⟩:=hf 0 (3,0) rfl
 obtain⟨_,g1⟩:=hf 1 (3,1) rfl
 obtain⟨_,g2⟩:=hf 2 (3,2) rfl
 obtain⟨_,g3⟩:=hf 3 (3,3) rfl
 obtain⟨k0,e0,_⟩:=DataW.trod_int Try.underlying3 g0
 obtain⟨k1,e1,_⟩:=DataW.trod_int Try.underlying3 g1
 obtain⟨k2,e2,_⟩:=DataW.trod_int Try.underlying3 g2
 obtain⟨k3,e3,_⟩:=DataW.trod_int Try.underlying3 g3
 have h0:=jj e0
 have h1:=jj e1
 have h2:=jj e2
 have h3:=jj e3
 refine⟨⟨k0,k1,k2,k3⟩,?_⟩
 match cs,hl with
 | [v0,v1,v2,v3],_ =>
  simp at h0 h1 h2 h3
  subst h0 h1 h2 h3
  rfl
set_option maxRecDepth 100000 in
theorem open_ds {fuel:Nat} {cs:List Value} {x:DataW H×List MemPlace} (h:DataW.trod enc Try.prog W 0 (fun _=>true) held fuel 48 cs=some x):∃ d v,cs=[v]∧IntsV W d v:=by
 obtain⟨hl,n,hf⟩:=ZT shape_ds h
 rw[zds] at hl
 obtain⟨_,g0⟩:=hf 0 (22,0) rfl
 obtain⟨d,v,e0,hv⟩:=Qa g0
 have h0:=jj e0
 refine⟨d,v,?_,hv⟩
 match cs,hl with
 | [v0],_ =>
  simp at h0
  rw[h0]
set_option maxRecDepth 100000 in
theorem open_hl {fuel:Nat} {cs:List Value} {x:DataW H×List MemPlace} (h:DataW.trod enc Try.prog W 0 (fun _=>true) held fuel 46 cs=some x):∃ (g:Hl) (v:Value),cs=[.int .i64 g.hours,.int .i64 g.covers,v]∧IntsV W g.prices v:=by
 obtain⟨hl,n,hf⟩:=ZT shape_hl h
 rw[zdq] at hl
 obtain⟨_,g0⟩:=hf 0 (3,0) rfl
 obtain⟨_,g1⟩:=hf 1 (3,1) rfl
 obtain⟨_,g2⟩:=hf 2 (22,2) rfl
 obtain⟨k0,e0,_⟩:=DataW.trod_int Try.underlying3 g0
 obtain⟨k1,e1,_⟩:=DataW.trod_int Try.underlying3 g1
 obtain⟨d,v,e2,hv⟩:=Qa g2
 have h0:=jj e0
 have h1:=jj e1
 have h2:=jj e2
 refine⟨⟨k0,k1,d⟩,v,?_,hv⟩
 match cs,hl with
 | [v0,v1,v2],_ =>
  simp at h0 h1 h2
  subst h0 h1 h2
  rfl
def KtV (W:World) (v:Value):Prop:=∃ K gA dA hA gc dc hc,v=ktV K gA dA hA gc dc hc∧Ken W v∧∀ t,KtRaw (masked W t) K gA dA hA
def RowsV (W:World) (v:Value):Prop:=∃ ls A c,v=.slice A (List.length (α:=List Int) ls) c∧Ken W v∧∀ t,RowsRaw (masked W t) A ls
set_option maxRecDepth 100000 in
theorem open_gds {fuel:Nat} {cs:List Value} {x:DataW H×List MemPlace} (h:DataW.trod enc Try.prog W 0 (fun _=>true) held fuel 25 cs=some x):∃ (gs:List Gd) (A:Option Addr) (c:Nat),cs=[.slice A gs.length c]∧Ken W (.slice A gs.length c)∧∀ t,GdsAt (masked W t) A gs:=by
 obtain⟨A,cp,ts,e,hk,hl,hc⟩:=QU (⟨0,0,0,0⟩:Gd) Try.underlying25 zdr (by decide) (fun g cs=>cs=[.int .i64 g.room,.int .i64 g.reserve,.int .i64 g.melts,.int .i64 g.start]) (fun fuel cs x _ h=>open_gd h) h
 refine⟨ts,A,cp,e,hk,fun t k q hq=>?_⟩
 obtain⟨b,off,cs',e1,rfl,_,h3⟩:=hc k q hq
 have c0:=h3 0 _ rfl
 have c1:=h3 1 _ rfl
 have c2:=h3 2 _ rfl
 have c3:=h3 3 _ rfl
 simp only[Nat.add_zero,← Nat.add_assoc] at c0 c1 c2 c3
 exact⟨b,off,e1,jA c0 (.int _ _) t,jA c1 (.int _ _) t,jA c2 (.int _ _) t,jA c3 (.int _ _) t⟩
set_option maxRecDepth 100000 in
theorem zaB {ty e:TypeId} (ht:Try.prog.underlying ty=some (.slice e)) (hc1:Try.prog.cellsOf e=1) (hopen:∀ (fuel:Nat) (cs:List Value) (x:DataW H×List MemPlace),DataW.trod enc Try.prog W 0 (fun _=>true) held fuel e cs=some x→∃ d v,cs=[v]∧IntsV W d v)
  {fuel:Nat} {cs:List Value} {x:DataW H×List MemPlace} (h:DataW.trod enc Try.prog W 0 (fun _=>true) held fuel ty cs=some x):∃ (ls:List (List Int)) (A:Option Addr) (c:Nat),cs=[.slice A ls.length c]∧Ken W (.slice A ls.length c)∧∀ t,RowsRaw (masked W t) A ls:=by
 obtain⟨A,cp,ts,e,hk,hl,hc⟩:=QU ([]:List Int) ht hc1 (by decide) (fun d cs=>∃ v,cs=[v]∧IntsV W d v) (fun fuel cs x _ h=>hopen fuel cs x h) h
 refine⟨ts,A,cp,e,hk,fun t k q hq=>?_⟩
 obtain⟨b,off,cs',e1,⟨v,rfl,iA,ic,rfl,hv,_,hi⟩,_,h3⟩:=hc k q hq
 have c0:=h3 0 _ rfl
 simp only[Nat.add_zero,Nat.mul_one] at c0
 exact⟨b,off,e1,iA,ic,jA c0 hv t,hi t⟩
set_option maxRecDepth 100000 in
theorem open_hls {fuel:Nat} {cs:List Value} {x:DataW H×List MemPlace} (h:DataW.trod enc Try.prog W 0 (fun _=>true) held fuel 27 cs=some x):∃ (gs:List Hl) (A:Option Addr) (c:Nat),cs=[.slice A gs.length c]∧Ken W (.slice A gs.length c)∧∀ t,zeN (masked W t) A gs:=by
 obtain⟨A,cp,ts,e,hk,hl,hc⟩:=QU (⟨0,0,[]⟩:Hl) Try.underlying27 zdq (by decide) (fun g cs=>∃ v,cs=[.int .i64 g.hours,.int .i64 g.covers,v]∧IntsV W g.prices v) (fun fuel cs x _ h=>open_hl h) h
 refine⟨ts,A,cp,e,hk,fun t k q hq=>?_⟩
 obtain⟨b,off,cs',e1,⟨v,rfl,iA,ic,rfl,hv,_,hi⟩,_,h3⟩:=hc k q hq
 have c0:=h3 0 _ rfl
 have c1:=h3 1 _ rfl
 have c2:=h3 2 _ rfl
 simp only[Nat.add_zero,← Nat.add_assoc] at c0 c1 c2
 exact⟨b,off,e1,iA,ic,jA c0 (.int _ _) t,jA c1 (.int _ _) t,jA c2 hv t,hi t⟩
set_option maxRecDepth 100000 in
theorem open_kt {fuel:Nat} {cs:List Value} {x:DataW H×List MemPlace} (h:DataW.trod enc Try.prog W 0 (fun _=>true) held fuel 29 cs=some x):KtV W (.agg cs.toArray):=by
 obtain⟨hl,n,hf⟩:=ZT shape_kt h
 rw[cells_kt] at hl
 obtain⟨_,g0⟩:=hf 0 (25,0) rfl
 obtain⟨_,g1⟩:=hf 1 (26,1) rfl
 obtain⟨_,g2⟩:=hf 2 (27,2) rfl
 obtain⟨gs,gA,gc,e0,k0,a0⟩:=open_gds g0
 obtain⟨ds,dA,dc,e1,k1,a1⟩:=zaB Try.underlying26 zds (fun _ _ _ h=>open_ds h) g1
 obtain⟨hs,hA,hc,e2,k2,a2⟩:=open_hls g2
 have h0:=jj e0
 have h1:=jj e1
 have h2:=jj e2
 have he:cs=[.slice gA gs.length gc,.slice dA ds.length dc,.slice hA hs.length hc]:=by
  match cs,hl with
  | [v0,v1,v2],_ =>
   simp at h0 h1 h2
   subst h0 h1 h2
   rfl
 subst he
 refine⟨⟨gs,ds,hs⟩,gA,dA,hA,gc,dc,hc,rfl,.agg rfl fun i u v hu hv=>?_,fun t=>⟨a0 t,a1 t,a2 t⟩⟩
 rw[hu] at hv
 cases hv
 match i,hu with
 | 0,hu=>cases hu;exact k0
 | 1,hu=>cases hu;exact k1
 | 2,hu=>cases hu;exact k2
 | i+3,hu=>simp at hu
def zdM (W:World) (t:TypeId) (v:Value):Prop:=Ken W v∧((t=29∧KtV W v)∨(t=3∧∃ k:Int,v=.int .i64 k)∨(t=22∧∃ d,IntsV W d v)∨(t=32∧RowsV W v))
set_option maxRecDepth 100000 in
theorem opened_of {t:TypeId} {v:Value} {d:DataW H} {ps:List MemPlace} (ht:t=29∨t=3∨t=22∨t=32) (hval:∃ b,Value.okWide Try.prog W .any b t v) (h:DataW.Trod enc Try.prog W 0 (fun _=>true) true t v d ps):zdM W t v:=by
 obtain⟨b0,hval⟩:=hval
 obtain⟨fuel,h⟩:=h
 rcases ht with rfl|rfl|rfl|rfl
 ·obtain⟨cs,rfl,hsz⟩:∃ cs,v=.agg cs∧cs.size=Try.prog.cellsOf 29:=by
   unfold Value.okWide at hval
   rw[Try.underlying29] at hval
   obtain⟨cs,h1,h2,_⟩:=hval
   exact⟨cs,h1,h2⟩
  have h:DataW.trod enc Try.prog W 0 (fun _=>true) true fuel 29 cs.toList=some (d,ps):=by simpa[Value.cells] using h
  have:=open_kt h
  rw[Array.toArray_toList] at this
  obtain⟨K,gA,dA,hA,gc,dc,hc,e,k,r⟩:=this
  exact⟨k,.inl ⟨rfl,K,gA,dA,hA,gc,dc,hc,e,k,r⟩⟩
 ·obtain⟨k,rfl⟩:=okWide_int Try.underlying3 hval
  exact⟨.int _ _,.inr (.inl ⟨rfl,k,rfl⟩)⟩
 ·obtain⟨a,len,cap,rfl⟩:=okWide_slice Try.underlying22 hval
  have h:DataW.trod enc Try.prog W 0 (fun _=>true) true fuel 22 [.slice a len cap]=some (d,ps):=by simpa[Value.cells] using h
  obtain⟨l,v,e,A,c,rfl,h2,h3⟩:=Qa h
  injection e with e _
  rw[e]
  exact⟨h2,.inr (.inr (.inl ⟨rfl,l,A,c,rfl,h2,h3⟩))⟩
 ·obtain⟨a,len,cap,rfl⟩:=okWide_slice Try.underlying32 hval
  have h:DataW.trod enc Try.prog W 0 (fun _=>true) true fuel 32 [.slice a len cap]=some (d,ps):=by simpa[Value.cells] using h
  obtain⟨ls,A,c,e,h2,h3⟩:=zaB Try.underlying32 cells_ints (fun _ _ _ h=>Qa h) h
  injection e with e _
  rw[e]
  exact⟨h2,.inr (.inr (.inr ⟨rfl,ls,A,c,rfl,h2,h3⟩))⟩
set_option maxRecDepth 100000 in
theorem zdy {W':World} {sp:Nat→Bool} : ∀ {ts:List TypeId} {vs:List Value} {ds:List (DataW H)} {ps:List MemPlace},(∀ t∈ts,Try.prog.readableRec t=true∧t<Try.prog.types.size) →
  DataW.TrodAll enc Try.prog W 0 (fun _=>true) true ts vs ds ps→(∀ p∈ps,W.sameAt W' p)→(∀ p∈ps,sp p.block=true)→DataW.TrodAll enc Try.prog W' 0 sp true ts vs ds ps
 | [],[],[],_,_,h,_,_=>h
 | t::ts,v::vs,d::ds,_,ht,⟨p,q,h1,h2,rfl⟩,hs,hp =>
  ⟨p,q,WideElems.Trod_stays laid_out (ht t (by simp)).1 (ht t (by simp)).2 h1 (fun x hx=>hs x (by simp[hx])) (fun x hx=>hp x (by simp[hx])),
   zdy (fun u hu=>ht u (by simp[hu])) h2 (fun x hx=>hs x (by simp[hx])) (fun x hx=>hp x (by simp[hx])),rfl⟩
set_option maxRecDepth 100000 in
theorem zbv:∀ {ts:List TypeId} {vs:List Value} {ds:List (DataW H)} {ps:List MemPlace},(∀ t∈ts,t=29∨t=3∨t=22∨t=32)→(∀ (j:Nat) t v,ts[j]?=some t→vs[j]?=some v→∃ b,Value.okWide Try.prog W .any b t v) →
  DataW.TrodAll enc Try.prog W 0 (fun _=>true) true ts vs ds ps→vs.length=ts.length∧ds.length=ts.length∧∀ (j:Nat) t v,ts[j]?=some t→vs[j]?=some v→zdM W t v
 | [],[],[],_,_,_,_=>⟨rfl,rfl,fun j t v h=>by simp at h⟩
 | t::ts,v::vs,d::ds,_,ht,hv,⟨p,q,h1,h2,rfl⟩=>by
  obtain⟨a,b,c⟩:=zbv (fun u hu=>ht u (by simp[hu])) (fun j t v h1 h2=>hv (j+1) t v (by simpa using h1) (by simpa using h2)) h2
  refine⟨by simp[a],by simp[b],fun j u x hj hx=>?_⟩
  cases j with
  | zero =>
   simp at hj hx
   subst hj hx
   exact opened_of (ht t (by simp)) (hv 0 t v rfl rfl) h1
  | succ j=>exact c j u x (by simpa using hj) (by simpa using hx)
end
def zdz (F:FuncId) (ts:List TypeId):Prop:=∀ (vs:List Value) (W:World) (tp:Nat→Question→Nat),vs.length=ts.length→(∀ (j:Nat) t v,ts[j]?=some t→vs[j]?=some v→zdM W t v) →
 Calls S F vs.toArray (masked W tp) fun e _=>e=.returned (.bool true)
set_option maxRecDepth 100000 in
theorem door_runs {F:FuncId} {fn:Func} {s:ChangeSpec} {apart fresh handsOn again:Bool} (hF:¬ FSt F) (hini:Try.prog.inits.idxOf? F=none) (hp:∀ t∈fn.params.toList,t=29∨t=3∨t=22∨t=32) (hrow:∀ t∈fn.params.toList,Try.prog.readableRec t=true∧t<Try.prog.types.size) (hr:fn.resultTypes=#[4]) (hv:s.vars=[])
  (hs:∀ (H:Type) (ds:List (DataW H)),ds.length=fn.params.size→(s.fn H ds).results=[.lit (.bool true)]∧(s.fn H ds).args=ds∧(s.fn H ds).vars=[]) (hw:zdz F fn.params.toList)
  (H:Type) (enc:TypeId×Value→H) (W:World) (base:Nat) (args:Array Value) (ds gs:List (DataW H)) (before:List MemPlace)
  (hval:∀ (j:Nat) t v,fn.params[j]?=some t→args[j]?=some v→Value.okWide Try.prog W .any base t v)
  (hW:DataW.Whole enc Try.prog fn.params.toList s.vars apart W args.toList ds gs before) :
  ∃ M last o w' t',runNT Try.prog (M+1) (Go.Conc.solo (Go.Conc.G (Frame.enter Try.prog F args .normal) []) W) #[]=(.ended o w',t')∧runN Try.prog M (Go.Conc.solo (Go.Conc.G (Frame.enter Try.prog F args .normal) []) W)=.next last ∧
   step Try.prog last=.ended o w'∧Go.Conc.Good Try.prog (fun v W'=>s.post enc Try.prog fn apart fresh handsOn again W args v W') last o w' t':=by
 have hW':=hW
 obtain⟨p,q,hA,hV,rfl,hfz,hnd⟩:=hW
 rw[hv] at hV
 obtain⟨rfl,rfl⟩:=trodVars_none hV
 simp only[List.append_nil] at hW'
 have hlt:∀ x∈p,x.block<W.heap.size:=fun x hx=>by simpa using hW'.lt x hx
 obtain⟨h1,h2,h3⟩:=zbv hp (fun j t v ht hv=>⟨base,hval j t v (by rw[← Array.getElem?_toList];exact ht) (by rw[← Array.getElem?_toList];exact hv)⟩) hA
 have hrel:VsRel (idS (Seen W)) args args:=by
  refine⟨rfl,fun i x y hx hy=>?_⟩
  rw[hx] at hy
  cases hy
  rw[← Array.getElem?_toList] at hx
  have hi:i<fn.params.toList.length:=by
   rw[← h1]
   exact (List.getElem?_eq_some_iff.1 hx).1
  exact (h3 i _ x (List.getElem?_eq_getElem hi) hx).1
 obtain⟨M,last,o,w',t',e1,e2,e3,e4⟩:=law_runs cheapOn_S cheapOn_Sw hF hini (fun _ h=>h) (by rw[no_globals];exact Nat.zero_le _) hrel fun t=>by
  have:=hw args.toList W t h1 h3
  rwa [Array.toArray_toList] at this
 refine⟨M,last,o,w',t',e1,e2,e3,e4.mono fun v hv1=>?_⟩
 obtain⟨rfl,g1,g2,g3⟩:=hv1
 have hb:Below W.heap.size W w':=⟨g3.os,g3.tape,g3.output,g1,g2⟩
 obtain⟨f1,f2,f3⟩:=hs H ds (by rw[h2];simp)
 refine post_of_below (pa:=p) (pv:=[]) hW' (fun b sp hd=>?_) (fun sp hsp=>?_) (fun sp _=>?_) (by simp) hb (fun j t r hj hr2=>?_)
 ·rw[hr]
  rw[List.append_nil,f1]
  exact trodAll_cons_mk (shut_bool Try.underlying4 _) trodAll_mk0
 ·rw[List.append_nil,f2]
  exact zdy hrow hA (fun x hx=>hb.same (hlt x hx)) (fun x hx=>hsp x hx)
 ·rw[hv,List.append_nil,f3]
  rfl
 ·exact ok_one hr rfl (okWide_bool_mk Try.underlying4 _) j t r hj hr2
end
end Go.Gal
namespace Go.Gal
open Go.RowKit
section
structure Early where
 i:Nat
 d:Nat
 dep:List Nat
def zab (md:Region.Mode) (ops:Array Oper) (all:List Early) (target:Array Bool):Nat→List Nat→Array Bool→Bool
 | 0,rem,listed=>rem.isEmpty&&listed==target
 | n+1,rem,listed=>!(Region.ready md ops listed).isEmpty&&(Region.ready md ops listed).all fun i=>rem.contains i&&(match all.find? (fun e=>e.i==i) with
  | none=>false
  | some e=>(e.dep.all fun j=>!rem.contains j)&&zab md ops all target n (rem.erase i) (listed.setIfInBounds i true))
section
variable {P:Program} {ops:Array Oper} {Q:Exit→Act→World→Prop} {md:Region.Mode} {S:World→Prop} {late:List Nat}
theorem ZN (all:List Early) (F:Nat→Value→World→Prop) (G:World→Prop) (St:Nat→World→World→Prop) (a:Act) {target:Array Bool} {fuel0:Nat}
  (hi:(all.map (·.i)).Nodup) (hd:(all.map (·.d)).Nodup) (hsz:∀ e∈all,e.d<a.tmps.size) (hGS:∀ w,G w→S w)
  (hst:∀ e∈all,∀ f∈all,∀ v w w',St e.i w w'→F f.i v w→F f.i v w')
  (hop:∀ e∈all,∀ (a':Act) (w':World) (K':Act→World→Prop),(∀ s,(∀ f∈all,f.d≠s)→a'.tmps[s]?=a.tmps[s]?)→a'.defers=a.defers→G w'→(∀ f∈all,f.i∈e.dep→∃ v,a'.tmps[f.d]?=some v∧F f.i v w') →
   Hid (∀ v w'',St e.i w' w''→G w''→F e.i v w''→K' (a'.put (some e.d) v) w'')→wpOp P ops Q e.i K' a' w')
  (hfin:∀ (a':Act) (w':World),(∀ s,(∀ f∈all,f.d≠s)→a'.tmps[s]?=a.tmps[s]?)→a'.defers=a.defers→a'.tmps.size=a.tmps.size→G w' →
   (∀ f∈all,∃ v,a'.tmps[f.d]?=some v∧F f.i v w')→qB P md ops Q S late fuel0 target a' w') :
  ∀ (n:Nat) (rem:List Nat) (listed:Array Bool) (a':Act) (w':World),zab md ops all target n rem listed=true→rem.Nodup→(∀ s,(∀ f∈all,f.d≠s)→a'.tmps[s]?=a.tmps[s]?)→a'.defers=a.defers→a'.tmps.size=a.tmps.size→G w' →
   (∀ f∈all,f.i ∉ rem→∃ v,a'.tmps[f.d]?=some v∧F f.i v w')→qB P md ops Q S late (n+fuel0) listed a' w'
 | 0,rem,listed,a',w',hok,_,hag,hdf,hsa,hG,hF=>by
  rw[Nat.zero_add]
  simp only[zab,Bool.and_eq_true,beq_iff_eq,List.isEmpty_iff] at hok
  obtain⟨rfl,rfl⟩:=hok
  exact hfin a' w' hag hdf hsa hG (fun f hf=>hF f hf (by simp))
 | n+1,rem,listed,a',w',hok,hnd,hag,hdf,hsa,hG,hF=>by
  rw[Nat.add_right_comm]
  simp only[zab,Bool.and_eq_true,List.all_eq_true,Bool.not_eq_true',List.isEmpty_eq_false_iff] at hok
  obtain⟨hne,hok⟩:=hok
  refine⟨fun h=>absurd h hne,fun j hj=>?_⟩
  obtain⟨hrem,hrest⟩:=hok j hj
  have hrem:j∈rem:=by simpa using hrem
  cases he:all.find? (fun e=>e.i==j) with
  | none=>rw[he] at hrest;cases hrest
  | some e =>
   rw[he] at hrest
   have hem:=List.mem_of_find?_eq_some he
   have hej:e.i=j:=by have:=List.find?_some he;simpa using this
   subst hej
   obtain⟨hdep,hrec⟩:=(Bool.and_eq_true _ _▸hrest:_∧_)
   have hdep:=List.all_eq_true.1 hdep
   refine hop e hem a' w' _ hag hdf hG (fun f hf hfd=>?_) ?_
   ·have h1:=hdep f.i hfd
    exact hF f hf (by simpa using h1)
   ·intro v w'' hSt hG'' hFv
    refine⟨fun _ _=>hGS _ hG'',?_⟩
    refine ZN all F G St a hi hd hsz hGS hst hop hfin n (rem.erase e.i) _ _ _ hrec (hnd.erase _) ?_ ?_ ?_ hG'' ?_
    ·intro s hs
     show (a'.tmps.setIfInBounds e.d v)[s]?=_
     rw[Array.getElem?_setIfInBounds_ne (hs e hem)]
     exact hag s hs
    ·exact hdf
    ·show (a'.tmps.setIfInBounds e.d v).size=_
     rw[Array.size_setIfInBounds]
     exact hsa
    ·intro f hf hfr
     by_cases hfe:f.i=e.i
     ·have hfe2:f=e:=by
       obtain⟨k1,hk1,e1⟩:=List.getElem_of_mem hf
       obtain⟨k2,hk2,e2⟩:=List.getElem_of_mem hem
       have:k1=k2:=by
        have h3:(all.map (·.i))[k1]'(by simpa using hk1)=(all.map (·.i))[k2]'(by simpa using hk2):=by simp[e1,e2,hfe]
        exact (List.getElem_inj hi).1 h3
       subst this
       rw[← e1,← e2]
      subst hfe2
      refine⟨v,?_,hFv⟩
      show (a'.tmps.setIfInBounds f.d v)[f.d]?=_
      rw[Array.getElem?_setIfInBounds_self_of_lt (by rw[hsa];exact hsz f hf)]
     ·have hfr2:f.i ∉ rem:=fun h=>hfr ((List.mem_erase_of_ne hfe).2 h)
      obtain⟨u,hu1,hu2⟩:=hF f hf hfr2
      refine⟨u,?_,hst e hem f hf u _ _ hSt hu2⟩
      show (a'.tmps.setIfInBounds e.d v)[f.d]?=_
      have hdd:e.d≠f.d:=fun h=>by
       obtain⟨k1,hk1,e1⟩:=List.getElem_of_mem hf
       obtain⟨k2,hk2,e2⟩:=List.getElem_of_mem hem
       have:k1=k2:=by
        have h3:(all.map (·.d))[k1]'(by simpa using hk1)=(all.map (·.d))[k2]'(by simpa using hk2):=by simp[e1,e2,h]
        exact (List.getElem_inj hd).1 h3
       subst this
       exact hfe (by rw[← e1,← e2])
      rw[Array.getElem?_setIfInBounds_ne hdd]
      exact hu1
theorem zeH {a a':Act} : ∀ (l:List (Nat×Value)),a'.defers=a.defers→a'.tmps.size=a.tmps.size→(∀ s,(∀ x∈l,x.1≠s)→a'.tmps[s]?=a.tmps[s]?)→(l.map (·.1)).Nodup→(∀ x∈l,a'.tmps[x.1]?=some x.2) →
  a'=l.foldl (fun b x=>b.put (some x.1) x.2) a
 | l,hd,hs,hag,hnd,hv=>by
  have key:∀ (l:List (Nat×Value)) (b:Act),(l.map (·.1)).Nodup→b.tmps.size=a'.tmps.size→(∀ x∈l,a'.tmps[x.1]?=some x.2)→(l.foldl (fun b x=>b.put (some x.1) x.2) b).defers=b.defers∧(l.foldl (fun b x=>b.put (some x.1) x.2) b).tmps.size=b.tmps.size ∧
    (∀ s,(∀ x∈l,x.1≠s)→(l.foldl (fun b x=>b.put (some x.1) x.2) b).tmps[s]?=b.tmps[s]?)∧(∀ x∈l,(l.foldl (fun b x=>b.put (some x.1) x.2) b).tmps[x.1]?=some x.2):=by
   intro l
   induction l with
   | nil=>intro b _ _ _;exact⟨rfl,rfl,fun _ _=>rfl,fun x hx=>by simp at hx⟩
   | cons y l ih =>
    intro b hnd hsb hv
    rw[List.map_cons,List.nodup_cons] at hnd
    obtain⟨h1,h2,h3,h4⟩:=ih (b.put (some y.1) y.2) hnd.2 (by show (b.tmps.setIfInBounds _ _).size=_;rw[Array.size_setIfInBounds];exact hsb) (fun x hx=>hv x (by simp[hx]))
    rw[List.foldl_cons]
    refine⟨h1,by rw[h2];show (b.tmps.setIfInBounds _ _).size=_;rw[Array.size_setIfInBounds],fun s hs=>?_,fun x hx=>?_⟩
    ·rw[h3 s (fun x hx=>hs x (by simp[hx]))]
     show (b.tmps.setIfInBounds _ _)[s]?=_
     rw[Array.getElem?_setIfInBounds_ne (hs y (by simp))]
    ·rcases List.mem_cons.1 hx with rfl|hx
     ·rw[h3 x.1 (fun z hz e=>hnd.1 (List.mem_map.2 ⟨z,hz,e⟩))]
      show (b.tmps.setIfInBounds _ _)[x.1]?=_
      have hlt:x.1<b.tmps.size:=by
       rw[hsb]
       exact (Array.getElem?_eq_some_iff.1 (hv x (by simp))).1
      rw[Array.getElem?_setIfInBounds_self_of_lt hlt]
     ·exact h4 x hx
  obtain⟨h1,h2,h3,h4⟩:=key l a hnd hs.symm hv
  have ht:a'.tmps=(l.foldl (fun b x=>b.put (some x.1) x.2) a).tmps:=by
   apply Array.ext_getElem?
   intro s
   by_cases hm:∃ x∈l,x.1=s
   ·obtain⟨x,hx,rfl⟩:=hm
    rw[h4 x hx,hv x hx]
   ·have hm2:∀ x∈l,x.1≠s:=fun x hx e=>hm ⟨x,hx,e⟩
    rw[h3 s hm2,hag s hm2]
  have hdf:a'.defers=(l.foldl (fun b x=>b.put (some x.1) x.2) a).defers:=by rw[h1,hd]
  cases a' with
  | mk t d =>
   simp only at ht hdf
   rw[ht,hdf]
theorem jt {a:Act} {s:Nat} {v:Value} (h:a.tmps[s]?=some v):a.tmps.getD s undef=v:=by
 rw[Array.getD_eq_getD_getElem?,h]
 rfl
end
end
end Go.Gal
namespace Go.Gal
open Go Go.Par Go.Proofs Go.RowKit
section
theorem stood42 {fs:Array Func} : (Pf fs).stoodInHeld 42=false:=by kernel_rfl
theorem guard42 {fs:Array Func} : (Pf fs).eqGuardType (Pf fs).depth 42=false:=by kernel_rfl
theorem fields42 {fs:Array Func} : (Pf fs).underlying 42=some (.struct ((Pf fs).fieldsOf 42)):=by kernel_rfl
theorem eq42 {fs:Array Func} (r s m st:Int) (w:World):(Op.equalIn 10000 42 (.agg #[.int .i64 r,.int .i64 s,.int .i64 m,.int .i64 st]) (.agg #[.int .i64 r,.int .i64 s,.int .i64 m,.int .i64 st])).run (Pf fs) w=.ok true w:=by
 rw[run_equalIn_struct w 9999 42 _ _ fields42 stood42]
 go_simp
section
variable {fs:Array Func} [Like fs]
theorem QB (A B:Option Addr) (ca cb:Nat) (xs:List Int) (w:World) (hx:Ints w A xs) (hy:Ints w B xs) (hl:xs.length≤1000) (n:Nat) :
  Calls (Pf fs) 40 #[.slice A xs.length ca,.slice B xs.length cb] (w.drewN n) fun e w'=>e=.returned (.bool true)∧∃ q,w'=w.drewN q:=by
 have h:=yu (fs:=fs) A B ca cb xs xs (w.drewN n) (hx.grown ((Grown.refl w).drewN n)) (hy.grown ((Grown.refl w).drewN n)) hl hl
 refine h.mono fun _ _ ⟨he,k,hm⟩=>⟨by rw[he];simp,n+k,hm.trans (World.drewN_drewN _ _ _)⟩
set_option maxRecDepth 20000 in
set_option maxHeartbeats 4000000 in
theorem equalK_same (K:Kt) (gA dA hA gB dB hB:Option Addr) (gc dc hc gc2 dc2 hc2:Nat) (w:World) (k:KtAt w K gA dA hA) (k2:KtAt w K gB dB hB) :
  Calls (Pf fs) 39 #[ktV K gA dA hA gc dc hc,ktV K gB dB hB gc2 dc2 hc2] w fun e w'=>e=.returned (.bool true)∧Grown w w':=by
 obtain⟨V,hV⟩:∃ V,V=(w.alloc (.cells #[.slice gA K.goods.length gc,.slice dA K.dishes.length dc,.slice hA K.hauls.length hc] 29)).alloc (.cells #[.slice gB K.goods.length gc2,.slice dB K.dishes.length dc2,.slice hB K.hauls.length hc2] 29):=⟨_,rfl⟩
 have HVG:Hid (Grown w V):=by rw[hV];exact (Grown.alloc _ _).trans (.alloc _ _)
 have HZ:Hid (∀ W,Grown V W→(W.cell? ⟨w.heap.size,0,none⟩=some (.slice gA K.goods.length gc)∧W.cell? ⟨w.heap.size,1,none⟩=some (.slice dA K.dishes.length dc)∧W.cell? ⟨w.heap.size,2,none⟩=some (.slice hA K.hauls.length hc)) ∧
   W.cell? ⟨w.heap.size+1,0,none⟩=some (.slice gB K.goods.length gc2)∧W.cell? ⟨w.heap.size+1,1,none⟩=some (.slice dB K.dishes.length dc2)∧W.cell? ⟨w.heap.size+1,2,none⟩=some (.slice hB K.hauls.length hc2)):=fun W g=>by
  rw[hV] at g
  have h2:=yR (w:=w.alloc (.cells #[.slice gA K.goods.length gc,.slice dA K.dishes.length dc,.slice hA K.hauls.length hc] 29)) W g
  have h1:=yR (w:=w) W ((Grown.alloc _ _).trans g)
  simp only[World.size_alloc] at h2
  exact⟨h1,h2⟩
 have HK:=Lib.hid (k.grown HVG.out)
 have HK2:=Lib.hid (k2.grown HVG.out)
 have HV:=Lib.hid hV
 obtain⟨⟨y0,y1,y2⟩,y3,y4,y5⟩:=HZ.out V (Grown.refl _)
 rw[hV] at y0 y1 y2 y3 y4 y5
 have hng:=k.ng
 have hnd:=k.nd
 have hnh:=k.nh
 clear k k2 hV
 unfold ktV at *
 go_enter LK.func39,Try.ntmps39
 go_wp2_with fail
 rw[← HV.out]
 clear y0 y1 y2 y3 y4 y5 HV
 go_loopw [5,6] (fun v i wr=>∃ k:Nat,k≤K.goods.length∧v=.bool true∧i=.int .i64 k∧Hid (Grown V wr)) (fun _ i _=>K.goods.length-(intOf i).toNat)
 case atStart=>exact⟨0,Nat.zero_le _,rfl,rfl,Lib.hid (Grown.refl _)⟩
 case round =>
  obtain⟨k,hk,rfl,rfl,hgr⟩:=hrel
  obtain⟨⟨y0,y1,y2⟩,y3,y4,y5⟩:=HZ.out wr hgr.out
  clear y2 y5
  by_cases hlt:k<K.goods.length
  ·have hki:(k:Int)<K.goods.length:=by omega
   obtain⟨b,off,rfl,c1,c2,c3,c4⟩:=HK.out.goods k _ (List.getElem?_eq_getElem hlt)
   obtain⟨b2,off2,rfl,d1,d2,d3,d4⟩:=HK2.out.goods k _ (List.getElem?_eq_getElem hlt)
   have e1:=hgr.out.cell c1
   have e2:=hgr.out.cell c2
   have e3:=hgr.out.cell c3
   have e4:=hgr.out.cell c4
   have f1:=hgr.out.cell d1
   have f2:=hgr.out.cell d2
   have f3:=hgr.out.cell d3
   have f4:=hgr.out.cell d4
   clear c1 c2 c3 c4 d1 d2 d3 d4 y1 y4
   generalize K.goods[k]=x at e1 e2 e3 e4 f1 f2 f3 f4
   have q1:=guard42 (fs:=fs)
   have q2:=fun w=>eq42 (fs:=fs) x.room x.reserve x.melts x.start w
   go_wp2_with fail
   go_quiet (fail)
   go_wp2_with fail
   go_roundw
   case rel=>exact⟨k+1,by omega,(by first|rfl|trivial),by go_num,hgr.out.drewN _⟩
   case measure=>simp[intOf];omega
  ·have hki:¬ (k:Int)<K.goods.length:=by omega
   have u1:decide (k<K.goods.length)=false:=by simpa using hlt
   have hg0:=hgr
   go_wp2_with fail
   clear y0 y1 y3 y4
   go_loopw [5,7] (fun v i wz=>∃ k:Nat,k≤K.dishes.length∧v=.bool true∧i=.int .i64 k∧Hid (Grown V wz)) (fun _ i _=>K.dishes.length-(intOf i).toNat)
   case atStart=>exact⟨0,Nat.zero_le _,rfl,rfl,hg0⟩
   case round =>
    clear hgr hg0 hki u1
    obtain⟨j,hj,rfl,rfl,hgr⟩:=hrel
    obtain⟨⟨y0,y1,y2⟩,y3,y4,y5⟩:=HZ.out wr hgr.out
    clear y0 y3
    by_cases hlt:j<K.dishes.length
    ·have hji:(j:Int)<K.dishes.length:=by omega
     obtain⟨b,off,rfl,eA,ec,c1,c2,c3⟩:=HK.out.dishes j _ (List.getElem?_eq_getElem hlt)
     obtain⟨b2,off2,rfl,fA,fc,d1,d2,d3⟩:=HK2.out.dishes j _ (List.getElem?_eq_getElem hlt)
     have e1:=hgr.out.cell c1
     have f1:=hgr.out.cell d1
     have g1:=c2.grown hgr.out
     have g2:=d2.grown hgr.out
     clear c1 c2 d1 d2 y2 y5
     generalize K.dishes[j]=x at e1 f1 g1 g2 c3 d3
     have HQ:=Lib.hid (fun n=>QB (fs:=fs) eA fA ec fc x wr g1 g2 c3 n)
     clear g1 g2
     go_wp2_with fail
     go_quiet ((go_at_call 40;with_reducible refine HQ.out _))
     go_wp2_with fail
     go_roundw
     case rel=>exact⟨j+1,by omega,(by first|rfl|trivial),by go_num,hgr.out.drewN _⟩
     case measure=>simp[intOf];omega
    ·have hji:¬ (j:Int)<K.dishes.length:=by omega
     have u1:decide (j<K.dishes.length)=false:=by simpa using hlt
     have hg0:=hgr
     go_wp2_with fail
     clear y1 y2 y4 y5
     go_loopw [5,8] (fun v i wz=>∃ k:Nat,k≤K.hauls.length∧v=.bool true∧i=.int .i64 k∧Hid (Grown V wz)) (fun _ i _=>K.hauls.length-(intOf i).toNat)
     case atStart=>exact⟨0,Nat.zero_le _,rfl,rfl,hg0⟩
     case round =>
      clear hgr hg0 hji u1
      obtain⟨l,hl,rfl,rfl,hgr⟩:=hrel
      obtain⟨⟨y0,y1,y2⟩,y3,y4,y5⟩:=HZ.out wr hgr.out
      clear y0 y1 y3 y4
      by_cases hlt:l<K.hauls.length
      ·have hli:(l:Int)<K.hauls.length:=by omega
       obtain⟨b,off,rfl,eA,ec,c1,c2,c3,c4,c5⟩:=HK.out.hauls l _ (List.getElem?_eq_getElem hlt)
       obtain⟨b2,off2,rfl,fA,fc,d1,d2,d3,d4,d5⟩:=HK2.out.hauls l _ (List.getElem?_eq_getElem hlt)
       have e1:=hgr.out.cell c1
       have e2:=hgr.out.cell c2
       have e3:=hgr.out.cell c3
       have f1:=hgr.out.cell d1
       have f2:=hgr.out.cell d2
       have f3:=hgr.out.cell d3
       have g1:=c4.grown hgr.out
       have g2:=d4.grown hgr.out
       clear c1 c2 c3 c4 d1 d2 d3 d4
       generalize K.hauls[l]=x at e1 e2 e3 f1 f2 f3 g1 g2 c5 d5
       have HQ:=Lib.hid (fun n=>QB (fs:=fs) eA fA ec fc x.prices wr g1 g2 c5 n)
       clear g1 g2
       go_wp2_with fail
       go_quiet ((go_at_call 40;with_reducible refine HQ.out _))
       go_wp2_with fail
       go_roundw
       case rel=>exact⟨l+1,by omega,(by first|rfl|trivial),by go_num,hgr.out.drewN _⟩
       case measure=>simp[intOf];omega
      ·have hli:¬ (l:Int)<K.hauls.length:=by omega
       have u1:decide (l<K.hauls.length)=false:=by simpa using hlt
       go_wp2_with fail
       go_ret
       exact⟨rfl,HVG.out.trans hgr.out⟩
end
end
end Go.Gal
namespace Go.Gal
section
end
section
open Go Go.Par Go.Proofs Go.RowKit
section
variable {P:Program}
theorem step_app_ints {w:World} {ops:Array Oper} {o:Oper} {a:Act} {K:Act→World→Prop} {Q:Exit→Act→World→Prop} {E:Prop} (hgd:o.guard=none) (s x:Operand) (t:TypeId)
  (ho:o.op=.call { callee:=.builtin .append,args:=#[s,x],argTypes:=#[t,t] })
  (base:Nat) (ht:P.underlying t=some (.slice 3)) (hi:(P.info? 3).map (fun i=>(i.zero,i.size,i.bytes))=some (some (.int .i64 0),1,8))
  (A:Option Addr) (c:Nat) (xs:List Int) (hs:a.eval s=.slice A xs.length c) (hown:L.OwnInts w base A c xs)
  (B:Nat) (A':Option Addr) (c':Nat) (ys:List Int) (hx:a.eval x=.slice A' ys.length c') (hr:L.Ints w B A' ys)
  (hlen:(xs.length+ys.length)*8≤140737488355328) (hbase:base≤w.heap.size)
  (h:∀ A2 c2 w',L.OwnInts w' base A2 c2 (xs++ys)→w.grownBy w' (Value.slice A xs.length c).ownBlock→(A2.map (·.block)=A.map (·.block)∨A2.map (·.block)=some w.heap.size) →
   K (a.put o.dst (.slice A2 (xs++ys).length c2)) w'):if Region.wanted o (yielded ops a.tmps)=true then Oper.wp P o a w K Q else E:=by
 rw[if_pos (show Region.wanted o (yielded ops a.tmps)=true by simp[Region.wanted,hgd])]
 exact Qq s x t ho base ht hi A c xs hs hown B A' c' ys hx hr hlen hbase h
end
end
section
open Go Go.Par Go.Proofs Go.RowKit
def CpK (wr:World) (K:Kt) (v:Value) (W:World):Prop:=∃ gA dA hA gc dc hc,v=ktV K gA dA hA gc dc hc∧KOwn W wr.heap.size K gA gc dA dc hA hc
def CpI (wr:World) (xs:List Int) (v:Value) (W:World):Prop:=∃ A c,v=.slice A xs.length c∧L.OwnInts W wr.heap.size A c xs
def Bx0 (wr:World) (v:Value) (W:World):Prop:=∃ b,v=.pointer (some ⟨b,0,none⟩)∧wr.heap.size≤b∧W.heap[b]?=some (.cells #[.slice none 0 0,.slice none 0 0,.slice none 0 0] 29 (0,0))
theorem CpK.grown {wr W W':World} {K:Kt} {v:Value} (h:CpK wr K v W) (g:Grown W W'):CpK wr K v W':=by
 obtain⟨gA,dA,hA,gc,dc,hc,e,k⟩:=h
 exact⟨gA,dA,hA,gc,dc,hc,e,k.grown g⟩
theorem CpI.grown {wr W W':World} {xs:List Int} {v:Value} (h:CpI wr xs v W) (g:Grown W W'):CpI wr xs v W':=by
 obtain⟨A,c,e,k⟩:=h
 exact⟨A,c,e,qr k g⟩
theorem Bx0.grown {wr W W':World} {v:Value} (h:Bx0 wr v W) (g:Grown W W'):Bx0 wr v W':=by
 obtain⟨b,e,h1,h2⟩:=h
 exact⟨b,e,h1,zf h2 g⟩
theorem CpK.new {K:Kt} {wr w' w'':World} {gA dA hA:Option Addr} {gc dc hc:Nat} (g:Grown wr w') (h:KOwn w'' w'.heap.size K gA gc dA dc hA hc):CpK wr K (ktV K gA dA hA gc dc hc) w'':=by
 obtain⟨m,h1,h2,h3,h4,h5⟩:=h
 exact⟨_,_,_,_,_,_,rfl,m,Nat.le_trans g.size h1,h2,h3.lower g.size,h4.lower g.size,h5⟩
theorem CpI.new {xs:List Int} {wr w' w'':World} {A:Option Addr} {c:Nat} (g:Grown wr w') (h:L.OwnInts w'' w'.heap.size A c xs):CpI wr xs (.slice A xs.length c) w'':=⟨_,_,rfl,qS h g.size⟩
theorem ints_box3 {w:World} {base:Nat} {A:Option Addr} {c:Nat} {xs:List Int} (h:L.OwnInts w base A c xs) {b:Nat} {x y z:Value} (hp:w.heap[b]?=some (.cells #[x,y,z] 29 (0,0))) (u1 u2 u3:Value) :
  Ints (((w.setCell ⟨b,0,none⟩ u1).setCell ⟨b,1,none⟩ u2).setCell ⟨b,2,none⟩ u3) A xs:=fun k v hk=>by
 obtain⟨b',off,e,hc⟩:=yC h k v hk
 obtain⟨cs,ht⟩:=yr h (k:=b') (by rw[qu,e];rfl)
 have hne:b'≠b:=fun e2=>by
  rw[e2,hp] at ht
  cases ht
 refine⟨b',off,e,?_⟩
 rw[World.cell?_setCell_other,World.cell?_setCell_other,World.cell?_setCell_other]
 ·exact hc
 all_goals exact fun e2=>hne (congrArg Addr.block e2).symm
def Lit (g:Nat) (cs:Array Value) (t:TypeId) (n:Nat) (v:Value) (W:World):Prop:=∃ b,v=.slice (some ⟨b,0,none⟩) n n∧b≠g∧W.heap[b]?=some (.cells cs t (0,0))
theorem Lit.kb {g n:Nat} {cs:Array Value} {t:TypeId} {v:Value} {W W':World} (h:Lit g cs t n v W) (k:Kb g W W'):Lit g cs t n v W':=by
 obtain⟨b,e,h1,h2⟩:=h
 exact⟨b,e,h1,k.ke.block h2 h1⟩
theorem Lit.new {g n:Nat} {cs:Array Value} {t:TypeId} {W:World} (hb:BagAt W g):Lit g cs t n (.slice (some ⟨W.heap.size,0,none⟩) n n) (W.alloc (.cells cs t)):=⟨_,rfl,fun e=>absurd hb.lt (by omega),heap_alloc_new W _⟩
def DtM (K:Kt) (v:Value) (W:World):Prop:=∃ A c xs,v=.slice A xs.length c∧Ints W A xs∧xs.length=K.hauls.length
theorem DtM.kb {g:Nat} {K:Kt} {v:Value} {W W':World} (h:DtM K v W) (k:Kb g W W') (hb:BagAt W g):DtM K v W':=by
 obtain⟨A,c,xs,e,h1,h2⟩:=h
 exact⟨A,c,xs,e,h1.kb k hb,h2⟩
def MsL (g:Nat) (K:Kt) (x z v:Value) (W:World):Prop:=∃ A c xs,Lit g #[x,.slice A xs.length c,z] 22 3 v W∧Ints W A xs∧xs.length=K.hauls.length
theorem MsL.kb {g:Nat} {K:Kt} {x z v:Value} {W W':World} (h:MsL g K x z v W) (k:Kb g W W') (hb:BagAt W g):MsL g K x z v W':=by
 obtain⟨A,c,xs,e,h1,h2⟩:=h
 exact⟨A,c,xs,e.kb k,h1.kb k hb,h2⟩
theorem KtAt.ds {w:World} {K:Kt} {gA dA hA:Option Addr} (k:KtAt w K gA dA hA):∀ d∈K.dishes,d.length≤1000:=fun d hd=>by
 obtain⟨j,hj⟩:=List.getElem?_of_mem hd
 obtain⟨_,_,_,_,_,_,_,h⟩:=k.dishes j d hj
 exact h
theorem KtAt.hs {w:World} {K:Kt} {gA dA hA:Option Addr} (k:KtAt w K gA dA hA):∀ x∈K.hauls,x.prices.length≤1000:=fun d hd=>by
 obtain⟨j,hj⟩:=List.getElem?_of_mem hd
 obtain⟨_,_,_,_,_,_,_,_,_,h⟩:=k.hauls j d hj
 exact h
section
variable {fs:Array Func} [Like fs]
theorem eqRows_grown (A B:Option Addr) (ca cb:Nat) (xs:List (List Int)) (w:World) (hx:DishesAt w A xs) (hy:DishesAt w B xs) (hl:xs.length≤1000) :
  Calls (Pf fs) 38 #[.slice A xs.length ca,.slice B xs.length cb] w fun e w'=>e=.returned (.bool true)∧Grown w w':=by
 have h:=Jh (fs:=fs) A B ca cb xs xs w hx hy hl hl
 simp only[decide_true] at h
 refine h.mono ?_
 rintro e w' ⟨he,q,rfl⟩
 exact⟨he,(Grown.refl w).drewN q⟩
theorem eqInts_grown (A B:Option Addr) (ca cb:Nat) (xs:List Int) (w:World) (hx:Ints w A xs) (hy:Ints w B xs) (hl:xs.length≤1000) :
  Calls (Pf fs) 40 #[.slice A xs.length ca,.slice B xs.length cb] w fun e w'=>e=.returned (.bool true)∧Grown w w':=by
 have h:=yu (fs:=fs) A B ca cb xs xs w hx hy hl hl
 simp only[decide_true] at h
 refine h.mono ?_
 rintro e w' ⟨he,q,rfl⟩
 exact⟨he,(Grown.refl w).drewN q⟩
end
end
end Go.Gal
