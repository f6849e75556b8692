/- All orders of a drawn region, by reckoning. A worker's step beside its left state: what it does to the memory and lists. The inner phase of a worker: what it calls runs beside a good .. -/
import Derived.Test.YtlgiofglcgbjgaaM14
import Derived.Orders
import Derived.Conc.CompanyDraw
import Derived.Conc.Own3
import Derived.Laws.AppendOwn
namespace Go.Par
open Go
section
def orders (md:Region.Mode) (ops:Array Oper):Nat→Array Bool→List (List Nat)
 | 0,_=>[[]]
 | n+1,listed=>match Region.ready md ops listed with
  | []=>[[]]
  | r::rs=>(r::rs).flatMap fun i=>(orders md ops n (listed.setIfInBounds i true)).map (i::·)
theorem ZD (md:Region.Mode) (ops:Array Oper):∀ (n t:Nat) (listed:Array Bool),Region.linearise.go md ops n t listed []∈orders md ops n listed
 | 0,t,listed=>by simp[Region.linearise.go,orders]
 | n+1,t,listed=>by
  simp only[Region.linearise.go,orders]
  change (match (Region.ready md ops listed)[t % (Region.ready md ops listed).length]? with
   | some i=>Region.linearise.go md ops n (t / (Region.ready md ops listed).length) (listed.setIfInBounds i true) [i]
   | none=>[].reverse)∈_
  cases hr:Region.ready md ops listed with
  | nil=>simp
  | cons r rs =>
   have hlt:t % (r::rs).length<(r::rs).length:=Nat.mod_lt _ (by simp)
   rw[List.getElem?_eq_getElem hlt]
   simp only
   rw[linearise_go_acc,List.reverse_singleton,List.singleton_append]
   refine List.mem_flatMap.2 ⟨_,List.getElem_mem hlt,List.mem_map.2 ⟨_,ZD md ops n _ _,rfl⟩⟩
theorem schedule_orders {P:Program} (hm:P.follows .mixedOrders=true) (ops:Array Oper) (t:Nat):Region.schedule (P.follows .mixedOrders) ops t∈orders .any ops ops.size (Array.replicate ops.size false):=by
 simp only[Region.schedule,hm,Bool.true_or,if_true]
 exact ZD ..
def okl (dep:Nat→List Nat):List Nat→Bool
 | []=>true
 | i::l=>!l.contains i&&(dep i).all (fun j=>!l.contains j)&&okl dep l
theorem zaC {dep:Nat→List Nat} {i:Nat} {l:List Nat} (h:okl dep (i::l)=true):i ∉ l∧(∀ j∈dep i,j ∉ l)∧okl dep l=true:=by
 simp only[okl,Bool.and_eq_true,Bool.not_eq_true',List.all_eq_true,List.contains_eq_mem,decide_eq_false_iff_not] at h
 exact⟨h.1.1,h.1.2,h.2⟩
end
section
def InN (N Pr:Nat→Prop) (B:Ren) (w:World):Prop:=∀ r b,B r b→(N b∧ja w r)∨Pr b
section
variable {N Pr Sd O:Nat→Prop} {B D:Ren} {w w1 w' w1':World} {es es':Array Event} {C:Nat}
theorem InN.step (h:InN N Pr B w) (hup:B.up D w.heap.size w'.heap.size) (hs:Seals w w1 es) (hm:WRel D w1 w1'):InN N (fun b=>Pr b∨fresh w' w1' b) D w1:=by
 intro r b hb
 rcases hup.new r b hb with h1|⟨_,h2⟩
 ·rcases h r b h1 with ⟨k1,k2⟩|k
  ·exact .inl ⟨k1,(hs.rows r k2).1⟩
  ·exact .inr (.inl k)
 ·exact .inr (.inr ⟨h2,(hm.lt hb).2⟩)
theorem evg_of (h:InN N Pr B w) (hup:B.up D w.heap.size w'.heap.size) (hs:Seals w w1 es) (hm:WRel D w1 w1') (hout:¬ D.out) (hN:∀ b,N b→Sd b) {e e':Event} (he:e∈es.toList) (hr:EvR D e e'):EvG C (fun b=>Pr b∨fresh w' w1' b) Sd O w1'.heap.size e':=by
 have place:∀ r b,D r b→(Pr b∨fresh w' w1' b)∨(N b∧ja w r):=fun r b hb=>by
  rcases hup.new r b hb with h1|⟨_,h2⟩
  ·rcases h r b h1 with k|k
   ·exact .inr k
   ·exact .inl (.inl k)
  ·exact .inl (.inr ⟨h2,(hm.lt hb).2⟩)
 obtain⟨loc,wr,sy⟩:=e
 obtain⟨loc',wr',sy'⟩:=e'
 have hl:=hr.loc
 have hwr:wr'=wr:=hr.write
 subst hwr
 simp only at hl
 cases hl with
 | @cell a a' ha =>
  refine⟨fun x hx=>.inl ⟨a'.block,?_,?_⟩,⟨by simp,by simp⟩,by simp,?_⟩
  ·cases wr'<;>cases sy'<;>simp[MemAct.ofEvent,MemAct.touch?] at hx<;>subst hx<;>rfl
  ·rcases place _ _ ha.block with k|⟨k1,k2⟩
   ·exact .inl k
   ·refine .inr ⟨?_,hN _ k1⟩
    cases wr' with
    | true=>exact ((hs.evs _ he rfl _ k2).1 a rfl rfl).elim
    | false=>cases sy'<;>simp[MemAct.ofEvent,MemAct.touch?] at hx<;>subst hx<;>rfl
  ·cases wr'<;>cases sy'<;>exact (hm.lt ha.block).2
 | @obj r r' hb =>
  refine⟨fun x hx=>.inl ⟨r',?_,?_⟩,⟨by simp,by simp⟩,by simp,?_⟩
  ·cases wr'<;>cases sy'<;>simp[MemAct.ofEvent,MemAct.touch?] at hx<;>subst hx<;>rfl
  ·rcases place _ _ hb with k|⟨k1,k2⟩
   ·exact .inl k
   ·refine .inr ⟨?_,hN _ k1⟩
    cases wr' with
    | true=>exact ((hs.evs _ he rfl _ k2).2 rfl).elim
    | false=>cases sy'<;>simp[MemAct.ofEvent,MemAct.touch?] at hx<;>subst hx<;>rfl
  ·cases wr'<;>cases sy'<;>exact (hm.lt hb).2
 | output ho=>exact (hout ho).elim
 | mark hk =>
  cases hk with
  | extern f=>exact⟨fun x hx=>by simp[MemAct.ofEvent,MemAct.touch?] at hx,⟨by simp,by simp⟩,by simp,trivial⟩
  | noRoom=>exact⟨fun x hx=>by simp[MemAct.ofEvent,MemAct.touch?] at hx,⟨by simp,by simp⟩,by simp,trivial⟩
theorem zeC (h:InN N Pr B w) (hup:B.up D w.heap.size w'.heap.size) (hs:Seals w w1 es) (hm:WRel D w1 w1') (hown:Own w w1 w' w1' D) (hev:EsR D es es') (hout:¬ D.out) (hN:∀ b,N b→Sd b) (hC:¬ N C∧¬ Pr C) :
  Gua C Pr Sd O w' w1' es':=by
 have stands:∀ b,b<w'.heap.size→¬ Pr b→w1'.heap[b]?=w'.heap[b]?:=fun b hb hp=>by
  rcases hown.same b hb with k|⟨r,k1,k2⟩
  ·exact k
  ·rcases hup.new r b k1 with h1|⟨_,h2⟩
   ·rcases h r b h1 with ⟨_,k3⟩|k3
    ·exact (k2 k3).elim
    ·exact (hp k3).elim
   ·omega
 refine⟨hown.size,hown.os,fun b hb hp _=>stands b hb hp,fun cs t m hc=>⟨cs,?_,rfl,fun _ _=>rfl⟩,fun e' he'=>?_⟩
 ·rw[stands C (Array.getElem?_eq_some_iff.1 hc).1 hC.2,hc]
 ·obtain⟨i,hi,rfl⟩:=Array.mem_iff_getElem.1 he'
  have hi2:i<es.size:=by rw[← hev.size];exact hi
  exact evg_of h hup hs hm hout hN (by simp) (hev.elem i hi2 hi)
end
end
section
structure Dead (P:Program) (F:FuncId→Prop):Prop where
 ended:∀ f:Nat,F f→(∃ fn,P.funcs[f]?=some fn∧fn.body.isNone=false)→∀ (a:Array Value) (k:CallKind) (cs:List Frame) (w:World),Lost (stepG P true { frame:=Frame.enter P f a k,callers:=cs,status:=.running,dying:=none } w)
structure Inn (P:Program) (F:FuncId→Prop) (Lf:FuncId→Lic) (N Pr:Nat→Prop) (f:FuncId) (Rl:Ending→World→Prop) (s:St) (fr':Frame) (cs':List Frame) (w':World):Prop where
 ex:∃ (B:Ren) (cs:List Frame),s.cs=cs++[door P]∧OnR P Lf .normal B s.fr fr' cs cs'∧WRel B s.w w'∧InN N Pr B s.w∧Fit P Lf B∧¬ B.out
 good:Good P (Done P f Rl) s
section
variable {P:Program} {fs:Array Func} {F:FuncId→Prop} {Lf:FuncId→Lic} {N Pr Sd O:Nat→Prop} {C:Nat} {f:FuncId} {Rl:Ending→World→Prop} {s:St} {fr' c:Frame} {cs' rest:List Frame} {w':World}
theorem WRel.stands {B:Ren} {w w' w1:World} (h:WRel B w w') (hb:∀ r b,B r b→w1.heap[b]?=w'.heap[b]?) (hs:w'.heap.size≤w1.heap.size) (ho:w1.os=w'.os):WRel B w w1:=
 ⟨fun r b hr=>by rw[hb r b hr];exact h.objs r b hr,ho.trans h.os,h.big,Nat.le_trans h.big' hs⟩
theorem Inn.rely {w1:World} (h:Inn P F Lf N Pr f Rl s fr' cs' w') (hN:∀ b,N b→Sd b) (hb:∀ b,Pr b∨Sd b→w1.heap[b]?=w'.heap[b]?) (hs:w'.heap.size≤w1.heap.size) (ho:w1.os=w'.os):Inn P F Lf N Pr f Rl s fr' cs' w1:=by
 obtain⟨⟨B,cs,h1,h2,h3,h4,h5,h6⟩,hg⟩:=h
 exact⟨⟨B,cs,h1,h2,h3.stands (fun r b hr=>hb b ((h4 r b hr).elim (fun x=>.inr (hN b x.1)) .inl)) hs ho,h4,h5,h6⟩,hg⟩
theorem Inn.step (H:Two P fs F Lf) (hD:Dead P F) (hq:Low [door P] rest) (hN:∀ b,N b→Sd b) (hC:¬ N C∧¬ Pr C) (mn:Bool) (h:Inn P F Lf N Pr f Rl s fr' cs' w') :
  (¬ s.stop P∧∃ (s1:St) (fr1:Frame) (cs1:List Frame) (w1:World) (es:Array Event),Leads P 1 s s1∧stepG (swap P fs) mn { frame:=fr',callers:=cs'++rest,status:=.running,dying:=none } w'=.go { frame:=fr1,callers:=cs1++rest,status:=.running,dying:=none } w1 es ∧
   Gua C Pr Sd O w' w1 es∧Inn P F Lf N (fun b=>Pr b∨fresh w' w1 b) f Rl s1 fr1 cs1 w1)∨s.stop P:=by
 obtain⟨⟨B,cs,h1,h2,h3,h4,h5,h6⟩,hg⟩:=h
 by_cases hs:s.stop P
 ·exact .inr hs
 refine .inl ⟨hs,?_⟩
 have hst:cs=[]→s.fr.mode=.run∨s.fr.defers≠[]:=by
  intro e
  refine Classical.or_iff_not_imp_left.2 fun hm hd=>hs ⟨?_,hm,hd⟩
  rw[h1,e]
  rfl
 obtain⟨s1,es,es',g1,w1,D,hnx,hg1,hstep,hup,hgr,hw1,hev,hown⟩:=follow (rest:=rest) (bot:=[door P]) (mn:=mn) H h5 hq (by simp) h1 h2 h3 hg hs hst
 obtain⟨hfr,⟨cs2,cs2',e1,e2,hcs,hk⟩,k1,k2,k3,k4,k5,k6⟩:=hgr
 have eg:=g_eta k2 k4 k6
 rw[e2] at eg
 have hout:¬ D.out:=by rw[hup.le.out];exact h6
 refine⟨s1,g1.frame,cs2',w1,es',hnx.leads,?_,zeC h4 hup hnx.keeps hw1 hown hev hout hN hC,⟨⟨D,cs2,e1,?_,hw1,h4.step hup hnx.keeps hw1,h5.mono hup.le,hout⟩,hg1⟩⟩
 ·rw[hstep]
  exact congrArg (fun g=>GStep.go g w1 es') eg
 ·have key:∀ x x',s1.g.frame=x→g1.frame=x'→TopR P fs F Lf D x x'→OnR P Lf .normal D x x' cs2 cs2':=by
   intro x x' ex ex' ht
   cases ht with
   | frame a b c=>exact⟨a,b,c,hcs,by rw[← ex,← ex'];exact hk⟩
   | @enter f0 k k' a0 a0' hF hh ha hb hv =>
    exfalso
    have hx:s1.fr=Frame.enter P f0 a0 k:=ex
    refine hg1.alive (t:=s1.w.tape) ?_ (fun _ _=>rfl) ?_
    ·rintro⟨_,hm,_⟩
     rw[hx] at hm
     exact hm rfl
    ·have:=hD.ended f0 hF ((h5.mono hup.le).has f0 hh) a0 k s1.cs { s1.w with tape:=s1.w.tape }
     rw[← hx] at this
     exact this
  exact key _ _ rfl rfl hfr
theorem Inn.last (H:Two P fs F Lf) (hN:∀ b,N b→Sd b) (hC:¬ N C∧¬ Pr C) (mn:Bool) (h:Inn P F Lf N Pr f Rl s fr' cs' w') (hs:s.stop P) :
  ∃ (v v':Value) (w w1:World) (es:Array Event) (D:Ren),cs'=[]∧stepG (swap P fs) mn { frame:=fr',callers:=cs'++c::rest,status:=.running,dying:=none } w'=.go { frame:=c.finish v',callers:=rest,status:=.running,dying:=none } w1 es ∧
   Rl (.returned v) w∧VRel D v v'∧WRel D w w1∧InN N (fun b=>Pr b∨fresh w' w1 b) D w∧Gua C Pr Sd O w' w1 es:=by
 obtain⟨⟨B,cs,h1,h2,h3,h4,h5,h6⟩,hg⟩:=h
 have hcs:cs=[]:=by
  have:=h1.symm.trans hs.1
  simpa using this
 subst hcs
 have hcs':cs'=[]:=by
  have:=h2.callers
  cases this
  rfl
 subst hcs'
 obtain⟨v,v',w,w1,es,es',D,hstep,hR,hv,hw,hup,hev,hown,hse⟩:=follow_last (rest:=rest) (c:=c) (mn:=mn) H h5 h2 h3 hg hs
 have hout:¬ D.out:=by rw[hup.le.out];exact h6
 exact⟨v,v',w,w1,es',D,rfl,hstep,hR,hv,hw,h4.step hup hse hw,zeC h4 hup hse hw hown hev hout hN hC⟩
theorem QD {B:Ren} (H:Two P fs F Lf) {f:Nat} (e:¬ F f) (k:CallKind) {a a':Array Value} (h:VsRel B a a'):FrameR P Lf B (Frame.enter P f a k) (Frame.enter (swap P fs) f a' k):=by
 unfold Frame.enter
 dsimp only
 rw[show (swap P fs).funcs[f]?=P.funcs[f]? from H.other f e]
 refine⟨rfl,.of ?_,.cons ?_ .nil,.nil,.run,.none,fun h=>absurd rfl h⟩
 ·exact h.append (by rw[h.size];exact Rows.replicate _ (VRel.undef B))
 ·cases hf:P.funcs[f]? with
  | none=>exact .code trivial
  | some fn =>
   cases hb:fn.body with
   | none=>simp only[Option.bind_some,hb,Option.getD_none];exact .code trivial
   | some c=>simp only[Option.bind_some,hb,Option.getD_some];exact .code (H.code f fn c e hf hb)
end
end
section
open Go.Conc (Deaf Leavers Knows touchAt QuitsD Goes semEvents NoRelease woken crowd Aside awake Perm)
open Go.ConcN (CT Ok0 OkW Apart sumTo sumTo_upd upd upd_same upd_ne WD CTag Vc Ssum Fsum cnt pend phi WSit RW AtK1 WgLive RelBy phi_retag PermW)
open Go.ConcR (KK WgAt stA smA rd wr mk Payload DC0 g_of_ofEvents)
section
variable {P:Program} [Payload] {ty:TypeId} {Wg C nC:Nat} {cl:Nat→Nat→Prop} {kw:Nat→Nat} {W:Wkr P ty Wg C nC cl kw} {n k0:Nat} {Sb:Nat→Prop} {K:Nat→Prop} {w1:World}
 {Anch Out:(V:Nat→Prop)→Goroutine→World→Prop} {G:Gh W.Γ} {gs:Array Goroutine} {w:World} {sl:Option (Nat×Nat)} {t:Trace} {q:Nat→Nat} {a:Goroutine}
omit [Payload] in
theorem Tr.more {Sb:Nat→Prop} {n N Wg:Nat} {t:Trace} (h:Tr Sb n N t) (hN:N≤Wg):Tr (fun b=>Sb b∨b=Wg) n N t:=by
 have hl:∀ l,¬ ShB (fun b=>Sb b∨b=Wg) l→¬ ShB Sb l:=fun l hx hy=>hx (let ⟨c,h1,h2⟩:=hy;⟨c,h1,.inl h2⟩)
 refine⟨⟨fun i op x hi hx hs=>?_,fun k _ _ l hx=>hx.elim,fun k _ _ l hx=>hx.elim,fun l hs _=>h.ct.free l (hl l hs) fun _ _ _=>⟨fun x=>x,fun x=>x⟩,fun l hs _=>h.ct.mine l (hl l hs) fun _ _ _ x=>x,h.ct.nr,h.ct.gs⟩,h.over,h.hears,h.low⟩
 obtain⟨c,hc,hs|hs⟩:=hs
 ·exact h.ct.quiet i op x hi hx ⟨c,hc,hs⟩
 ·exact absurd rfl (untouched h.low (l:=x.loc) (b:=Wg) (by rw[hc];exact congrArg some hs) hN i x (by rw[Go.Conc.touchAt_of hi];exact hx))
omit [Payload] in
theorem Tr.norel {Sb:Nat→Prop} {n N Wg:Nat} {t:Trace} (h:Tr Sb n N t) (hN:N≤Wg):NoRelease (stA Wg) t:=by
 intro i e
 obtain⟨op,ho,hop⟩:=Option.map_eq_some_iff.1 e
 have hl:=h.low op (Array.mem_of_getElem? ho)
 rw[hop] at hl
 exact absurd hl (Nat.not_lt.2 hN)
theorem Com.start2 {gs:Array Goroutine} {w:World} {t:Trace} (hsz:gs.size=k0) (hk0 : 1≤k0) (hlv:Leavers P t gs q) (htr:Tr (fun b=>Sb b∨b=Wg) (gs.size-1) w.heap.size t) (hsb:∀ b,Sb b→b<w.heap.size) (hW:Wg<w.heap.size) (hC:C<w.heap.size) (hcw:C≠Wg) (hcs:¬ Sb C)
  (hrow:∃ cs ct m,w.heap[C]?=some (.cells cs ct m)) (hnr:NoRelease (stA Wg) t) (D:Nat→WD) (γ : Nat→W.Γ) {V:Nat→Prop} (hV:∀ b,V b→b<w.heap.size∧b≠C∧b≠Wg∧¬ Sb b) {M:Nat→Prop} (hM:∀ b,M b→V b) (hK:∀ b,K b→V b∧¬ M b) :
  Com W n k0 Sb K w ⟨0,D,γ,fun _ _=>False,fun _ _=>False,V,M⟩ gs w t 0 q:=by
 refine⟨hsz,fun i g hi _ hg=>hlv.old i g hi hg,fun i hi=>absurd hi (Nat.not_lt_zero _),⟨Nat.zero_le _,hV,hM,fun i b hi=>absurd hi (Nat.not_lt_zero _),fun i i' b hi=>absurd hi (Nat.not_lt_zero _),fun i b hi=>absurd hi (Nat.not_lt_zero _),fun b hb=>?_,hcw,hcs⟩,?_,hnr,htr.hears,
  fun i hi=>absurd hi (Nat.not_lt_zero _),fun i hi=>absurd hi (Nat.not_lt_zero _),fun i op x hi _ hx hs=>?_,fun i g hg hne _ hc=>htr.over i g hg hne hc,htr.low,hrow,fun b hb=>⟨(hK b hb).1,(hK b hb).2,rfl⟩,.refl w,Nat.le_refl _⟩
 ·rcases hb with rfl|rfl|hb
  ·exact hC
  ·exact hW
  ·exact hsb b hb
 ·have hno:∀ k l,¬ OwnF C k0 cl (⟨0,D,γ,fun _ _=>False,fun _ _=>False,V,M⟩:Gh W.Γ) k l:=fun k l ⟨i,hi,_⟩=>absurd hi (Nat.not_lt_zero _)
  have hnd:∀ k l,¬ RdF k0 (⟨0,D,γ,fun _ _=>False,fun _ _=>False,V,M⟩:Gh W.Γ) k l:=fun k l ⟨i,hi,_⟩=>absurd hi (Nat.not_lt_zero _)
  have hct:=htr.ct
  have hnat:k0+(⟨0,D,γ,fun _ _=>False,fun _ _=>False,V,M⟩:Gh W.Γ).j-1=gs.size-1:=by show k0+0-1=_;omega
  rw[hnat]
  exact⟨hct.quiet,fun k _ _ l hx=>(hno k l hx).elim,fun k _ _ l hx=>(hnd k l hx).elim,fun l hs _=>hct.free l hs fun _ _ _=>⟨fun x=>x,fun x=>x⟩,fun l hs _=>hct.mine l hs fun _ _ _ x=>x,hct.nr,hct.gs⟩
 ·exact htr.ct.free x.loc hs (fun _ _ _=>⟨fun x=>x,fun x=>x⟩) i x (by rw[Go.Conc.touchAt_of hi];exact hx) rfl
end
end
section
def Ren.withF (B:Ren) (p:FuncId→Prop):Ren:=⟨B.rel,B.ok,p,B.has,B.glob,B.out,B.side,B.left,B.right⟩
section
variable {B:Ren} {p:FuncId→Prop}
theorem AR.withF {a a'} (x:AR B a a'):AR (B.withF p) a a':=⟨x.block,x.off,x.spot⟩
theorem FR.withF {f f'} (x:FR B f f'):FR (B.withF p) f f':=by
 cases x with
 | func f=>exact .func f
 | yield x=>exact .yield x
theorem VRel.withF {v v'} (x:VRel B v v'):VRel (B.withF p) v v':=by
 induction x with
 | bool b=>exact .bool b
 | int k n=>exact .int k n
 | float k n=>exact .float k n
 | complex k a b=>exact .complex k a b
 | string s=>exact .string s
 | pointer x=>exact .pointer (x.mono fun _ _=>AR.withF)
 | slice l c x=>exact .slice l c (x.mono fun _ _=>AR.withF)
 | empty=>exact .empty
 | map x=>exact .map (x.mono fun _ _ h=>h)
 | chan x=>exact .chan (x.mono fun _ _ h=>h)
 | func f s1 _ s2 _ i1 i2=>exact .func f.withF s1 i1 s2 i2
 | nilFunc=>exact .nilFunc
 | iface t _ ih=>exact .iface t ih
 | nilIface=>exact .nilIface
 | agg s _ ih=>exact .agg s ih
 | tuple s _ ih=>exact .tuple s ih
 | poison h=>exact .poison h
 | odd n f c=>exact .odd n f c
theorem VsRel.withF {a b} (x:VsRel B a b):VsRel (B.withF p) a b:=Rows.mono (fun _ _=>VRel.withF) x
theorem TR.withF {t t'} (x:TR B t t'):TR (B.withF p) t t':=by
 cases x with
 | fn f c=>exact .fn f.withF (VsRel.withF c)
 | nil=>exact .nil
 | builtin b ts t cs=>exact .builtin b ts t cs
 | collected x=>exact .collected x
theorem DR.withF {d d'} (x:DR B d d'):DR (B.withF p) d d':=by
 cases x with
 | reg a b c=>exact .reg a.withF (VsRel.withF b) c
 | odd n c a b e=>exact .odd n c a b e
theorem ORel.withF (hp:∀ f,B.okF f→p f) {o o'} (x:ORel B o o'):ORel (B.withF p) o o':=by
 cases x with
 | cells t m x=>exact .cells t m (VsRel.withF x)
 | map k x=>exact .map k (x.mono fun _ _ e=>⟨e.key.withF,e.val.withF,e.born⟩)
 | chan n c s r t x=>exact .chan n c s r t (VsRel.withF x)
 | stringIter s p=>exact .stringIter s p
 | mapIter s n k x=>exact .mapIter s n k (x.mono fun _ _ h=>h)
 | loop x=>exact .loop ⟨x.state,x.pending,x.fn,VsRel.withF x.tmps,x.params,x.assign,x.body,x.defers,x.okA,x.okB,x.okP,hp _ x.okN⟩
 | deferred x=>exact .deferred (x.mono fun _ _ y=>y.mono fun _ _=>DR.withF)
 | number l x=>exact .number l x.withF
theorem WRel.withF {w w':World} (hp:∀ f,B.okF f→p f) (h:WRel B w w'):WRel (B.withF p) w w':=
 ⟨fun r r' hr=>let ⟨o,o',h1,h2,h3⟩:=h.objs r r' hr;⟨o,o',h1,h2,h3.withF hp⟩,h.os,h.big,h.big'⟩
end
theorem Two.self {P:Program} {fs:Array Func} {F:FuncId→Prop} {Lf:FuncId→Lic} (H:Two P fs F Lf) (f0:Nat) (hc:∀ fn c,P.funcs[f0]?=some fn→fn.body=some c→qs P Lic.loop c) :
  Two P P.funcs (fun f=>F f∧f≠f0) (fun f=>if f=f0 then Lic.loop else Lf f):=by
 refine⟨H.types,⟨fun f fn h hb=>?_,H.rows.none⟩,rfl,fun _ _=>rfl,fun _=>rfl,fun f fn h x hx=>?_,fun f h=>?_,fun f fn c hF h hb=>?_,fun _=>rfl⟩
 ·obtain⟨_,_,_,h3,_⟩:=H.rows.same f fn h hb
  exact⟨fn,h,hb,h3,h3⟩
 ·by_cases e:f=f0
  ·simp only[e,if_true]
   exact fun h=>h
  ·simp only[e,if_false]
   exact H.live f fn h x hx
 ·by_cases e:f=f0
  ·simp only[e,if_true]
   exact fun h=>h
  ·simp only[e,if_false]
   exact H.lost f h
 ·by_cases e:f=f0
  ·subst e
   simp only[if_true]
   exact hc fn c h hb
  ·simp only[e,if_false]
   exact H.code f fn c (fun hf=>hF ⟨hf,e⟩) h hb
section
variable {P:Program} {fs:Array Func} {F:FuncId→Prop} {Lf:FuncId→Lic} {B:Ren}
theorem Fit.self (hF:Fit P Lf B) (f0:Nat):Fit P (fun f=>if f=f0 then Lic.loop else Lf f) (B.withF fun f=>(if f=f0 then Lic.loop else Lf f)=Lic.loop):=by
 refine⟨⟨hF.based.glob,hF.based.keys,hF.based.has⟩,hF.ok,rfl,fun f hp=>?_,hF.has⟩
 by_cases e:f=f0
 ·simp only[e,if_true] at hp
  exact hp.elim
 ·simp only[e,if_false] at hp
  exact hF.out f hp
theorem leap_on (H:Two P P.funcs F Lf) (hD:Dead P F) {f:Nat} {R:Ending→World→Prop} {c:Frame} {cs:List Frame} {s:St} (ha:Acc (fun b a=>Leads P 1 a b) s) :
  ∀ {fr fr':Frame} {cs0 cs0':List Frame} {w w':World} {B:Ren},s=⟨fr,cs0++[door P],w⟩→Fit P Lf B→OnR P Lf .normal B fr fr' cs0 cs0'→WRel B w w'→Good P (Done P f R) ⟨fr,cs0++[door P],w⟩ →
   ∃ v w1,Leads P 1 ⟨fr,cs0++c::cs,w⟩ ⟨c.finish v,cs,w1⟩∧R (.returned v) w1:=by
 induction ha with
 | intro s _ ih =>
  intro fr fr' cs0 cs0' w w' B es hF h hw hG
  by_cases hs:St.stop P ⟨fr,cs0++[door P],w⟩
  ·obtain⟨hc0,hm0,hd0⟩:=hs
   have e0:cs0=[]:=by simpa using hc0
   subst e0
   have e1:cs0'=[]:=by
    have:=h.callers
    cases this
    rfl
   subst e1
   have hk:fr.kind=.normal∧fr'.kind=.normal:=h.kinds.2
   obtain⟨hmr,hq⟩:=hG.stop ⟨hc0,hm0,hd0⟩ hk.1
   obtain⟨_,v,hR,hl⟩:=hq w.tape fun _ _=>rfl
   have hl0:=hl
   obtain⟨_,_,_,fn,hf,hres⟩:=hl
   obtain⟨t0,n,hnn,hrun⟩:=(QR (P:=P) (fs:=P.funcs) hF.based fn (H.live _ _ hf) h.rel.tmps).run hw #[] #[]
   have one:∀ t,(∀ d,d<w.drawn→t d=w.tape d)→∃ v,(results fn fr.tmps).run P { w with tape:=t }=.ok v { w with tape:=t }∧Frame.leaving P fr { w with tape:=t } (.returned v):=by
    intro t ht
    obtain⟨_,v,_,hl⟩:=hq t ht
    obtain⟨_,_,_,fn2,hf2,hr2⟩:=id hl
    rw[hf] at hf2
    cases hf2
    exact⟨v,hr2,hl⟩
   have fst:∀ (t:Nat→Question→Nat),((results fn fr.tmps).runT P { w with tape:=t } #[]).1=(results fn fr.tmps).run P { w with tape:=t }:=fun t=>Sem.runT_fst P (results fn fr.tmps) { w with tape:=t } #[]
   have same:∀ t,(∀ d,d<w.drawn→t d=w.tape d)→Frame.leaving P fr { w with tape:=t } (.returned v):=by
    rcases hrun with hbad|⟨C,v1,v',w1,w1',d,d',he⟩|⟨C,v1,v',w1,w1',d,d',he⟩
    ·exfalso
     obtain⟨hl,w2,es2,e,hb⟩:=hbad (fun d=>if d<w.drawn then w.tape d else t0 d) (fun d h1 _=>if_neg (Nat.not_lt.2 h1))
     obtain⟨v2,h2,_⟩:=one (fun d=>if d<w.drawn then w.tape d else t0 d) (fun d h1=>if_pos h1)
     have:=fst (fun d=>if d<w.drawn then w.tape d else t0 d)
     rw[e,h2] at this
     cases this
    rotate_left
    ·exfalso
     have e:=he.left (fun d=>if d<w.drawn then w.tape d else t0 d) (fun d h1 _=>if_neg (Nat.not_lt.2 h1))
     obtain⟨v2,h2,_⟩:=one (fun d=>if d<w.drawn then w.tape d else t0 d) (fun d h1=>if_pos h1)
     have:=fst (fun d=>if d<w.drawn then w.tape d else t0 d)
     rw[e,h2] at this
     cases this
    ·have hn:n=w.drawn:=by
      have e:=he.left (fun d=>if d<w.drawn then w.tape d else t0 d) (fun d h1 _=>if_neg (Nat.not_lt.2 h1))
      obtain⟨v2,h2,_⟩:=one (fun d=>if d<w.drawn then w.tape d else t0 d) (fun d h1=>if_pos h1)
      have:=fst (fun d=>if d<w.drawn then w.tape d else t0 d)
      rw[e,h2] at this
      have e3:w1.drawn=w.drawn:=congrArg (fun r:Result Value=>match r with|.ok _ u=>u.drawn|.halt _ u=>u.drawn) this
      rw[← e3]
      exact he.drawn.symm
     have at_:∀ t,(∀ d,d<w.drawn→t d=w.tape d)→∀ v2,(results fn fr.tmps).run P { w with tape:=t }=.ok v2 { w with tape:=t }→v2=v1:=by
      intro t _ v2 h2
      have e:=he.left t (fun d h1 h3=>absurd h3 (by omega))
      have:=fst t
      rw[e,h2] at this
      exact (congrArg (fun r:Result Value=>match r with|.ok x _=>x|.halt _ _=>v2) this).symm
     intro t ht
     obtain⟨v2,h2,h3⟩:=one t ht
     have e2:=at_ t ht v2 h2
     have e3:=at_ w.tape (fun _ _=>rfl) v hres
     rw[e3,← e2]
     exact h3
   refine⟨v,w,⟨Nat.le_refl _,fun _ _=>rfl,fun t ht=>⟨1,Nat.le_refl _,?_⟩⟩,hR⟩
   have st:Go.step P (lone fr (c::cs) { w with tape:=t })=.next (lone (c.finish v) cs { w with tape:=t }):=step_leave_returned (same t ht)
   have e2:runN P 1 (lone fr (c::cs) { w with tape:=t })=.next (lone (c.finish v) cs { w with tape:=t }):=by simp[runN,st]
   exact e2
  ·have hst:cs0=[]→fr.mode=.run∨fr.defers≠[]:=by
    intro e
    refine Classical.or_iff_not_imp_left.2 fun hm hd=>hs ⟨?_,hm,hd⟩
    rw[e]
    rfl
   obtain⟨fr1,cs1,w1,es1,es',g1,w1',C,hnx,hg1,hstep,hup,hgr,hw1,hev,hown⟩:=zei (rest:=[]) (bot:=[door P]) (mn:=true) H hF (zaP P).right (by simp) h hw hG hs hst
   obtain⟨hfr,⟨cs2,cs2',e1,e2,hcs,hk⟩,k1,k2,k3,k4,k5,k6⟩:=hgr [door P]
   have ecs:cs1=cs2:=List.append_cancel_right e1
   subst ecs
   have key:∀ x x',fr1=x→g1.frame=x'→TopR P P.funcs F Lf C x x'→OnR P Lf .normal C x x' cs1 cs2':=by
    intro x x' ex ex' ht
    cases ht with
    | frame a b c=>exact⟨a,b,c,hcs,by rw[← ex,← ex'];exact hk⟩
    | @enter f0 k k' a0 a0' hF0 hh ha hb hv =>
     exfalso
     refine hg1.alive (t:=w1.tape) ?_ (fun _ _=>rfl) ?_
     ·rintro⟨_,hm,_⟩
      have hm':fr1.mode≠.run:=hm
      rw[ex] at hm'
      exact hm' rfl
     ·have:=hD.ended f0 hF0 ((hF.mono hup.le).has f0 hh) a0 k (cs1++[door P]) { w1 with tape:=w1.tape }
      rw[← ex] at this
      exact this
   obtain⟨v,w2,hl2,hR⟩:=ih ⟨fr1,cs1++[door P],w1⟩ (by rw[es];exact (hnx.nxt [door P]).leads) rfl (hF.mono hup.le) (key _ _ rfl rfl hfr) hw1 hg1
   exact⟨v,w2,((hnx.nxt (c::cs)).leads.trans hl2).mono (Nat.le_add_left _ _),hR⟩
theorem leap (H:Two P P.funcs F Lf) (hD:Dead P F) (hF:Fit P Lf B) {f:Nat} (hf:¬ F f) {R:Ending→World→Prop} (hR:∀ e w',R e w'→∃ v,e=.returned v) {args args':Array Value} {w w':World} (hw:WRel B w w') (hv:VsRel B args args')
  (hc:∀ t,(∀ d,d<w.drawn→t d=w.tape d)→Calls P f args { w with tape:=t } R) (c:Frame) (cs:List Frame) :
  ∃ v w1,Leads P 1 ⟨Frame.enter P f args .normal,c::cs,w⟩ ⟨c.finish v,cs,w1⟩∧R (.returned v) w1:=by
 have hg:=Zy (P:=P) (f:=f) (args:=args) (w:=w) hR hc
 exact leap_on (c:=c) (cs:=cs) H hD hg.acc (cs0:=[]) (cs0':=[]) (fr':=Frame.enter (swap P P.funcs) f args' .normal) rfl hF ⟨by simp[Frame.enter],by simp[Frame.enter],QD H hf .normal hv,.nil,⟨rfl,rfl,rfl⟩⟩ hw hg
end
end
section
open Go.Conc (stepG_seq stepG_skip stepG_cond stepG_block stepG_loop stepG_inLoop stepG_inBlock stepG_exit stepG_region stepG_region_end stepG_value stepG_none stepG_enter stepG_oper)
abbrev G0:=Go.Conc.G
def putF (σ : Nat→Value) (d:Nat) (v:Value):Nat→Value:=fun j=>bif Nat.beq j d then v else σ j
def evF (σ : Nat→Value):Operand→Value
 | .tmp t=>σ t
 | .const v=>v
 | .global g=>.pointer (some ⟨g,0,none⟩)
 | .func f=>.func (.func f) #[] #[]
def Told (w w':World) (t:Nat→Question→Nat):Prop:=Agrees t w'.tape w.drawn w'.drawn
structure Later (w w':World):Prop where
 le:w.drawn≤w'.drawn
 past:∀ d,d<w.drawn→w'.tape d=w.tape d
theorem Later.refl (w:World):Later w w:=⟨Nat.le_refl _,fun _ _=>rfl⟩
section
variable (P:Program) (σ : Nat→Value) (o:Oper) (w:World)
def RunV (v:Value) (w':World):Prop:=∀ t,Told w w' t→(execOp (evF σ) o).run P { w with tape:=t }=.ok (.value v) { w' with tape:=t }
def RunU (w':World):Prop:=∀ t,Told w w' t→(execOp (evF σ) o).run P { w with tape:=t }=.ok .skip { w' with tape:=t }
def RunE (f:FuncId) (args:Array Value):Prop:=∀ t,(execOp (evF σ) o).run P { w with tape:=t }=.ok (.enter f args) { w with tape:=t }
def RunB:Prop:=∀ t,∃ h w2,(execOp (evF σ) o).run P { w with tape:=t }=.halt h w2∧h.bad
end
structure Slt (σ : Nat→Value) (n:Nat) (T:Array Value):Prop where
 size:T.size=n
 get:∀ j,T.getD j undef=σ j
section
variable {σ : Nat→Value} {n:Nat} {T:Array Value}
theorem Slt.eval (h:Slt σ n T):Act.eval ⟨T,[]⟩=evF σ:=by
 funext x
 cases x with
 | tmp t=>exact h.get t
 | _=>rfl
theorem Slt.put (h:Slt σ n T) {d:Nat} (hd:d<n) (v:Value):Slt (putF σ d v) n (T.setIfInBounds d v):=by
 refine⟨by simp[h.size],fun j=>?_⟩
 have hg:=h.get j
 have hs:=h.size
 unfold putF
 by_cases e:j=d
 ·subst e
  have:Nat.beq j j=true:=by simp
  rw[this,cond_true,Array.getD_eq_getD_getElem?,Array.getElem?_setIfInBounds_self_of_lt (by omega)]
  rfl
 ·have:Nat.beq j d=false:=by
   cases h:Nat.beq j d with
   | true=>exact absurd (Nat.eq_of_beq_eq_true h) e
   | false=>rfl
  rw[this,cond_false,Array.getD_eq_getD_getElem?,Array.getElem?_setIfInBounds_ne (fun x=>e x.symm),← Array.getD_eq_getD_getElem?]
  exact hg
theorem Slt.of (h:T.size=n):Slt (fun j=>T.getD j undef) n T:=⟨h,fun _=>rfl⟩
end
structure On (P:Program) (s0:St) (b:Frame) (cs:List Frame) (n:Nat) (σ : Nat→Value) (k:List Item) (w:World):Prop where
 ex:∃ T,Slt σ n T∧Leads P 0 s0 ⟨b.at ⟨T,[]⟩ k,cs,w⟩
section
variable {P:Program} {s0:St} {b:Frame} {cs:List Frame} {n:Nat} {σ : Nat→Value} {k k':List Item} {w w':World}
theorem Leads.of_step {fr fr':Frame} {c c':List Frame} (hl:Later w w') (h:∀ t,Told w w' t→∃ es,stepG P true (G0 fr c) { w with tape:=t }=.go (G0 fr' c') { w' with tape:=t } es):Leads P 1 ⟨fr,c,w⟩ ⟨fr',c',w'⟩:=by
 refine⟨hl.le,hl.past,fun t ht=>⟨1,Nat.le_refl _,?_⟩⟩
 obtain⟨es,h1⟩:=h t fun d _ hd=>ht d hd
 have e:Go.step P (lone fr c { w with tape:=t })=.next (lone fr' c' { w' with tape:=t }):=step_lone_go (by
  unfold G0 Go.Conc.G at h1
  rw[h1]
  rfl)
 have e2:runN P 1 (lone fr c { w with tape:=t })=.next (lone fr' c' { w' with tape:=t }):=by simp[runN,e]
 exact e2
theorem On.step {σ':Nat→Value} (h:On P s0 b cs n σ k w) (hl:Later w w') (hs:∀ T,Slt σ n T→∃ T',Slt σ' n T'∧∀ t,Told w w' t→∃ es,stepG P true (G0 (b.at ⟨T,[]⟩ k) cs) { w with tape:=t }=.go (G0 (b.at ⟨T',[]⟩ k') cs) { w' with tape:=t } es):On P s0 b cs n σ' k' w':=by
 obtain⟨T,hT,hl0⟩:=h.ex
 obtain⟨T',hT',hst⟩:=hs T hT
 exact⟨T',hT',(hl0.trans (Leads.of_step hl hst)).mono (Nat.zero_le _)⟩
theorem On.ctl (h:On P s0 b cs n σ k w) (hs:∀ T,Slt σ n T→∀ w,stepG P true (G0 (b.at ⟨T,[]⟩ k) cs) w=.go (G0 (b.at ⟨T,[]⟩ k') cs) w #[]):On P s0 b cs n σ k' w:=
 h.step (.refl w) fun T hT=>⟨T,hT,fun _t _=>⟨#[],hs T hT _⟩⟩
theorem On.seq {x y:Code} (h:On P s0 b cs n σ (.code (.seq x y)::k) w):On P s0 b cs n σ (.code x::.code y::k) w:=h.ctl fun _ _ _=>stepG_seq
theorem On.skip (h:On P s0 b cs n σ (.code .skip::k) w):On P s0 b cs n σ k w:=h.ctl fun _ _ _=>stepG_skip
theorem On.block {id:Nat} {x:Code} (h:On P s0 b cs n σ (.code (.block id x)::k) w):On P s0 b cs n σ (.code x::.inBlock id::k) w:=h.ctl fun _ _ _=>stepG_block
theorem On.loop {x:Code} (h:On P s0 b cs n σ (.code (.loop x)::k) w):On P s0 b cs n σ (.code x::.inLoop x::k) w:=h.ctl fun _ _ _=>stepG_loop
theorem On.inLoop {x:Code} (h:On P s0 b cs n σ (.inLoop x::k) w):On P s0 b cs n σ (.code x::.inLoop x::k) w:=h.ctl fun _ _ _=>stepG_inLoop
theorem On.exit {id:Nat} (h:On P s0 b cs n σ (.code (.exit id)::k) w) (he:exitTo id k=some k'):On P s0 b cs n σ k' w:=h.ctl fun _ _ _=>stepG_exit he
theorem On.cond {c:Operand} {x y:Code} {t:Bool} (h:On P s0 b cs n σ (.code (.cond c x y)::k) w) (hc:evF σ c=.bool t):On P s0 b cs n σ (.code (if t then x else y)::k) w:=
 h.ctl fun _ hT _=>stepG_cond (by rw[hT.eval];exact hc)
def one (o:Oper) (c:Code):Code:=.seq (.region 0 #[o] false) c
theorem On.enterOne {o:Oper} {c:Code} (h:On P s0 b cs n σ (.code (one o c)::k) w):On P s0 b cs n σ (.inRegion #[o] [0]::.code c::k) w:=by
 have h1:=h.seq
 exact h1.ctl fun _ _ _=>stepG_region
theorem On.leaveOne {o:Oper} {c:Code} (h:On P s0 b cs n σ (.inRegion #[o] []::.code c::k) w):On P s0 b cs n σ (.code c::k) w:=h.ctl fun _ _ _=>stepG_region_end
theorem ZP {o:Oper} {y:Nat→Option Bool} (hg:o.guard=none):Region.wanted o y=true:=by unfold Region.wanted;rw[hg]
theorem On.val {o:Oper} {c:Code} {d:Nat} {v:Value} (h:On P s0 b cs n σ (.code (one o c)::k) w) (hk:b.kind≠.early) (hg:o.guard=none) (hd:o.dst=some d) (hdn:d<n) (hl:Later w w') (hr:RunV P σ o w v w'):On P s0 b cs n (putF σ d v) (.code c::k) w':=by
 refine On.leaveOne (o:=o) (h.enterOne.step hl fun T hT=>⟨T.setIfInBounds d v,hT.put hdn v,fun t ht=>?_⟩)
 have hv:(execOp (Act.eval ⟨T,[]⟩) o).run P { w with tape:=t }=.ok (.value v) { w' with tape:=t }:=by rw[hT.eval];exact hr t ht
 have h1:=stepG_value (main:=true) (k:=.code c::k) (cs:=cs) (ops:=#[o]) (i:=0) (rest:=[]) (o:=o) rfl (ZP hg) hk hv
 rw[show Act.put ⟨T,[]⟩ o.dst v=⟨T.setIfInBounds d v,[]⟩ by rw[hd];rfl] at h1
 exact⟨_,h1⟩
theorem On.unit {o:Oper} {c:Code} (h:On P s0 b cs n σ (.code (one o c)::k) w) (hk:b.kind≠.early) (hg:o.guard=none) (hd:o.dst=none) (hl:Later w w') (hr:RunU P σ o w w'):On P s0 b cs n σ (.code c::k) w':=by
 refine On.leaveOne (o:=o) (h.enterOne.step hl fun T hT=>⟨T,hT,fun t ht=>?_⟩)
 have hv:(execOp (Act.eval ⟨T,[]⟩) o).run P { w with tape:=t }=.ok .skip { w' with tape:=t }:=by rw[hT.eval];exact hr t ht
 have h1:=stepG_none (main:=true) (k:=.code c::k) (cs:=cs) (ops:=#[o]) (i:=0) (rest:=[]) (o:=o) rfl (ZP hg) hk hv
 rw[show Act.put ⟨T,[]⟩ o.dst undef=⟨T,[]⟩ by rw[hd];rfl] at h1
 exact⟨_,h1⟩
theorem On.call {F:FuncId→Prop} {Lf:FuncId→Lic} {B:Ren} (H:Two P P.funcs F Lf) (hD:Dead P F) (hF:Fit P Lf B) {f:Nat} (hf:¬ F f) {R:Ending→World→Prop} (hR:∀ e w',R e w'→∃ v,e=.returned v) {args args':Array Value} {wr:World} (hw:WRel B w wr) (hv:VsRel B args args')
  {o:Oper} {c:Code} {d:Nat} (h:On P s0 b cs n σ (.code (one o c)::k) w) (hk:b.kind≠.early) (hg:o.guard=none) (hd:o.dst=some d) (hdn:d<n) (hr:RunE P σ o w f args)
  (hc:∀ t,(∀ d,d<w.drawn→t d=w.tape d)→Calls P f args { w with tape:=t } R):∃ v w1,On P s0 b cs n (putF σ d v) (.code c::k) w1∧R (.returned v) w1:=by
 obtain⟨T,hT,hl0⟩:=h.enterOne.ex
 obtain⟨v,w1,h1,h2⟩:=leap H hD hF hf hR hw hv hc (b.at ⟨T,[]⟩ (.inRegion #[o] [0]::.code c::k)) cs
 have h3:Leads P 1 ⟨b.at ⟨T,[]⟩ (.inRegion #[o] [0]::.code c::k),cs,w⟩ ⟨Frame.enter P f args .normal,b.at ⟨T,[]⟩ (.inRegion #[o] [0]::.code c::k)::cs,w⟩:=by
  refine Leads.of_step (.refl w) fun t _=>⟨_,stepG_enter (ops:=#[o]) (i:=0) (rest:=[]) rfl (ZP hg) hk ?_⟩
  rw[hT.eval]
  exact hr t
 have e:(b.at ⟨T,[]⟩ (.inRegion #[o] [0]::.code c::k)).finish v=b.at ⟨T.setIfInBounds d v,[]⟩ (.inRegion #[o] []::.code c::k):=by
  rw[Frame.finish_at]
  simp[Act.put,hd]
 rw[e] at h1
 exact⟨v,w1,On.leaveOne (o:=o) ⟨_,hT.put hdn v,((hl0.trans h3).trans h1).mono (Nat.zero_le _)⟩,h2⟩
end
section
variable {P:Program} {Q:Frame→World→Prop} {s0:St} {b:Frame} {cs:List Frame} {n:Nat} {σ : Nat→Value} {k k':List Item} {w w':World}
theorem On.good (hG:Good P Q s0) (hcs:cs≠[]) (h:On P s0 b cs n σ k w):∃ T,Slt σ n T∧Good P Q ⟨b.at ⟨T,[]⟩ k,cs,w⟩:=by
 obtain⟨T,hT,hl⟩:=h.ex
 exact⟨T,hT,hG.leads hl hcs⟩
theorem zaE {T:Array Value} : ¬ St.stop P ⟨b.at ⟨T,[]⟩ k,cs,w⟩:=fun ⟨_,hm,_⟩=>hm rfl
theorem bad_lost {a:Act} {o:Oper} (hk:b.kind≠.early) (hg:o.guard=none) {ops:Array Oper} {i:Nat} {rest:List Nat} (ho:ops[i]?=some o) (hb:∃ h w2,(execOp a.eval o).run P w=.halt h w2∧h.bad):Lost (stepG P true (G0 (b.at a (.inRegion ops (i::rest)::k)) cs) w):=by
 obtain⟨h,w2,he,hbd⟩:=hb
 unfold G0
 rw[stepG_oper ho (ZP hg)]
 have hk':(b.kind==CallKind.early)=false:=by simpa using hk
 have he':((execOp a.eval o).runT P w #[]).1=.halt h w2:=(Sem.runT_fst P _ _ _).trans he
 generalize hx:(execOp a.eval o).runT P w #[]=x at he'
 obtain⟨r,es⟩:=x
 simp only at he'
 subst he'
 unfold stepG.apply
 simp only[if_true,hx]
 refine Lost.after ?_
 cases h with
 | stuck m=>exact trivial
 | unsupported u=>cases u<;>first|exact hbd.elim|exact trivial
 | _=>exact hbd.elim
theorem On.notBad (hG:Good P Q s0) (hcs:cs≠[]) {o:Oper} {c:Code} (h:On P s0 b cs n σ (.code (one o c)::k) w) (hk:b.kind≠.early) (hg:o.guard=none) (hr:RunB P σ o w):False:=by
 obtain⟨T,hT,hg1⟩:=h.enterOne.good hG hcs
 refine hg1.alive zaE (t:=w.tape) (fun _ _=>rfl) ?_
 have:=hr w.tape
 rw[← hT.eval] at this
 exact bad_lost hk hg rfl this
theorem On.condBool (hG:Good P Q s0) (hcs:cs≠[]) {c:Operand} {x y:Code} (h:On P s0 b cs n σ (.code (.cond c x y)::k) w):∃ t,evF σ c=.bool t:=by
 obtain⟨T,hT,hg1⟩:=h.good hG hcs
 refine Classical.byContradiction fun hno=>hg1.alive zaE (t:=w.tape) (fun _ _=>rfl) ?_
 have he:∀ w,Lost (stepG P true (G0 (b.at ⟨T,[]⟩ (.code (.cond c x y)::k)) cs) w):=by
  intro w
  have h':(b.at ⟨T,[]⟩ (.code (.cond c x y)::k)).eval c=evF σ c:=by rw[Frame.eval_at,hT.eval]
  simp only[Frame.at] at h'
  generalize hv:evF σ c=v at h'
  cases v with
  | bool t=>exact absurd ⟨t,hv⟩ hno
  | _=>simp[Go.Conc.G,stepG,stepG.exec,Frame.at,h',Lost]
 exact he _
theorem On.refused (hG:Good P Q s0) (hcs:cs≠[]) {m:String} (h:On P s0 b cs n σ (.code (.refuse m)::k) w):False:=by
 obtain⟨T,hT,hg1⟩:=h.good hG hcs
 refine hg1.alive zaE (t:=w.tape) (fun _ _=>rfl) ?_
 simp[St.g,stepG,stepG.exec,Frame.at,Lost]
def check (x:Nat) (c:Code):Code:=.seq (.cond (.tmp x) .skip (.refuse "")) c
theorem On.checked (hG:Good P Q s0) (hcs:cs≠[]) {x:Nat} {c:Code} (h:On P s0 b cs n σ (.code (check x c)::k) w) : σ x=.bool true∧On P s0 b cs n σ (.code c::k) w:=by
 have h1:=h.seq
 obtain⟨t,ht⟩:=h1.condBool hG hcs
 have h2:=h1.cond ht
 cases t with
 | true=>exact⟨ht,h2.skip⟩
 | false=>exact (h2.refused hG hcs).elim
end
end
end Go.Par
