/- A worker of 'all': its situations. A worker of 'all': each of its steps, as the company asks. A worker of 'all', whole. 'all': its text, as far as Wait. -/
import Derived.Test.YtlgiofglcgbjgaaM18
namespace Go.Gal
open Go Go.Par Go.Proofs Go.Conc Go.ConcN Go.RowKit Go.Conc.Lib Go.ConcR.Gen Go.ConcN.Gen
section
open Go.ConcR (KK WgAt stA smA rd wr mk DC0 Payload)
def hasW (f:FuncId):Prop:=∃ fn,Sw.funcs[f]?=some fn∧fn.body.isNone=false
noncomputable abbrev idW (N:Nat→Prop):Ren:=idN N (qs Sw Lic.loop) (fun f=>LfW f=Lic.loop) hasW Sw.globals.size False
noncomputable abbrev maskN (N:Nat→Prop) (w:World):World:=maskW N (qs Sw Lic.loop) (fun f=>LfW f=Lic.loop) hasW Sw.globals.size False w
theorem dead_of {R:Program} {sp:Nat→Bool} : Dead (leftP R sp fun _ _=>.refuse "") (Ex R sp):=by
 refine⟨fun f hF hx a k cs w=>?_⟩
 obtain⟨fn,hf,hb⟩:=hx
 rw[qi] at hf
 obtain⟨g,hg,rfl⟩:=Option.map_eq_some_iff.1 hf
 rw[Zk] at hb
 have hs:sp f=true:=by
  have h:(sp f||bareB R f)=true:=hF
  unfold bareB at h
  rw[hg] at h
  simpa[hb] using h
 have e:(leftP R sp fun _ _=>.refuse "").funcs[f]?=some { g with body:=some (.refuse "") }:=by
  rw[qi,hg,Option.map_some,Qb hb hs]
 unfold Frame.enter
 simp[e,stepG,stepG.exec,Lost]
theorem dead_W:Dead Sw FW:=dead_of
def keysB (P:Program):Bool:=(List.range P.types.size).all fun t=>match P.underlying t with|some (.map k _)=>Zb P 10000 k|_=>true
theorem zee {P:Program} (h:keysB P=true) (t k e) (ht:t<P.types.size) (hu:P.underlying t=some (.map k e)):Zb P 10000 k=true:=by
 have:=List.all_eq_true.1 h t (List.mem_range.2 ht)
 rw[hu] at this
 exact this
theorem keys_W:keysB Sw=true:=by kernel_rfl
theorem fit_W (N:Nat→Prop):Fit Sw LfW (idW N):=
 ⟨⟨rfl,zee keys_W,fun _f fn h1 h2=>⟨fn,h1,h2⟩⟩,rfl,rfl,fun _ h=>h.elim,fun _ h=>h⟩
structure Job where
 N:Nat→Prop
 C:Nat
 n:Nat
 a:Value
 b:Value
 c:Value
 mv:Value
 Rl:Nat→Ending→World→Prop
 U:Nat×(Nat→Value)
structure Pl where
 s:Option Addr
 l:Nat
 m:Nat
 cost:Int
 no:Bool
def Pl.val (p:Pl):Value:=.agg #[.slice p.s p.l p.m,.int .i64 p.cost,.bool p.no]
variable (J:Job)
def PlanR (i:Nat) (Pr:Nat→Prop) (w:World) (p:Pl):Prop:=∃ (D:Ren) (v:Value) (wl:World),J.Rl i (.returned v) wl∧VRel D v p.val∧WRel D wl w∧InN J.N Pr D wl
def RowC (w:World):Prop:=∃ cs,w.heap[J.C]?=some (.cells cs 141 (0,0))∧cs.size=3*J.n
def Res (i:Nat) (Pr Sd:Nat→Prop) (w:World):Prop:=(∀ b,J.N b→Sd b)∧RowC J w∧∃ p,PlanR J i Pr w p∧w.cell? ⟨J.C,3*i,none⟩=some (.slice p.s p.l p.m)∧w.cell? ⟨J.C,3*i+1,none⟩=some (.int .i64 p.cost)∧w.cell? ⟨J.C,3*i+2,none⟩=some (.bool p.no)
structure Known (h:Held) (i:Nat) (Sd:Nat→Prop) (w:World):Prop where
 hi:i<J.n
 sdC:¬ Sd J.C
 N:∀ b,J.N b→Sd b
 sk:Sd h.k
 sm:Sd h.menu
 sg:Sd h.good
 sp:Sd h.plans
 k0:w.cell? ⟨h.k,0,none⟩=some J.a
 k1:w.cell? ⟨h.k,1,none⟩=some J.b
 k2:w.cell? ⟨h.k,2,none⟩=some J.c
 m0:w.cell? ⟨h.menu,0,none⟩=some J.mv
 g0:w.cell? ⟨h.good,0,none⟩=some (.int .i64 i)
 p0:w.cell? ⟨h.plans,0,none⟩=some (.slice (some ⟨J.C,0,none⟩) J.n J.n)
 seen:∀ b,J.N b→Seen w b
 glob:Sw.globals.size≤w.heap.size
 good:∀ w1:World,(∀ b,J.N b→w1.heap[b]?=w.heap[b]?)→w.heap.size≤w1.heap.size→w1.os=w.os→Good Sw (Done Sw 107 (J.Rl i)) ⟨Frame.enter Sw 107 #[.agg #[J.a,J.b,J.c],J.mv,.int .i64 i] .normal,[door Sw],maskN J.N w1⟩
structure JobOk:Prop where
 rel:VRel (idW J.N) (.agg #[J.a,J.b,J.c]) (.agg #[J.a,J.b,J.c])
 relm:VRel (idW J.N) J.mv J.mv
 ret:∀ i v w,J.Rl i (.returned v) w→∃ p:Pl,v=p.val
def Fact (i:Nat) (Pr:Nat→Prop) (w:World) (j:Nat) (v:Value):Prop:=
 match j with
 | 0=>v=.slice (some ⟨J.C,0,none⟩) J.n J.n
 | 1=>v=.int .i64 i
 | 2=>v=.agg #[J.a,J.b,J.c]
 | 3=>v=J.mv
 | 4=>v=.int .i64 i
 | 5=>∃ p:Pl,v=p.val∧PlanR J i Pr w p
 | 6=>v=.pointer (some ⟨J.C,i*3,none⟩)
 | _=>True
structure Slots (h:Held) (i:Nat) (l:List Nat) (T:Array Value) (Pr Sd:Nat→Prop) (w:World):Prop where
 size:T.size=12
 fix:∀ j,j<5→T[j]?=h.vals[j]?
 ok:okl dep l=true
 lt:∀ j∈l,j<8
 seven:l≠[]→7∈l
 s:∀ j,j<7→j ∉ l→∃ v,T[5+j]?=some v∧Fact J i Pr w j v
 res : 7 ∉ l→Res J i Pr Sd w
section
variable {J:Job} {h:Held} {i:Nat} {l:List Nat} {T:Array Value} {Pr Pr' Sd O:Nat→Prop} {w w1:World} {ty:TypeId} {Wg:Nat}
theorem Ja {b o:Nat} (e:w1.heap[b]?=w.heap[b]?):w1.cell? ⟨b,o,none⟩=w.cell? ⟨b,o,none⟩:=by unfold World.cell?;rw[e]
theorem Zj {b:Nat} (h:Seen w b) (e:w1.heap[b]?=w.heap[b]?):Seen w1 b:=by obtain⟨c,t,m,h1⟩:=h;exact⟨c,t,m,e.trans h1⟩
theorem Known.rely (k:Known J h i Sd w) (hb:∀ b,Sd b→w1.heap[b]?=w.heap[b]?) (hs:w.heap.size≤w1.heap.size) (ho:w1.os=w.os):Known J h i Sd w1:=
 ⟨k.hi,k.sdC,k.N,k.sk,k.sm,k.sg,k.sp,(Ja (hb _ k.sk)).trans k.k0,(Ja (hb _ k.sk)).trans k.k1,(Ja (hb _ k.sk)).trans k.k2,(Ja (hb _ k.sm)).trans k.m0,(Ja (hb _ k.sg)).trans k.g0,(Ja (hb _ k.sp)).trans k.p0,
  fun b x=>Zj (k.seen b x) (hb b (k.N b x)),Nat.le_trans k.glob hs,fun v h1 h2 h3=>k.good v (fun b x=>(h1 b x).trans (hb b (k.N b x))) (Nat.le_trans hs h2) (h3.trans ho)⟩
theorem PlanR.rely {p:Pl} (k:PlanR J i Pr w p) (hN:∀ b,J.N b→Sd b) (hb:∀ b,Pr b∨Sd b→w1.heap[b]?=w.heap[b]?) (hs:w.heap.size≤w1.heap.size) (ho:w1.os=w.os) (hp:∀ b,Pr b→Pr' b):PlanR J i Pr' w1 p:=by
 obtain⟨D,v,wl,h1,h2,h3,h4⟩:=k
 exact⟨D,v,wl,h1,h2,h3.stands (fun r b hr=>hb b ((h4 r b hr).elim (fun x=>.inr (hN b x.1)) .inl)) hs ho,fun r b hr=>(h4 r b hr).imp id (hp b)⟩
theorem RowC.rely {S:Nat→Prop} (k:RowC J w) (r:Rly ty Wg J.C S O w w1):RowC J w1:=by
 obtain⟨cs,h1,h2⟩:=k
 obtain⟨cs',h3,h4,_⟩:=r.pay cs _ _ h1
 exact⟨cs',h3,h4.trans h2⟩
theorem RowC.lt (k:RowC J w):J.C<w.heap.size:=by obtain⟨cs,h1,_⟩:=k;exact (Array.getElem?_eq_some_iff.1 h1).1
theorem zbp {S:Nat→Prop} (k:RowC J w) (r:Rly ty Wg J.C S O w w1) {o:Nat} (ho:O o):w1.cell? ⟨J.C,o,none⟩=w.cell? ⟨J.C,o,none⟩:=by
 obtain⟨cs,h1,h2⟩:=k
 obtain⟨cs',h3,h4,h5⟩:=r.pay cs _ _ h1
 simp only[World.cell?,h1,h3,Option.isSome_none,Bool.false_eq_true,if_false]
 exact h5 o ho
def cl (i o:Nat):Prop:=o / 3=i
def kw (i:Nat):Nat:=3*i+1
theorem Res.rely (k:Res J i Pr Sd w) (r:Rly ty Wg J.C (fun b=>Pr b∨Sd b) (cl i) w w1):Res J i Pr Sd w1:=by
 obtain⟨hN,hC,p,h1,h2,h3,h4⟩:=k
 refine⟨hN,hC.rely r,p,h1.rely hN r.blk r.size r.calm.os fun _ x=>x,?_,?_,?_⟩
 ·rw[zbp hC r (by unfold cl;omega)];exact h2
 ·rw[zbp hC r (by unfold cl;omega)];exact h3
 ·rw[zbp hC r (by unfold cl;omega)];exact h4
theorem Fact.other {j:Nat} {v:Value} (hne:j≠5) (k:Fact J i Pr w j v):Fact J i Pr' w1 j v:=by
 match j,hne,k with
 | 0,_,k=>exact k
 | 1,_,k=>exact k
 | 2,_,k=>exact k
 | 3,_,k=>exact k
 | 4,_,k=>exact k
 | 6,_,k=>exact k
 | n+7,_,_=>exact trivial
theorem Fact.rely {j:Nat} {v:Value} (k:Fact J i Pr w j v) (hN:∀ b,J.N b→Sd b) (hb:∀ b,Pr b∨Sd b→w1.heap[b]?=w.heap[b]?) (hs:w.heap.size≤w1.heap.size) (ho:w1.os=w.os) (hp:∀ b,Pr b→Pr' b):Fact J i Pr' w1 j v:=by
 by_cases e:j=5
 ·subst e
  obtain⟨p,h1,h2⟩:=k
  exact⟨p,h1,h2.rely hN hb hs ho hp⟩
 ·exact k.other e
theorem Slots.rely (k:Slots J h i l T Pr Sd w) (hN:∀ b,J.N b→Sd b) (r:Rly ty Wg J.C (fun b=>Pr b∨Sd b) (cl i) w w1):Slots J h i l T Pr Sd w1:=
 ⟨k.size,k.fix,k.ok,k.lt,k.seven,fun j hj hl=>let ⟨v,h1,h2⟩:=k.s j hj hl;⟨v,h1,h2.rely hN r.blk r.size r.calm.os fun _ x=>x⟩,fun hl=>(k.res hl).rely r⟩
theorem Slots.set {j:Nat} (k:Slots J h i (j::l) T Pr Sd w) (hj:j<7) {v:Value} (hv:Fact J i Pr' w1 j v) (hN:∀ b,J.N b→Sd b) (hb:∀ b,Pr b∨Sd b→w1.heap[b]?=w.heap[b]?) (hs:w.heap.size≤w1.heap.size) (ho:w1.os=w.os)
  (hp:∀ b,Pr b→Pr' b):Slots J h i l (T.setIfInBounds (5+j) v) Pr' Sd w1:=by
 have h7 : 7∈l:=(List.mem_cons.1 (k.seven (by simp))).resolve_left (by omega)
 refine⟨by simp[k.size],fun x hx=>?_,(zaC k.ok).2.2,fun x hx=>k.lt x (List.mem_cons_of_mem _ hx),fun _=>h7,fun x hx hl=>?_,fun h=>absurd h7 h⟩
 ·rw[Array.getElem?_setIfInBounds_ne (by omega)]
  exact k.fix x hx
 ·by_cases e:x=j
  ·subst e
   exact⟨v,by rw[Array.getElem?_setIfInBounds_self_of_lt (by rw[k.size];omega)],hv⟩
  ·obtain⟨u,h1,h2⟩:=k.s x hx (by simp[e,hl])
   exact⟨u,by rw[Array.getElem?_setIfInBounds_ne (by omega)];exact h1,h2.rely hN hb hs ho hp⟩
theorem Slots.five (k:Slots J h i (5::l) T Pr Sd w) (Pr':Nat→Prop) (w1:World):Slots J h i (5::l) T Pr' Sd w1:=by
 refine⟨k.size,k.fix,k.ok,k.lt,k.seven,fun j hj hl=>?_,fun h7=>absurd (k.seven (by simp)) h7⟩
 obtain⟨v,h1,h2⟩:=k.s j hj hl
 refine⟨v,h1,?_⟩
 exact h2.other fun e=>hl (by simp[e])
theorem Slots.last (k:Slots J h i (7::l) T Pr Sd w):l=[]:=by
 obtain⟨h1,h2,h3⟩:=zaC k.ok
 cases l with
 | nil=>rfl
 | cons x l =>
  exfalso
  have hx:=k.lt x (by simp)
  have h7:x≠7:=fun e=>h1 (by simp[e])
  exact h2 x (by
   have:x<7:=by omega
   have:x=0∨x=1∨x=2∨x=3∨x=4∨x=5∨x=6:=by omega
   rcases this with e|e|e|e|e|e|e<;>subst e<;>decide) (by simp)
structure Bs (J:Job) (Pr Sd:Nat→Prop) (w:World):Prop where
 c:¬ Pr J.C
 lt:∀ b,Sd b→b<w.heap.size
 dis:∀ b,Sd b→¬ Pr b
theorem Bs.rely (k:Bs J Pr Sd w) (hs:w.heap.size≤w1.heap.size):Bs J Pr Sd w1:=⟨k.c,fun b hb=>Nat.lt_of_lt_of_le (k.lt b hb) hs,k.dis⟩
theorem Bs.grow (k:Bs J Pr Sd w) (hC:RowC J w) (hs:w.heap.size≤w1.heap.size):Bs J (fun b=>Pr b∨fresh w w1 b) Sd w1:=by
 refine⟨fun x=>x.elim k.c fun y=>?_,fun b hb=>Nat.lt_of_lt_of_le (k.lt b hb) hs,fun b hb x=>x.elim (k.dis b hb) fun y=>?_⟩
 ·exact Nat.lt_irrefl _ (Nat.lt_of_lt_of_le hC.lt y.1)
 ·exact Nat.lt_irrefl _ (Nat.lt_of_lt_of_le (k.lt b hb) y.1)
theorem Bs.stands {es:Array Event} (k:Bs J Pr Sd w) (hC:¬ Sd J.C) (g:Gua J.C Pr Sd O w w1 es):∀ b,Sd b→w1.heap[b]?=w.heap[b]?:=fun b hb=>g.blk b (k.lt b hb) (k.dis b hb) fun e=>hC (e▸hb)
theorem RowC.gua {es:Array Event} (k:RowC J w) (g:Gua J.C Pr Sd O w w1 es):RowC J w1:=by
 obtain⟨cs,h1,h2⟩:=k
 obtain⟨cs',h3,h4,_⟩:=g.pay cs _ _ h1
 exact⟨cs',h3,h4.trans h2⟩
end
end
section
open Go.ConcR (KK WgAt stA smA rd wr mk DC0 Payload)
abbrev Gm:Type:=Nat×Option { s:St // Acc (fun b a=>Leads Sw 1 a b) s }
def gr (x y:Gm):Prop:=x.1<y.1∨(x.1=y.1∧∃ a b,x.2=some a∧y.2=some b∧Leads Sw 1 b.1 a.1)
theorem gr_acc' (n:Nat):∀ x:Gm,x.1=n→Acc gr x:=by
 induction n using Nat.strongRecOn with
 | _ n ih =>
  have key:∀ s,Acc (fun b a=>Leads Sw 1 a b) s→∀ h,Acc gr ((n,some ⟨s,h⟩):Gm):=by
   intro s hs
   induction hs with
   | intro s _ ihs =>
    intro h
    refine .intro _ fun y hy=>?_
    obtain⟨ny,sy⟩:=y
    rcases hy with hlt|⟨e,a,b,e1,e2,hl⟩
    ·exact ih _ hlt _ rfl
    ·simp only at e e1 e2
     cases e2
     subst e e1
     exact ihs a.1 hl a.2
  intro x hx
  obtain⟨m,s⟩:=x
  simp only at hx
  subst hx
  cases s with
  | some s=>exact key s.1 s.2 s.2
  | none =>
   refine .intro _ fun y hy=>?_
   rcases hy with hlt|⟨_,_,_,_,e2,_⟩
   ·exact ih _ hlt _ rfl
   ·cases e2
theorem zcA (x:Gm):Acc gr x:=gr_acc' _ x rfl
section
variable (J:Job) (Wg i:Nat)
abbrev RlyW (Pr Sd:Nat→Prop):World→World→Prop:=Rly link.tWg Wg J.C (fun b=>Pr b∨Sd b) (cl i)
abbrev RlyO (Pr Sd:Nat→Prop) (a b:World):Prop:=RlyW J Wg i Pr Sd a b∧RW link.tWg Wg J.C (3*J.n) 0 (kw i-1) a b
noncomputable def site (h:Held) (T:Array Value) (l:List Nat):Frame:=b105.at ⟨T,[h.done]⟩ [.inRegion ops105 l]
inductive Sit:Gm→(Pr Sd:Nat→Prop)→Goroutine→World→Prop
 | pre {h:Held} {m:Nat} {Pr Sd:Nat→Prop} {g:Goroutine} {w:World} : h.wg=Wg→Known J h i Sd w→RowC J w→Bs J Pr Sd w→Goes Try.prog false (RlyW J Wg i Pr Sd) DC0 (AtReg h) m g w→Sit (60+m,none) Pr Sd g w
 | reg {h:Held} {l:List Nat} {T:Array Value} {Pr Sd:Nat→Prop} {w:World} : h.wg=Wg→Known J h i Sd w→RowC J w→Bs J Pr Sd w→l≠[]→Slots J h i l T Pr Sd w→Sit (30+2*l.length,none) Pr Sd (G (site h T l) [bot]) w
 | inn {h:Held} {l:List Nat} {T:Array Value} {Pr Sd:Nat→Prop} {w:World} {s:St} (hs:Acc (fun b a=>Leads Sw 1 a b) s) {fr:Frame} {cs:List Frame} : h.wg=Wg→Known J h i Sd w→RowC J w→Bs J Pr Sd w→Slots J h i (5::l) T Pr Sd w →
   Inn Sw FW LfW J.N Pr 107 (J.Rl i) s fr cs w→Sit (31+2*l.length,some ⟨s,hs⟩) Pr Sd { frame:=fr,callers:=cs++[site h T (5::l),bot],status:=.running,dying:=none } w
 | out {m:Nat} {Pr Sd:Nat→Prop} {v:Value} {g:Goroutine} {w:World} : m≤26→Res J i Pr Sd w→Goes Try.prog false (RlyO J Wg i Pr Sd) DC0 (AtR0 Try.prog link.tWg Wg J.C (3*J.n) 0 (kw i) v) m g w→Sit (m,none) Pr Sd g w
end
section
variable {J:Job} {Wg i:Nat} {γ : Gm} {Pr Sd:Nat→Prop} {g:Goroutine} {w w1:World} {es:Array Event} {h:Held} {l:List Nat} {T:Array Value}
theorem RowC.row (k:RowC J w):∃ cs t m,w.heap[J.C]?=some (.cells cs t m):=let ⟨cs,h1,_⟩:=k;⟨cs,_,_,h1⟩
theorem rlyO_of (k:RowC J w) (r:RlyW J Wg i Pr Sd w w1):RlyO J Wg i Pr Sd w w1:=⟨r,r.rw _ (kw i) (by show (kw i-1) / 3=i;unfold kw;omega) k.row⟩
theorem Sit.rely (k:Sit J Wg i γ Pr Sd g w) (r:RlyW J Wg i Pr Sd w w1):Sit J Wg i γ Pr Sd g w1:=by
 cases k with
 | pre h1 h2 h3 h4 h5=>exact .pre h1 (h2.rely (fun b hb=>r.blk b (.inr hb)) r.size r.calm.os) (h3.rely r) (h4.rely r.size) (Goes.rely (fun _ _ _ x y=>x.trans y) h5 r)
 | reg h1 h2 h3 h4 h5 h6=>exact .reg h1 (h2.rely (fun b hb=>r.blk b (.inr hb)) r.size r.calm.os) (h3.rely r) (h4.rely r.size) h5 (h6.rely h2.N r)
 | inn hs h1 h2 h3 h4 h5 h6=>exact .inn hs h1 (h2.rely (fun b hb=>r.blk b (.inr hb)) r.size r.calm.os) (h3.rely r) (h4.rely r.size) (h5.rely h2.N r) (h6.rely h2.N r.blk r.size r.calm.os)
 | out h1 h2 h3=>exact .out h1 (h2.rely r) (Goes.rely (fun _ _ _ x y=>⟨x.1.trans y.1,x.2.trans y.2⟩) h3 (rlyO_of h2.2.1 r))
theorem Sit.running (k:Sit J Wg i γ Pr Sd g w):g.status=.running:=by
 cases k with
 | pre h1 h2 h3 h4 h5=>exact Goes.running (fun g w h=>by rw[h];rfl) w (Rly.refl w) h5
 | reg h1 h2 h3 h4 h5 h6=>rfl
 | inn hs h1 h2 h3 h4 h5 h6=>rfl
 | out h1 h2 h3=>exact Goes.running (fun g w h=>h.1) w ⟨Rly.refl w,RW.refl w⟩ h3
theorem zbc {C:Nat} {O:Nat→Prop} (hh:w1.heap=w.heap) (hc:Go.Par.Calm w w1) (he:∀ e∈es,EvG C (fun b=>Pr b∨fresh w w1 b) Sd O w1.heap.size e):Gua C Pr Sd O w w1 es:=
 ⟨by rw[hh];exact Nat.le_refl _,hc,fun b _ _ _=>by rw[hh],fun cs _ _ h=>⟨cs,by rw[hh];exact h,rfl,fun _ _=>rfl⟩,he⟩
theorem zdm {C:Nat} {W O:Nat→Prop} {N b o:Nat} (hb:Sd b) (hN:b<N):EvG C W Sd O N ⟨.cell ⟨b,o,none⟩,false,false⟩:=by
 refine⟨fun x hx=>.inl ⟨b,?_,.inr ⟨?_,hb⟩⟩,⟨by simp,by simp⟩,by simp,hN⟩
 ·simp[MemAct.ofEvent,MemAct.touch?] at hx;subst hx;rfl
 ·simp[MemAct.ofEvent,MemAct.touch?] at hx;subst hx;rfl
theorem evg_store {W O:Nat→Prop} {C N o:Nat} (hO:O o) (hN:C<N):EvG C W Sd O N ⟨.cell ⟨C,o,none⟩,true,false⟩:=by
 refine⟨fun x hx=>.inr ⟨⟨C,o,none⟩,?_,rfl,hO⟩,⟨by simp,by simp⟩,by simp,hN⟩
 simp[MemAct.ofEvent,MemAct.touch?] at hx;subst hx;rfl
theorem plan_inv {D:Ren} {p:Pl} {v:Value} (h:VRel D p.val v):∃ s,v=Pl.val ⟨s,p.l,p.m,p.cost,p.no⟩:=by
 obtain⟨ps,pl,pm,pc,pn⟩:=p
 unfold Pl.val at h
 cases h with
 | @agg c c' hs hi =>
  have hsz:c'.size=3:=hs
  have e:c'=#[c'[0],c'[1],c'[2]]:=by
   apply Array.ext
   ·simp[hsz]
   ·intro k h1 h2
    have:k=0∨k=1∨k=2:=by omega
    rcases this with rfl|rfl|rfl<;>rfl
  have h0:=hi 0 _ _ rfl (Array.getElem?_eq_getElem (by omega))
  have h1:=hi 1 _ _ rfl (Array.getElem?_eq_getElem (by omega))
  have h2:=hi 2 _ _ rfl (Array.getElem?_eq_getElem (by omega))
  rw[e]
  generalize c'[0]=x at h0
  generalize c'[1]=y at h1
  generalize c'[2]=z at h2
  cases h1
  cases h2
  cases h0<;>exact⟨_,rfl⟩
theorem low_site (h:Held) (T:Array Value) (l:List Nat):Low [door Sw] [site h T l,bot]:=by
 refine⟨(zaP Sw).left,fun f=>?_⟩
 unfold tryRecover
 split
 ·rename_i h1 h2
  cases h2
  rfl
 ·rename_i h1 h2
  cases h2
  rfl
 ·rfl
theorem enters (k:Known J h i Sd w) (ok:JobOk J):∃ s:St,Acc (fun b a=>Leads Sw 1 a b) s∧Inn Sw FW LfW J.N Pr 107 (J.Rl i) s (Frame.enter Try.prog 107 #[.agg #[J.a,J.b,J.c],J.mv,.int .i64 i] .normal) [] w:=by
 have hg:=k.good w (fun _ _=>rfl) (Nat.le_refl _) rfl
 have hv:VsRel (idW J.N) #[.agg #[J.a,J.b,J.c],J.mv,.int .i64 i] #[.agg #[J.a,J.b,J.c],J.mv,.int .i64 i]:=by
  refine⟨rfl,fun n x y h1 h2=>?_⟩
  rw[h1] at h2
  cases h2
  rcases n with _|_|_|n
  ·cases h1;exact ok.rel
  ·cases h1;exact ok.relm
  ·cases h1;exact .int _ _
  ·simp at h1
 have hF:¬ FW 107:=by
  intro h
  have:(spW 107||bareB Try.prog 107)=false:=by kernel_rfl
  exact Bool.noConfusion (this.symm.trans h)
 refine⟨_,hg.acc,⟨⟨idW J.N,[],rfl,⟨by simp[Frame.enter],by simp[Frame.enter],QD two_W hF .normal hv,.nil,rfl,rfl,rfl⟩,zbW k.seen k.glob,fun r b hr=>.inl ?_,fit_W J.N,fun h=>h⟩,hg⟩⟩
 obtain⟨rfl,hb⟩:=hr
 obtain⟨c,t,m,h1⟩:=k.seen _ hb
 exact⟨hb,Ya hb h1⟩
end
end
section
open Go.ConcR (KK WgAt stA smA rd wr mk DC0 Payload)
section
variable {J:Job} {Wg i:Nat} {γ : Gm} {Pr Sd:Nat→Prop} {g:Goroutine} {w w1:World} {es:Array Event} {h:Held} {l:List Nat} {T:Array Value}
theorem out_of (hw:h.wg=Wg) (hl:WgLive link.tWg Wg w) (hr:Res J i Pr Sd w):Sit J Wg i (26,none) Pr Sd (G (site h T []) [bot]) w:=by
 subst hw
 have hr':=hr
 obtain⟨_,_,p,_,h2,_,_⟩:=hr
 exact .out (v:=.slice p.s p.l p.m) (Nat.le_refl _) hr' (to_release (fun w=>⟨Rly.refl w,RW.refl w⟩) (fun _ _ r=>r.2) ⟨hl,h2⟩)
def Next (J:Job) (Wg i:Nat) (γ : Gm) (Pr Sd:Nat→Prop) (g:Goroutine) (w:World):Prop:=
 ∃ γ' g' w' es,stepG Try.prog false g w=.go g' w' es∧gr γ' γ∧Gua J.C Pr Sd (cl i) w w' es∧Sit J Wg i γ' (fun b=>Pr b∨fresh w w' b) Sd g' w'
theorem draws {m:Nat} (h1:h.wg=Wg) (h2:Known J h i Sd w) (h3:RowC J w) (h4:Bs J Pr Sd w) (e:AtReg h g w):Next J Wg i (60+m,none) Pr Sd g w:=by
 unfold AtReg at e
 subst e
 obtain⟨o1,o2,o3,o4⟩:=order_ok (w.tape w.drawn (.order b105.fn 1))
 refine⟨(30+2*8,none),_,_,_,stepG_region_draw,.inl (by show 30+2*8<60+m;omega),zbc rfl ⟨rfl,rfl,rfl⟩ (by simp),?_⟩
 rw[yj (show ({ w with drawn:=w.drawn+1 } : World).heap.size=w.heap.size from rfl)]
 have hl:=o4 7 (by omega)
 rw[← o2]
 refine Sit.reg (J:=J) h1 (h2.rely (fun _ _=>rfl) (Nat.le_refl _) rfl) h3 ⟨h4.c,h4.lt,h4.dis⟩ (List.ne_nil_of_mem hl) ⟨rfl,fun j hj=>?_,o1,o3,fun _=>hl,fun j hj hn=>absurd (o4 j (by omega)) hn,fun hn=>absurd hl hn⟩
 have:j=0∨j=1∨j=2∨j=3∨j=4:=by omega
 rcases this with rfl|rfl|rfl|rfl|rfl<;>rfl
theorem value {j:Nat} (h1:h.wg=Wg) (h2:Known J h i Sd w) (h3:RowC J w) (h4:Bs J Pr Sd w) (h6:Slots J h i (j::l) T Pr Sd w) (hj:j<7) {v:Value} {es:Array Event} (hd:(op105 j).dst=some (5+j)) (hg:(op105 j).guard=none)
  (hr:(execOp (Act.eval ⟨T,[h.done]⟩) (op105 j)).run Try.prog w=.ok (.value v) w∧(execOp (Act.eval ⟨T,[h.done]⟩) (op105 j)).events Try.prog w #[]=es) (he:∀ e∈es,∃ b o,e=⟨.cell ⟨b,o,none⟩,false,false⟩∧Sd b) (hv:Fact J i Pr w j v) :
  Next J Wg i (30+2*(j::l).length,none) Pr Sd (G (site h T (j::l)) [bot]) w:=by
 have st:=step_val (l:=l) (k:=[]) (cs:=[bot]) (ds:=[h.done]) (by omega) hd hg hr.1 hr.2 fun e he' f=>by
  obtain⟨b,o,rfl,_⟩:=he e he'
  simp
 refine⟨(30+2*l.length,none),_,_,_,st,.inl (by show 30+2*l.length<30+2*(l.length+1);omega),zbc rfl (.refl w) (fun e he'=>?_),?_⟩
 ·obtain⟨b,o,rfl,hb⟩:=he e he'
  exact zdm hb (h4.lt b hb)
 ·rw[jF]
  have h7 : 7∈l:=(List.mem_cons.1 (h6.seven (by simp))).resolve_left (by omega)
  exact Sit.reg h1 h2 h3 h4 (List.ne_nil_of_mem h7) (h6.set hj hv h2.N (fun _ _=>rfl) (Nat.le_refl _) rfl fun _ x=>x)
theorem stores (h1:h.wg=Wg) (h2:Known J h i Sd w) (h3:RowC J w) (h4:Bs J Pr Sd w) (h6:Slots J h i (7::l) T Pr Sd w) (hl:WgLive link.tWg Wg w) (hcw:J.C≠Wg):Next J Wg i (30+2*(7::l).length,none) Pr Sd (G (site h T (7::l)) [bot]) w:=by
 obtain rfl:=h6.last
 obtain⟨_,x5,p,rfl,hp⟩:=h6.s 5 (by omega) (by decide)
 obtain⟨_,x6,rfl⟩:=h6.s 6 (by omega) (by decide)
 obtain⟨cs,hrow,hsz⟩:=h3
 have hi:=h2.hi
 have cell:∀ k,k<3→∃ u,w.cell? ⟨J.C,i*3+k,none⟩=some u:=fun k hk=>by
  simp only[World.cell?,hrow,Option.isSome_none,Bool.false_eq_true,if_false]
  exact⟨_,Array.getElem?_eq_getElem (by omega)⟩
 have froz:∀ k,w.frozen? ⟨J.C,k,none⟩=false:=fun k=>by simp[World.frozen?,hrow]
 obtain⟨u0,c0⟩:=cell 0 (by omega)
 obtain⟨u1,c1⟩:=cell 1 (by omega)
 obtain⟨u2,c2⟩:=cell 2 (by omega)
 obtain⟨hr,he⟩:=run7 (ds:=[h.done]) x6 x5 c0 c1 c2 (froz _) (froz _) (froz _)
 obtain⟨k1,k2,k3,k4⟩:=zay (o:=i*3) hrow (.slice p.s p.l p.m) (.int .i64 p.cost) (.bool p.no)
 generalize ((w.setCell ⟨J.C,i*3,none⟩ (.slice p.s p.l p.m)).setCell ⟨J.C,i*3+1,none⟩ (.int .i64 p.cost)).setCell ⟨J.C,i*3+2,none⟩ (.bool p.no)=w3 at hr k1 k2 k3 k4
 have hw:Region.wanted (op105 7) (yielded ops105 (⟨T,[h.done]⟩:Act).tmps)=true:=by unfold Region.wanted;rw[op7.2.2]
 have st:=stepG_none (main:=false) (b:=b105) (k:=[]) (cs:=[bot]) (rest:=[]) (ZW 7 (by omega)) hw (by simp[b105,baseD]) hr
 have hes:listed Try.prog b105.fn ⟨T,[h.done]⟩ (op105 7) w=#[⟨.cell ⟨J.C,i*3,none⟩,true,false⟩,⟨.cell ⟨J.C,i*3+1,none⟩,true,false⟩,⟨.cell ⟨J.C,i*3+2,none⟩,true,false⟩]:=by
  unfold listed
  rw[he,seen_eq loud105 (fun e he' f=>by
   simp only[List.mem_toArray,List.mem_cons,List.not_mem_nil,or_false] at he'
   rcases he' with rfl|rfl|rfl<;>simp)]
 rw[hes,op7.2.1] at st
 have hC:=(Array.getElem?_eq_some_iff.1 hrow).1
 have hg:Gua J.C Pr Sd (cl i) w w3 #[⟨.cell ⟨J.C,i*3,none⟩,true,false⟩,⟨.cell ⟨J.C,i*3+1,none⟩,true,false⟩,⟨.cell ⟨J.C,i*3+2,none⟩,true,false⟩]:=by
  refine⟨by rw[k3];exact Nat.le_refl _,k4,fun b _ _ hb=>k2 b hb,fun cs' t' m' hc=>?_,fun e he'=>?_⟩
  ·rw[hrow] at hc
   cases hc
   refine⟨_,k1,QS ..,fun o ho=>JN ?_⟩
   unfold cl at ho
   omega
  ·simp only[List.mem_toArray,List.mem_cons,List.not_mem_nil,or_false] at he'
   rcases he' with rfl|rfl|rfl<;>exact evg_store (by unfold cl;omega) (by rw[k3];exact hC)
 refine⟨(26,none),_,w3,_,st,.inl (by show 26<30+2*1;omega),hg,?_⟩
 rw[yj k3]
 have hC3:RowC J w3:=⟨_,k1,(QS ..).trans hsz⟩
 refine out_of h1 ?_ ⟨h2.N,hC3,p,hp.rely h2.N (fun b hb=>k2 b ?_) (by rw[k3];exact Nat.le_refl _) k4.os fun _ x=>x,?_,?_,?_⟩
 ·obtain⟨st,sm,hl⟩:=hl
  exact⟨st,sm,hl.of_block (k2 Wg (Ne.symm hcw))⟩
 ·rintro rfl
  exact hb.elim h4.c h2.sdC
 ·simp only[World.cell?,k1,Option.isSome_none,Bool.false_eq_true,if_false,put3]
  rw[Nat.mul_comm 3 i,Array.getElem?_setIfInBounds_ne (by omega),Array.getElem?_setIfInBounds_ne (by omega),Array.getElem?_setIfInBounds_self_of_lt (by omega)]
 ·simp only[World.cell?,k1,Option.isSome_none,Bool.false_eq_true,if_false,put3]
  rw[Nat.mul_comm 3 i,Array.getElem?_setIfInBounds_ne (by omega),Array.getElem?_setIfInBounds_self_of_lt (by simp;omega)]
 ·simp only[World.cell?,k1,Option.isSome_none,Bool.false_eq_true,if_false,put3]
  rw[Nat.mul_comm 3 i,Array.getElem?_setIfInBounds_self_of_lt (by simp;omega)]
theorem zew:swap Sw Try.prog.funcs=Try.prog:=rfl
theorem Sit.step (ok:JobOk J) (hcw:J.C≠Wg) (k:Sit J Wg i γ Pr Sd g w) (hl:WgLive link.tWg Wg w):Next J Wg i γ Pr Sd g w ∨
  (Res J i Pr Sd w∧∃ g',stepG Try.prog false g w=.go g' w #[mk (.releaseMerge (stA Wg))]∧∃ m,Goes Try.prog false (RW link.tWg Wg J.C (3*J.n) 0 (kw i-1)) DC0 (AtK1 Try.prog link.tWg Wg J.C (3*J.n) 0 (kw i)) m g' w):=by
 cases k with
 | @pre h m _ _ _ _ h1 h2 h3 h4 h5 =>
  left
  cases m with
  | zero=>exact draws h1 h2 h3 h4 (h5 w (Rly.refl w))
  | succ m =>
   rcases h5 with h5|⟨hr,h5⟩
   ·exact draws h1 h2 h3 h4 (h5 w (Rly.refl w))
   ·have h6:=h5 w (Rly.refl w)
    cases e:stepG Try.prog false g w with
    | go g' w' es =>
     rw[e] at h6
     obtain⟨⟨rfl,rfl⟩,h7⟩:=h6
     refine⟨(60+m,none),g',w',#[],e,.inl (by show 60+m<60+(m+1);omega),.none,?_⟩
     rw[jF]
     exact .pre h1 h2 h3 h4 h7
    | _=>rw[e] at h6;exact h6.elim
 | @reg h l T _ _ _ h1 h2 h3 h4 h5 h6 =>
  left
  cases l with
  | nil=>exact absurd rfl h5
  | cons j l =>
   have hj:=h6.lt j (by simp)
   obtain⟨n1,n2,_⟩:=zaC h6.ok
   have f0:T[0]?=some (ptr h.wg):=(h6.fix 0 (by omega)).trans rfl
   have f1:T[1]?=some (ptr h.k):=(h6.fix 1 (by omega)).trans rfl
   have f2:T[2]?=some (ptr h.menu):=(h6.fix 2 (by omega)).trans rfl
   have f3:T[3]?=some (ptr h.good):=(h6.fix 3 (by omega)).trans rfl
   have f4:T[4]?=some (ptr h.plans):=(h6.fix 4 (by omega)).trans rfl
   have one:∀ {b o:Nat},Sd b→∀ e∈(#[⟨.cell ⟨b,o,none⟩,false,false⟩]:Array Event),∃ b o,e=⟨.cell ⟨b,o,none⟩,false,false⟩∧Sd b:=fun hb e he=>by
    simp only[List.mem_toArray,List.mem_cons,List.not_mem_nil,or_false] at he
    exact⟨_,_,he,hb⟩
   have:j=0∨j=1∨j=2∨j=3∨j=4∨j=5∨j=6∨j=7:=by omega
   rcases this with rfl|rfl|rfl|rfl|rfl|rfl|rfl|rfl
   ·exact value h1 h2 h3 h4 h6 (by omega) op0.2.1 op0.2.2 (run0 f4 h2.p0) (one h2.sp) rfl
   ·exact value h1 h2 h3 h4 h6 (by omega) op1.2.1 op1.2.2 (run1 f3 h2.g0) (one h2.sg) rfl
   ·refine value h1 h2 h3 h4 h6 (by omega) op2.2.1 op2.2.2 (run2 f1 h2.k0 h2.k1 h2.k2) (fun e he=>?_) rfl
    simp only[List.mem_toArray,List.mem_cons,List.not_mem_nil,or_false] at he
    rcases he with rfl|rfl|rfl<;>exact⟨_,_,rfl,h2.sk⟩
   ·exact value h1 h2 h3 h4 h6 (by omega) op3.2.1 op3.2.2 (run3 f2 h2.m0) (one h2.sm) rfl
   ·exact value h1 h2 h3 h4 h6 (by omega) op4.2.1 op4.2.2 (run4 f3 h2.g0) (one h2.sg) rfl
   ·have hn:∀ x∈dep 5,x ∉ (5::l:List Nat):=fun x hx hm=>by
     rcases List.mem_cons.1 hm with e|hm
     ·subst e;exact absurd hx (by decide)
     ·exact n2 x hx hm
    obtain⟨_,x2,rfl⟩:=h6.s 2 (by omega) (hn 2 (by decide))
    obtain⟨_,x3,rfl⟩:=h6.s 3 (by omega) (hn 3 (by decide))
    obtain⟨_,x4,rfl⟩:=h6.s 4 (by omega) (hn 4 (by decide))
    have st:=step5 (l:=l) (ds:=[h.done]) (k:=[]) (cs:=[bot]) (w:=w) x2 x3 x4
    obtain⟨s,hs,hin⟩:=enters h2 ok
    refine⟨(31+2*l.length,some ⟨s,hs⟩),_,_,_,st,.inl (by show 31+2*l.length<30+2*(l.length+1);omega),.none,?_⟩
    rw[jF]
    exact Sit.inn hs h1 h2 h3 h4 h6 hin
   ·have hn:∀ x∈dep 6,x ∉ (6::l:List Nat):=fun x hx hm=>by
     rcases List.mem_cons.1 hm with e|hm
     ·subst e;exact absurd hx (by decide)
     ·exact n2 x hx hm
    obtain⟨_,x0,rfl⟩:=h6.s 0 (by omega) (hn 0 (by decide))
    obtain⟨_,x1,rfl⟩:=h6.s 1 (by omega) (hn 1 (by decide))
    exact value h1 h2 h3 h4 h6 (by omega) op6.2.1 op6.2.2 (run6 x0 x1 h2.hi) (fun e he=>by simp at he) rfl
   ·exact stores h1 h2 h3 h4 h6 hl hcw
 | @inn h l T _ _ _ s hs fr cs h1 h2 h3 h4 h5 h6 =>
  left
  have hC:¬ J.N J.C∧¬ Pr J.C:=⟨fun x=>h2.sdC (h2.N _ x),h4.c⟩
  rcases h6.step (fs:=Try.prog.funcs) (Sd:=Sd) (O:=cl i) (C:=J.C) two_W dead_W (low_site h T (5::l)) h2.N hC false with ⟨_,s1,fr1,cs1,w1,es,hl1,hst,hgua,hin⟩|hstop
  ·rw[zew] at hst
   refine⟨(31+2*l.length,some ⟨s1,hs.inv hl1⟩),_,_,_,hst,.inr ⟨rfl,_,_,rfl,rfl,hl1⟩,hgua,?_⟩
   exact Sit.inn _ h1 (h2.rely (h4.stands h2.sdC hgua) hgua.size hgua.calm.os) (h3.gua hgua) (h4.grow h3 hgua.size) (h5.five _ _) hin
  ·obtain⟨v,v',wl,w1,es,D,hcs,hst,hR,hv,hw,hin,hgua⟩:=h6.last (fs:=Try.prog.funcs) (Sd:=Sd) (O:=cl i) (C:=J.C) (c:=site h T (5::l)) (rest:=[bot]) two_W h2.N hC false hstop
   rw[zew] at hst
   obtain⟨p,rfl⟩:=ok.ret _ _ _ hR
   obtain⟨s',rfl⟩:=plan_inv hv
   have e:(site h T (5::l)).finish (Pl.val ⟨s',p.l,p.m,p.cost,p.no⟩)=site h (T.setIfInBounds (5+5) (Pl.val ⟨s',p.l,p.m,p.cost,p.no⟩)) l:=by
    unfold site
    rw[Frame.finish_at,ZW 5 (by omega),Option.bind_some,op5.2.1]
    rfl
   rw[e] at hst
   have h7 : 7∈l:=(List.mem_cons.1 (h5.seven (by simp))).resolve_left (by omega)
   refine⟨(30+2*l.length,none),_,_,_,hst,.inl (by show 30+2*l.length<31+2*l.length;omega),hgua,?_⟩
   exact Sit.reg h1 (h2.rely (h4.stands h2.sdC hgua) hgua.size hgua.calm.os) (h3.gua hgua) (h4.grow h3 hgua.size) (List.ne_nil_of_mem h7)
    ((h5.five (fun b=>Pr b∨fresh w w1 b) w1).set (j:=5) (w1:=w1) (by omega) ⟨_,rfl,D,_,wl,hR,hv,hw,hin⟩ h2.N (fun _ _=>rfl) (Nat.le_refl _) rfl fun _ x=>x)
 | @out m _ _ v _ _ h1 h2 h3 =>
  have stop:AtR0 Try.prog link.tWg Wg J.C (3*J.n) 0 (kw i) v g w→(Res J i Pr Sd w∧∃ g',stepG Try.prog false g w=.go g' w #[mk (.releaseMerge (stA Wg))]∧∃ m,Goes Try.prog false (RW link.tWg Wg J.C (3*J.n) 0 (kw i-1)) DC0 (AtK1 Try.prog link.tWg Wg J.C (3*J.n) 0 (kw i)) m g' w):=
   fun hx=>⟨h2,hx.2.2⟩
  cases m with
  | zero=>exact .inr (stop (h3 w ⟨Rly.refl w,RW.refl w⟩))
  | succ m =>
   rcases h3 with h3|⟨hr,h3⟩
   ·exact .inr (stop (h3 w ⟨Rly.refl w,RW.refl w⟩))
   ·have h6:=h3 w ⟨Rly.refl w,RW.refl w⟩
    cases e:stepG Try.prog false g w with
    | go g' w' es =>
     rw[e] at h6
     obtain⟨⟨rfl,rfl⟩,h7⟩:=h6
     left
     refine⟨(m,none),g',w',#[],e,.inl (Nat.lt_succ_self m),.none,?_⟩
     rw[jF]
     exact .out (by omega) h2 h7
    | _=>rw[e] at h6;exact h6.elim
end
noncomputable def worker (J:Job) (Wg:Nat) (ok:JobOk J) (hcw:J.C≠Wg):Wkr Try.prog link.tWg Wg J.C (3*J.n) cl kw where
 Γ:=Gm
 r:=gr
 z:=(0,none)
 hz:=zcA _
 Sit:=Sit J Wg
 Res:=Res J
 acc:=fun _=>zcA _
 rely:=fun h r=>h.rely r
 keep:=fun h r=>h.rely r
 run:=fun h=>h.running
 step:=fun h hl _=>h.step ok hcw hl
end
section
open Go.ConcR (KK WgAt stA smA rd wr mk DC0 Payload)
def Zu:Code→List (Array Oper)
 | .region _ ops _=>[ops]
 | .seq x y=>Zu x++Zu y
 | .cond _ x y=>Zu x++Zu y
 | .block _ c=>Zu c
 | .loop c=>Zu c
 | .scope c=>Zu c
 | .rangeFunc _ _ x y=>Zu x++Zu y
 | _=>[]
noncomputable def R74 (r:Nat):Array Oper:=((Zu body74)[r]?).getD #[]
noncomputable def o74 (r i:Nat):Oper:=((R74 r)[i]?).getD default
noncomputable def tail74:Code:=Qs body74
noncomputable def in74:Code:=.seq (.region 5 (R74 5) false) (.seq (.region 6 (R74 6) false) (.region 7 (R74 7) false))
noncomputable def round74:Code:=.seq (.region 4 (R74 4) false) (.seq (.cond (.tmp 24) .skip (.exit 0)) (.seq (.block 1 in74) (.region 8 (R74 8) false)))
noncomputable def loop74:Code:=.block 0 (.loop round74)
theorem body74_eq:body74=.seq (.region 0 (R74 0) false) (.seq (.region 1 (R74 1) false) (.seq (.region 2 (R74 2) false) (.seq (.seq (.region 3 (R74 3) false) loop74) (.seq (.region 9 (R74 9) false) tail74)))):=by kernel_rfl
theorem z0:(R74 0).size=5:=by kernel_rfl
theorem z1:(R74 1).size=6:=by kernel_rfl
theorem z2:(R74 2).size=1:=by kernel_rfl
theorem z3:(R74 3).size=4:=by kernel_rfl
theorem z4:(R74 4).size=1:=by kernel_rfl
theorem z5:(R74 5).size=3:=by kernel_rfl
theorem z6:(R74 6).size=1:=by kernel_rfl
theorem z7:(R74 7).size=2:=by kernel_rfl
theorem z8:(R74 8).size=2:=by kernel_rfl
theorem z9:(R74 9).size=1:=by kernel_rfl
theorem get74 {r i:Nat} (h:i<(R74 r).size):(R74 r)[i]?=some (o74 r i):=by
 unfold o74
 rw[Array.getElem?_eq_getElem h]
 rfl
theorem p00:(o74 0 0).op=.box 29 (.tmp 0)∧(o74 0 0).dst=some 2∧(o74 0 0).guard=none:=by refine⟨?_,?_,?_⟩<;>kernel_rfl
theorem p01:(o74 0 1).op=.box 22 (.tmp 1)∧(o74 0 1).dst=some 3∧(o74 0 1).guard=none:=by refine⟨?_,?_,?_⟩<;>kernel_rfl
theorem p02:(o74 0 2).op=.assign (.const (.slice none 0 0))∧(o74 0 2).dst=some 4∧(o74 0 2).guard=none:=by refine⟨?_,?_,?_⟩<;>kernel_rfl
theorem p03:(o74 0 3).op=.assign (.const (.int .i64 0))∧(o74 0 3).dst=some 5∧(o74 0 3).guard=none:=by refine⟨?_,?_,?_⟩<;>kernel_rfl
theorem p04:(o74 0 4).op=.assign (.const (.bool false))∧(o74 0 4).dst=some 6∧(o74 0 4).guard=none:=by refine⟨?_,?_,?_⟩<;>kernel_rfl
theorem p10:(o74 1 0).op=.fieldAddr 29 (.tmp 2) 0∧(o74 1 0).dst=some 16∧(o74 1 0).guard=none:=by refine⟨?_,?_,?_⟩<;>kernel_rfl
theorem p11:(o74 1 1).op=.load 25 (.tmp 16)∧(o74 1 1).dst=some 17∧(o74 1 1).guard=none:=by refine⟨?_,?_,?_⟩<;>kernel_rfl
theorem p12:(o74 1 2).op=.call { callee:=.builtin .len,args:=#[.tmp 17],argTypes:=#[25] }∧(o74 1 2).dst=some 18∧(o74 1 2).guard=none:=by refine⟨?_,?_,?_⟩<;>kernel_rfl
theorem p13:(o74 1 3).op=.makeSlice 129 (.tmp 18) (.tmp 18)∧(o74 1 3).dst=some 19∧(o74 1 3).guard=none:=by refine⟨?_,?_,?_⟩<;>kernel_rfl
theorem p14:(o74 1 4).op=.alloc 129∧(o74 1 4).dst=some 7∧(o74 1 4).guard=none:=by refine⟨?_,?_,?_⟩<;>kernel_rfl
theorem p15:(o74 1 5).op=.store 129 (.tmp 7) (.tmp 19)∧(o74 1 5).dst=none∧(o74 1 5).guard=none:=by refine⟨?_,?_,?_⟩<;>kernel_rfl
theorem p20:(o74 2 0).op=.alloc 138∧(o74 2 0).dst=some 8∧(o74 2 0).guard=none:=by refine⟨?_,?_,?_⟩<;>kernel_rfl
theorem p30:(o74 3 0).op=.fieldAddr 29 (.tmp 2) 0∧(o74 3 0).dst=some 20∧(o74 3 0).guard=none:=by refine⟨?_,?_,?_⟩<;>kernel_rfl
theorem p31:(o74 3 1).op=.load 25 (.tmp 20)∧(o74 3 1).dst=some 21∧(o74 3 1).guard=none:=by refine⟨?_,?_,?_⟩<;>kernel_rfl
theorem p32:(o74 3 2).op=.call { callee:=.builtin .len,args:=#[.tmp 21],argTypes:=#[25] }∧(o74 3 2).dst=some 22∧(o74 3 2).guard=none:=by refine⟨?_,?_,?_⟩<;>kernel_rfl
theorem p33:(o74 3 3).op=.move (.const (.int .i64 0))∧(o74 3 3).dst=some 23∧(o74 3 3).guard=none:=by refine⟨?_,?_,?_⟩<;>kernel_rfl
theorem p40:(o74 4 0).op=.binOp .lss 3 (.tmp 23) (.tmp 22) 3∧(o74 4 0).dst=some 24∧(o74 4 0).guard=none:=by refine⟨?_,?_,?_⟩<;>kernel_rfl
theorem p50:(o74 5 0).op=.move (.tmp 23)∧(o74 5 0).dst=some 25∧(o74 5 0).guard=none:=by refine⟨?_,?_,?_⟩<;>kernel_rfl
theorem p51:(o74 5 1).op=.alloc 3∧(o74 5 1).dst=some 9∧(o74 5 1).guard=none:=by refine⟨?_,?_,?_⟩<;>kernel_rfl
theorem p52:(o74 5 2).op=.store 3 (.tmp 9) (.tmp 25)∧(o74 5 2).dst=none∧(o74 5 2).guard=none:=by refine⟨?_,?_,?_⟩<;>kernel_rfl
theorem p60:(o74 6 0).op=.call { callee:=.value (.func 104),args:=#[.tmp 8,.const (.int .i64 1)],argTypes:=#[138,3] }∧(o74 6 0).dst=some 26∧(o74 6 0).guard=none:=by refine⟨?_,?_,?_⟩<;>kernel_rfl
theorem p70:(o74 7 0).op=.makeFunc (.func 105) #[] #[.tmp 8,.tmp 2,.tmp 3,.tmp 9,.tmp 7]∧(o74 7 0).dst=some 27∧(o74 7 0).guard=none:=by refine⟨?_,?_,?_⟩<;>kernel_rfl
theorem p71:(o74 7 1).op=.go { callee:=.value (.tmp 27),args:=#[],argTypes:=#[] }∧(o74 7 1).dst=none∧(o74 7 1).guard=none:=by refine⟨?_,?_,?_⟩<;>kernel_rfl
theorem p80:(o74 8 0).op=.binOp .add 3 (.tmp 23) (.const (.int .i64 1)) 3∧(o74 8 0).dst=some 28∧(o74 8 0).guard=none:=by refine⟨?_,?_,?_⟩<;>kernel_rfl
theorem p81:(o74 8 1).op=.move (.tmp 28)∧(o74 8 1).dst=some 23∧(o74 8 1).guard=none:=by refine⟨?_,?_,?_⟩<;>kernel_rfl
theorem p90:(o74 9 0).op=.call { callee:=.value (.func 108),args:=#[.tmp 8],argTypes:=#[138] }∧(o74 9 0).dst=some 29∧(o74 9 0).guard=none:=by refine⟨?_,?_,?_⟩<;>kernel_rfl
theorem loud74:(Try.prog.funcs[74]?).any (·.norace)=false:=by kernel_rfl
end
end Go.Gal
