/- The company: the starter's own steps, and its go statement. The company: the invariant with its measure; a worker's step. The company: a worker's step keeps the invariant and lowers the .. -/
import Derived.Test.YtlgiofglcgbjgaaM09
namespace Go.Par
open Go
section
open Go.Conc (Deaf Leavers Knows touchAt QuitsD Goes semEvents NoRelease woken crowd)
open Go.ConcN (CT Ok0 OkW Apart sumTo upd upd_same upd_ne WD CTag Mode Vc Ssum Fsum cnt pend phi WSit RW AtK1 WgLive RelBy)
open Go.ConcR (KK WgAt stA smA rd wr mk Payload DC0 g_of_ofEvents)
section
variable {P:Program} [Payload] {ty:TypeId} {Wg C nC:Nat} {cl:Nat→Nat→Prop} {kw:Nat→Nat} {W:Wkr P ty Wg C nC cl kw} {n k0:Nat} {Sb:Nat→Prop} {K:Nat→Prop} {w1:World}
 {G:Gh W.Γ} {gs:Array Goroutine} {w w':World} {t:Trace} {d0:Nat} {q:Nat→Nat} {i:Nat} {a a':Goroutine} {es:Array Event}
def Ev0 (Wg:Nat) (Sb V M:Nat→Prop) (N:Nat) (e:Event):Prop:=
 (∀ x,(MemAct.ofEvent e).touch?=some x→(ShF Wg Sb x.loc∧x.kind≠.plain)∨∃ b,locB x.loc=some b∧(M b∨(V b∧x.write=false)))∧e.loc≠.mark (.release (stA Wg))∧(MemAct.ofEvent e).low N
theorem Com.step0 (hcl:∀ i i' o,cl i o→cl i' o→i=i') (hkw:∀ i,cl i (kw i-1)) (hk0 : 1≤k0) (h:Com W n k0 Sb K w1 G gs w t d0 q) (he:Else ty Wg C G.M (fun _=>False) w w')
  {V' M':Nat→Prop} (hV:∀ b,V' b→G.V b∨fresh w w' b) (hV2:∀ b,G.V b→V' b) (hM:∀ b,M' b→G.M b∨fresh w w' b) (hM2:∀ b,M' b→V' b)
  (hev:∀ e∈es,Ev0 Wg Sb V' M' w'.heap.size e) :
  Com W n k0 Sb K w1 { G with V:=V',M:=M' } ((gs.map (woken P a a' w')).setIfInBounds 0 a') w' (t++MemOp.ofEvents 0 a.frame.fn a.frame.place es) (deafBehind d0 es) q:=by
 have hsz:=he.size
 have newN:∀ b,fresh w w' b→b≠C∧b≠Wg∧¬ Sb b∧¬ G.V b∧∀ i,i<G.j→¬ G.Pr i b:=fun b hb =>
  ⟨fun e=>by have:=h.geo.old b (.inl e);have:=hb.1;omega,fun e=>by have:=h.geo.old b (.inr (.inl e));have:=hb.1;omega,fun e=>by have:=h.geo.old b (.inr (.inr e));have:=hb.1;omega,
   fun e=>by have:=(h.geo.v b e).1;have:=hb.1;omega,fun i hi e=>by have:=(h.geo.pr i b hi e).1;have:=hb.1;omega⟩
 have hgeo:Geo Wg C n Sb { G with V:=V',M:=M' } w':=by
  refine⟨h.geo.jn,fun b hb=>?_,hM2,fun i b hi hb=>?_,h.geo.dis,fun i b hi hb=>?_,fun b hb=>Nat.lt_of_lt_of_le (h.geo.old b hb) hsz,h.geo.cw,h.geo.cs⟩
  ·rcases hV b hb with x|x
   ·have:=h.geo.v b x;exact⟨Nat.lt_of_lt_of_le this.1 hsz,this.2⟩
   ·have:=newN b x;exact⟨x.2,this.1,this.2.1,this.2.2.1⟩
  ·have:=h.geo.pr i b hi hb
   refine⟨Nat.lt_of_lt_of_le this.1 hsz,this.2.1,this.2.2.1,this.2.2.2.1,fun hv=>?_⟩
   rcases hV b hv with x|x
   ·exact this.2.2.2.2 x
   ·exact (newN b x).2.2.2.2 i hi hb
  ·have:=h.geo.sd i b hi hb
   refine⟨hV2 b this.1,fun hm=>?_⟩
   rcases hM b hm with x|x
   ·exact this.2 x
   ·exact (newN b x).2.2.2.1 this.1
 have A:=hgeo.apart (k0:=k0) hcl
 have hkg:∀ op∈MemOp.ofEvents 0 a.frame.fn a.frame.place es,op.g=0:=g_of_ofEvents
 have hrly:∀ i,i<G.j→Rly ty Wg C (fun b=>G.Pr i b∨G.Sd i b) (cl i) w w':=fun i hi=>he.rly (fun b hb=>by
  rcases hb with hb|hb
  ·have:=h.geo.pr i b hi hb
   exact⟨this.1,fun hx=>this.2.2.2.2 (h.geo.m b hx),this.2.1,this.2.2.1⟩
  ·have hs:=h.geo.sd i b hi hb
   have:=h.geo.v b hs.1
   exact⟨this.1,hs.2,this.2.1,this.2.2.1⟩) (fun o _ hf=>hf)
 have hsize:=h.size
 refine⟨by show _=k0+G.j;simpa using h.size,fun i x hi hik hx=>?_,fun i hi=>?_,hgeo,CT.app0 (j:=k0+G.j-1) A h.ct fun op hop=>⟨hkg op hop,fun x hx=>?_⟩,h.norel.app fun op hop hm=>?_,
  by rw[Go.Conc.Deaf_own,h.deaf0],fun i hi=>by rw[Go.Conc.Deaf_other t (by omega) _ hkg];exact h.deafW i hi,fun i hi hst=>?_,zcz h.kn fun op hop=>.inl (hkg op hop),JR h.over fun op hop=>.inl (hkg op hop),
  Go.Conc.seen_app (fun op hop=>MemAct.low_mono hsz (h.low op hop)) fun op hop=>?_,?_,fun b hb=>?_,h.calm.trans he.calm,Nat.le_trans h.grow hsz⟩
 ·rw[Zn _ _ _ _ (by omega)] at hx
  obtain⟨y,hy,rfl⟩:=Option.map_eq_some_iff.1 hx
  have hq:=h.lv i y hi hik hy
  rw[Go.Conc.woken_quitsD hq,Go.Conc.Deaf_other t (by omega) _ hkg]
  exact hq
 ·obtain⟨x,hx,hsx⟩:=h.wk i hi
  exact⟨x,by rw[Zn _ _ _ _ (by omega),hx,Option.map_some,hsx.woken],hsx.rely hkw h.row (hrly i hi)⟩
 ·obtain⟨e,hem,rfl⟩:=Go.Conc.mem_ofEvents hop
  rcases (hev e hem).1 x hx with x1|⟨b,hb,hp⟩
  ·exact .inl x1
  ·have hvb:V' b:=hp.elim (hM2 b) (·.1)
   have hv:=hgeo.v b hvb
   refine .inr ⟨?_,?_,?_⟩
   ·rintro⟨c,hc,hs⟩
    rw[hc] at hb
    cases hb
    exact hs.elim hv.2.2.2 hv.2.2.1
   ·rintro k _ _ ⟨i,hi,rfl,⟨b',hb',hp'⟩|⟨c,hc,hcc,_⟩⟩
    ·rw[hb] at hb'
     cases hb'
     exact (hgeo.pr i b hi hp').2.2.2.2 hvb
    ·rw[hc] at hb
     cases hb
     exact hv.2.1 hcc
   ·rintro hw k _ _ ⟨i,hi,rfl,b',hb',hs⟩
    rw[hb] at hb'
    cases hb'
    rcases hp with hm|⟨_,hw'⟩
    ·exact (hgeo.sd i b hi hs).2 hm
    ·rw[hw] at hw';cases hw'
 ·obtain⟨e,hem,rfl⟩:=Go.Conc.mem_ofEvents hop
  exact (hev e hem).2.1 (Go.ConcR.loc_of_ofEvent hm)
 ·obtain⟨r,hr⟩:=h.rel i hi hst
  exact⟨r,hr.appOther hkg (by omega)⟩
 ·obtain⟨e,hem,rfl⟩:=Go.Conc.mem_ofEvents hop
  exact (hev e hem).2.2
 ·obtain⟨cs,ct,m,hc⟩:=h.row
  obtain⟨cs',h1,_,_⟩:=he.pay _ _ _ hc
  exact⟨cs',ct,m,h1⟩
 ·obtain⟨h1,h2,h3⟩:=h.keep b hb
  have hv:=h.geo.v b h1
  refine⟨hV2 b h1,fun hm=>?_,(he.blk b hv.1 h2 hv.2.1 hv.2.2.1).trans h3⟩
  rcases hM b hm with x|x
  ·exact h2 x
  ·exact (newN b x).2.2.2.1 h1
def Gh.spawn {Γ : Type} (G:Gh Γ) (γ : Γ):Gh Γ:=
 { j:=G.j+1,D:=upd G.D G.j ⟨7,0,0⟩,γ:=upd G.γ G.j γ,Pr:=upd G.Pr G.j (fun _=>False),Sd:=upd G.Sd G.j G.V,V:=G.V,M:=fun _=>False }
theorem Com.spawn (hcl:∀ i i' o,cl i o→cl i' o→i=i') (hk0 : 1≤k0) (h:Com W n k0 Sb K w1 G gs w t 0 q) (hj:G.j<n) {γ : W.Γ} {child:Goroutine} (hc:W.Sit G.j γ (fun _=>False) G.V child w) {x y:MemOp}
  (hx:x.g=0∧x.act=.go (k0+G.j)) (hy:y.g=k0+G.j∧y.act=.start) :
  Com W n k0 Sb K w1 (G.spawn γ) ((gs.setIfInBounds 0 a').push child) w (t++#[x,y]) 0 q:=by
 have hm:∀ op∈#[x,y],op=x∨op=y:=by intro op hop;simpa using hop
 have hst:∀ op∈#[x,y],op.act≠.mark .disable∧op.act≠.mark .enable:=by
  intro op hop
  rcases hm op hop with rfl|rfl
  ·rw[hx.2];exact⟨by simp,by simp⟩
  ·rw[hy.2];exact⟨by simp,by simp⟩
 have hnt:∀ op∈#[x,y],op.act.touch?=none:=by
  intro op hop
  rcases hm op hop with rfl|rfl
  ·rw[hx.2];rfl
  ·rw[hy.2];rfl
 have hsize:=h.size
 have hgeo:Geo Wg C n Sb (G.spawn γ) w:=by
  refine⟨hj,h.geo.v,fun _ hf=>hf.elim,fun i b hi hb=>?_,fun i i' b hi hi' hb hb'=>?_,fun i b hi hb=>?_,h.geo.old,h.geo.cw,h.geo.cs⟩
  ·have hb1:upd G.Pr G.j (fun _=>False) i b:=hb
   by_cases e:i=G.j
   ·subst e;rw[upd_same] at hb1;exact hb1.elim
   ·rw[upd_ne _ _ e] at hb1
    exact h.geo.pr i b (by have:i<G.j+1:=hi;omega) hb1
  ·have hb1:upd G.Pr G.j (fun _=>False) i b:=hb
   have hb2:upd G.Pr G.j (fun _=>False) i' b:=hb'
   have e:i≠G.j:=fun e=>by subst e;rw[upd_same] at hb1;exact hb1
   have e':i'≠G.j:=fun e=>by subst e;rw[upd_same] at hb2;exact hb2
   rw[upd_ne _ _ e] at hb1
   rw[upd_ne _ _ e'] at hb2
   exact h.geo.dis i i' b (by have:i<G.j+1:=hi;omega) (by have:i'<G.j+1:=hi';omega) hb1 hb2
  ·have hb1:upd G.Sd G.j G.V i b:=hb
   refine⟨?_,fun hf=>hf⟩
   by_cases e:i=G.j
   ·subst e;rw[upd_same] at hb1;exact hb1
   ·rw[upd_ne _ _ e] at hb1
    exact (h.geo.sd i b (by have:i<G.j+1:=hi;omega) hb1).1
 have A:=hgeo.apart (k0:=k0) hcl
 have hct:CT (ShF Wg Sb) (OwnF C k0 cl (G.spawn γ)) (RdF k0 (G.spawn γ)) t (k0+G.j-1):=by
  refine zen h.ct (fun k l _ hk hx=>?_) (fun k l _ hk=>⟨fun hx=>?_,fun hx=>?_⟩) (fun k l _ hk hx=>.inl ?_)
  ·obtain⟨i,hi,rfl,hx⟩:=hx
   refine⟨i,Nat.lt_succ_of_lt hi,rfl,hx.imp (fun ⟨b,hb,hp⟩=>⟨b,hb,?_⟩) id⟩
   show upd G.Pr G.j (fun _=>False) i b
   rw[upd_ne _ _ (by omega)];exact hp
  ·obtain⟨i,hi,rfl,b,hb,hs⟩:=hx
   have hi':i<G.j:=by omega
   have hs1:upd G.Sd G.j G.V i b:=hs
   rw[upd_ne _ _ (by omega)] at hs1
   exact⟨i,hi',rfl,b,hb,hs1⟩
  ·obtain⟨i,hi,rfl,b,hb,hs⟩:=hx
   refine⟨i,Nat.lt_succ_of_lt hi,rfl,b,hb,?_⟩
   show upd G.Sd G.j G.V i b
   rw[upd_ne _ _ (by omega)];exact hs
  ·obtain⟨i,hi,rfl,hx⟩:=hx
   have hi':i<G.j:=by omega
   refine⟨i,hi',rfl,hx.imp (fun ⟨b,hb,hp⟩=>⟨b,hb,?_⟩) id⟩
   have hp1:upd G.Pr G.j (fun _=>False) i b:=hp
   rwa [upd_ne _ _ (by omega)] at hp1
 have hfork:=hct.fork A (x:=x) (y:=y) (by rw[show k0+G.j-1+1=k0+G.j by omega];exact hx) (by rw[show k0+G.j-1+1=k0+G.j by omega];exact hy) h.deaf0
 refine⟨by show _=k0+(G.j+1);simp[hsize];omega,fun i z hi hik hz=>?_,fun i hi=>?_,hgeo,by show CT _ _ _ _ (k0+(G.j+1)-1);rw[show k0+(G.j+1)-1=k0+G.j-1+1 by omega];exact hfork,h.norel.app fun op hop=>?_,
  by rw[Go.ConcN.Deaf_still t 0 _ hst,h.deaf0],fun i hi=>?_,fun i hi hs=>?_,zcz h.kn fun op hop=>.inr (.inl (hnt op hop)),JR h.over fun op hop=>.inr (.inr (hnt op hop)),Go.Conc.seen_app h.low fun op hop=>?_,h.row,fun b hb=>?_,h.calm,h.grow⟩
 ·rw[Array.getElem?_push_lt (by simp[hsize];omega),← Array.getElem?_eq_getElem,Array.getElem?_setIfInBounds_ne (by omega)] at hz
  rw[Go.ConcN.Deaf_still t _ _ hst]
  exact h.lv i z hi hik hz
 ·have hi':i<G.j+1:=hi
  by_cases e:i=G.j
  ·subst e
   refine⟨child,?_,?_⟩
   ·rw[show k0+G.j=(gs.setIfInBounds 0 a').size by simp[hsize],Array.getElem?_push_size]
   ·show SitW W G.j (upd G.D G.j _ G.j) (upd G.γ G.j γ G.j) (upd G.Pr G.j _ G.j) (upd G.Sd G.j G.V G.j) child w
    rw[upd_same,upd_same,upd_same,upd_same]
    exact .inl ⟨rfl,rfl,hc⟩
  ·obtain⟨z,hz,hsz⟩:=h.wk i (by omega)
   refine⟨z,?_,?_⟩
   ·rw[Array.getElem?_push_lt (by simp[hsize];omega),← Array.getElem?_eq_getElem,Array.getElem?_setIfInBounds_ne (by omega)]
    exact hz
   ·show SitW W i (upd G.D G.j _ i) (upd G.γ G.j γ i) (upd G.Pr G.j _ i) (upd G.Sd G.j G.V i) z w
    rw[upd_ne _ _ e,upd_ne _ _ e,upd_ne _ _ e,upd_ne _ _ e]
    exact hsz
 ·rcases hm op hop with rfl|rfl
  ·rw[hx.2];simp
  ·rw[hy.2];simp
 ·show Deaf _ (k0+i)=(upd G.D G.j _ i).deaf
  have hi':i<G.j+1:=hi
  rw[Go.ConcN.Deaf_still t _ _ hst]
  by_cases e:i=G.j
  ·subst e
   rw[upd_same]
   exact Go.ConcN.Deaf_absent fun b op hb e=>by have:=h.ct.gs b op hb;omega
  ·rw[upd_ne _ _ e]
   exact h.deafW i (by omega)
 ·have hs':(upd G.D G.j (⟨7,0,0⟩:WD) i).stage≤6:=hs
  have hi':i<G.j+1:=hi
  by_cases e:i=G.j
  ·subst e;rw[upd_same] at hs';simp at hs'
  ·rw[upd_ne _ _ e] at hs'
   obtain⟨r,hr⟩:=h.rel i (by omega) hs'
   refine⟨r,hr.appNot fun op hop=>?_⟩
   rcases hm op hop with rfl|rfl
   ·rw[hx.1];omega
   ·rw[hy.1];omega
 ·rcases hm op hop with rfl|rfl
  ·rw[hx.2];trivial
  ·rw[hy.2];trivial
 ·obtain⟨h1,_,h3⟩:=h.keep b hb
  exact⟨h1,fun hf=>hf,h3⟩
end
end
section
open Go.Conc (Deaf Leavers Knows touchAt QuitsD Goes semEvents NoRelease woken crowd Aside aside_setCell)
open Go.ConcN (CT Ok0 OkW Apart sumTo sumTo_upd sumTo_congr le_sumTo upd upd_same upd_ne WD CTag Mode Vc Ssum Fsum cnt pend phi WSit RW AtK1 WgLive RelBy Vc_le Vc_upd OpenSt AllQuit isW3 isOpen isFin phi_retag phi_mono others_uncounted bk_cell)
open Go.ConcR (KK WgAt stA smA rd wr mk Payload DC0 Bk g_of_ofEvents bk_of_mute ofEvent_loc_mark)
def UpF {α : Type} (r : α→α→Prop) (n:Nat) (f' f:Nat→α):Prop:=∃ i x,i<n∧r x (f i)∧f'=upd f i x
theorem zct {α : Type} {r : α→α→Prop} : ∀ (n:Nat) (f:Nat→α),(∀ i,i<n→Acc r (f i))→Acc (UpF r n) f
 | 0,_,_=>⟨_,fun _ ⟨_,_,h,_⟩=>by omega⟩
 | n+1,f,h=>by
  have key:∀ a,Acc r a→∀ f:Nat→α,f n=a→(∀ i,i<n→Acc r (f i))→Acc (UpF r (n+1)) f:=by
   intro a ha
   induction ha with
   | intro a _ iha =>
    intro f hf hall
    have hn:=zct n f hall
    induction hn with
    | intro f _ ihf =>
     refine⟨_,fun f' ⟨i,x,hi,hr,e⟩=>?_⟩
     subst e
     by_cases e:i=n
     ·subst e
      exact iha x (by rw[← hf];exact hr) _ (upd_same f i x) fun k hk=>by rw[upd_ne f x (by omega)];exact hall k hk
     ·refine ihf _ ⟨i,x,by omega,hr,rfl⟩ (by rw[upd_ne f x (by omega)];exact hf) fun k hk=>?_
      by_cases e2:k=i
      ·subst e2;rw[upd_same];exact (hall k hk).inv hr
      ·rw[upd_ne f x e2];exact hall k hk
  exact key (f n) (h n (by omega)) f rfl fun i hi=>h i (by omega)
section
variable {P:Program} [Payload] {ty:TypeId} {Wg C nC:Nat} {cl:Nat→Nat→Prop} {kw:Nat→Nat} (W:Wkr P ty Wg C nC cl kw) (n k0:Nat) (Sb:Nat→Prop) (K:Nat→Prop) (w1:World)
 (Anch Out:(V:Nat→Prop)→Goroutine→World→Prop)
def BornW (i:Nat) (V:Nat→Prop) (g:Goroutine) (w:World):Prop:=(WgLive ty Wg w→(∃ cs t m,w.heap[C]?=some (.cells cs t m))→∃ γ,W.Sit i γ (fun _=>False) V g w)
def AcqBy (Wg:Nat) (Sb:Nat→Prop) (k0 j:Nat) (t:Trace):Prop:=
 ∃ q,t.act? q=some (.mark (.acquire (stA Wg)))∧t.g? q=some 0∧t.heard q∧∀ i,i<j→∃ r,RelX Wg Sb t (k0+i) r∧r<q
structure Ms (Γ : Type) where
 S:Nat
 v:Nat→Γ
 F:Nat
def Ms.lt {Γ : Type} (r : Γ→Γ→Prop) (n:Nat) (a b:Ms Γ):Prop:=a.S<b.S∨(a.S=b.S∧UpF r n a.v b.v)∨(a.S=b.S∧a.v=b.v∧a.F<b.F)
def Inv (μ : Ms W.Γ) (m:Machine) (t:Trace):Prop:=
 ∃ (G:Gh W.Γ) (gs:Array Goroutine) (w:World) (sl:Option (Nat×Nat)) (tag:CTag) (f0 d0:Nat) (a:Goroutine) (st sm:Int) (q:Nat→Nat),
  m=crowd gs w sl∧gs[0]?=some a∧MSit P ty Wg C n (BornW W) Anch Out tag G.j G.V G.M f0 d0 a w∧Com W n k0 Sb K w1 G gs w t d0 q∧WgAt ty Wg w st sm∧Go.ConcN.Mode G.j G.D tag st sm∧(tag=.ret→AcqBy Wg Sb k0 G.j t)∧(∀ i,Acc W.r (G.γ i)) ∧
  μ=⟨phi n (Vc G.j G.D) tag+Ssum G.j G.D,G.γ,f0+2*Fsum G.j G.D+2*sumTo k0 q⟩
end
section
variable {P:Program} [Payload] {ty:TypeId} {Wg C nC:Nat} {cl:Nat→Nat→Prop} {kw:Nat→Nat} {W:Wkr P ty Wg C nC cl kw} {n k0:Nat} {Sb:Nat→Prop} {K:Nat→Prop} {w1:World}
 {Anch Out:(V:Nat→Prop)→Goroutine→World→Prop} {G:Gh W.Γ} {gs:Array Goroutine} {w w':World} {sl:Option (Nat×Nat)} {t:Trace} {tag:CTag} {f0 d0:Nat} {q:Nat→Nat} {i:Nat} {a g g':Goroutine} {es:Array Event} {st sm:Int}
omit [Payload] in
theorem AcqBy.app {j:Nat} {u:Trace} (h:AcqBy Wg Sb k0 j t) (hu:∀ i r,i<j→RelX Wg Sb t (k0+i) r→RelX Wg Sb (t++u) (k0+i) r):AcqBy Wg Sb k0 j (t++u):=by
 obtain⟨q,h1,h2,h3,h4⟩:=h
 have hq:=Go.Conc.lt_of_act? h1
 exact⟨q,by rw[Go.Conc.act?_old hq];exact h1,by rw[Go.Conc.g?_old hq];exact h2,(Go.Conc.heard_old hq).2 h3,fun i hi=>let ⟨r,hr,hrq⟩:=h4 i hi;⟨r,hu i r hi hr,hrq⟩⟩
theorem Jj {O:Nat→Prop} (hcl:∀ i i' o,cl i o→cl i' o→i=i') (hkw:∀ i,cl i (kw i-1)) (hk0 : 1≤k0) (hAr:∀ V g w,Anch V g w→g.status=.running)
  (ha:gs[0]?=some a) (hm:MSit P ty Wg C n (BornW W) Anch Out tag G.j G.V G.M f0 d0 a w) (h:Com W n k0 Sb K w1 G gs w t d0 q) (hi:i<G.j) (hg:gs[k0+i]?=some g) (hgo:stepG P false g w=.go g' w' es)
  (he:Else ty Wg C (G.Pr i) O w w') (hO:∀ o,O o→cl i o) {d:WD} {γ : W.Γ} (hs:SitW W i d γ (fun b=>G.Pr i b∨fresh w w' b) (G.Sd i) g' w')
  (hev:∀ e∈es,EvW Wg C Sb (fun b=>G.Pr i b∨fresh w w' b) (G.Sd i) (cl i) w'.heap.size e) (hdeaf:deafBehind (G.D i).deaf es=d.deaf)
  (hrel:d.stage≤6→∃ r,RelX Wg Sb (t++MemOp.ofEvents (k0+i) g.frame.fn g.frame.place es) (k0+i) r) {st' sm':Int} (hwg:WgAt ty Wg w' st' sm')
  (hmode:∀ tag',(tag'=tag∨(tag=.blk∧tag'=.w3))→(mayWake P g=true→g'.status=.running→tag'≠.blk)→Go.ConcN.Mode G.j (upd G.D i d) tag' st' sm')
  (hacq:tag=.ret→AcqBy Wg Sb k0 G.j (t++MemOp.ofEvents (k0+i) g.frame.fn g.frame.place es)) (hA:∀ i,Acc W.r (G.γ i)) (hγ : Acc W.r γ)
  (hlt:(d.stage<(G.D i).stage∧cnt d≤cnt (G.D i))∨(d=G.D i∧W.r γ (G.γ i))∨(d.stage=(G.D i).stage∧d.fuel+1=(G.D i).fuel∧γ=G.γ i)) :
  ∃ m₁ ops μ',runT P (crowd gs w sl) (k0+i)=(.next m₁,ops)∧Ms.lt W.r n μ' ⟨phi n (Vc G.j G.D) tag+Ssum G.j G.D,G.γ,f0+2*Fsum G.j G.D+2*sumTo k0 q⟩∧Inv W n k0 Sb K w1 Anch Out μ' m₁ (t++ops):=by
 have hV:∀ b,G.V b→b<w.heap.size∧¬ G.Pr i b∧b≠C∧b≠Wg:=fun b hb =>
  ⟨(h.geo.v b hb).1,fun hx=>(h.geo.pr i b hi hx).2.2.2.2 hb,(h.geo.v b hb).2.1,(h.geo.v b hb).2.2.1⟩
 obtain⟨tag',f',hm',hf',htag,hwk⟩:=hm.wokenBy hAr (he.rly hV (fun _ hf=>hf.elim)) g g'
 have hc:=h.stepW hcl hkw hk0 hi hg (es:=es) he hO hs hev hdeaf hrel
 have hk:(k0+i==0)=false:=by simp;omega
 have hrun:=Go.Conc.runT_crowd_go (P:=P) (sl:=sl) (i:=k0+i) hg (by rw[hk];exact hgo)
 refine⟨_,_,⟨phi n (Vc G.j (upd G.D i d)) tag'+Ssum G.j (upd G.D i d),upd G.γ i γ,f'+2*Fsum G.j (upd G.D i d)+2*sumTo k0 q⟩,hrun,?_,
  G.stepW i d γ w w',_,w',sl,tag',f',d0,woken P g g' w' a,st',sm',q,rfl,by rw[Zn _ _ _ _ (by omega),ha];rfl,hm',hc,hwg,hmode tag' htag hwk,?_,fun k=>?_,rfl⟩
 ·rw[phi_retag n _ htag]
  have e1:=sumTo_upd G.D d cnt hi
  have e2:=sumTo_upd G.D d WD.stage hi
  have e3:=sumTo_upd G.D d WD.fuel hi
  simp only[Vc,Ssum,Fsum,Ms.lt] at *
  rcases hlt with ⟨h1,h2⟩|⟨h1,h2⟩|⟨h1,h2,h3⟩
  ·refine .inl ?_
   have:=phi_mono n (v':=sumTo G.j fun a=>cnt (upd G.D i d a)) (v:=sumTo G.j fun a=>cnt (G.D a)) (by omega) tag
   omega
  ·subst h1
   refine .inr (.inl ⟨?_,i,γ,Nat.lt_of_lt_of_le hi h.geo.jn,h2,rfl⟩)
   have ev:(sumTo G.j fun a=>cnt (upd G.D i (G.D i) a))=sumTo G.j fun a=>cnt (G.D a):=by omega
   have es':(sumTo G.j fun a=>(upd G.D i (G.D i) a).stage)=sumTo G.j fun a=>(G.D a).stage:=by omega
   rw[ev,es']
  ·have ec:cnt d=cnt (G.D i):=by simp only[cnt,h1]
   have ev:(sumTo G.j fun a=>cnt (upd G.D i d a))=sumTo G.j fun a=>cnt (G.D a):=by omega
   have es':(sumTo G.j fun a=>(upd G.D i d a).stage)=sumTo G.j fun a=>(G.D a).stage:=by omega
   refine .inr (.inr ⟨by rw[ev,es'],?_,by omega⟩)
   subst h3
   funext k
   by_cases e:k=i
   ·subst e;rw[upd_same]
   ·rw[upd_ne _ _ e]
 ·intro e
  rcases htag with rfl|⟨_,rfl⟩
  ·exact hacq e
  ·cases e
 ·show Acc W.r (upd G.γ i γ k)
  by_cases e:k=i
  ·subst e;rw[upd_same];exact hγ
  ·rw[upd_ne _ _ e];exact hA k
end
end
section
open Go.Conc (Deaf Leavers Knows touchAt QuitsD Goes semEvents NoRelease woken crowd Aside aside_setCell)
open Go.ConcN (CT Ok0 OkW Apart sumTo sumTo_upd sumTo_congr le_sumTo upd upd_same upd_ne WD CTag Vc Ssum Fsum cnt pend phi WSit RW AtK1 WgLive RelBy Vc_le Vc_upd OpenSt AllQuit isW3 isOpen isFin phi_retag phi_mono others_uncounted bk_cell deafBehind_idle)
open Go.ConcR (KK WgAt stA smA rd wr mk Payload DC0 Bk g_of_ofEvents bk_of_mute ofEvent_loc_mark ofEvent_cell)
theorem yj {w w':World} (h:w'.heap.size=w.heap.size) (Pr:Nat→Prop):(fun b=>Pr b∨fresh w w' b)=Pr:=by
 funext b
 refine propext ⟨fun x=>x.elim id fun y=>?_,.inl⟩
 have:=y.1;have:=y.2;omega
theorem Else.same {ty:TypeId} {Wg C:Nat} {X O:Nat→Prop} (w:World):Else ty Wg C X O w w:=⟨Nat.le_refl _,.refl w,fun _ _ _ _ _=>rfl,fun cs _ _ h=>⟨cs,h,rfl,fun _ _=>rfl⟩,id⟩
theorem Else.turn {ty:TypeId} {Wg C:Nat} {X O:Nat→Prop} {w w':World} (h:Aside Wg w w') (hl:WgLive ty Wg w') (hcw:C≠Wg):Else ty Wg C X O w w':=
 ⟨by rw[h.size];exact Nat.le_refl _,⟨h.os,h.output,h.tape⟩,fun b _ _ _ hb=>h.block b hb,fun cs t m hx=>⟨cs,(h.block C hcw).trans hx,rfl,fun _ _=>rfl⟩,fun _=>hl⟩
section
variable {P:Program} [Payload] {ty:TypeId} {Wg C nC:Nat} {cl:Nat→Nat→Prop} {kw:Nat→Nat} {W:Wkr P ty Wg C nC cl kw} {n k0:Nat} {Sb:Nat→Prop} {K:Nat→Prop} {w1:World}
 {Anch Out:(V:Nat→Prop)→Goroutine→World→Prop} {G:Gh W.Γ} {gs:Array Goroutine} {w:World} {sl:Option (Nat×Nat)} {t:Trace} {tag:CTag} {f0 d0:Nat} {q:Nat→Nat} {i:Nat} {a g:Goroutine} {st sm:Int}
set_option maxHeartbeats 1600000 in
theorem stepWorker (hcl:∀ i i' o,cl i o→cl i' o→i=i') (hkw:∀ i,cl i (kw i-1)) (hk0 : 1≤k0) (hn:n<2147483648) (hAr:∀ V g w,Anch V g w→g.status=.running)
  (ha:gs[0]?=some a) (hm:MSit P ty Wg C n (BornW W) Anch Out tag G.j G.V G.M f0 d0 a w) (h:Com W n k0 Sb K w1 G gs w t d0 q) (hwg:WgAt ty Wg w st sm) (hmode:Go.ConcN.Mode G.j G.D tag st sm)
  (hacq:tag=.ret→AcqBy Wg Sb k0 G.j t) (hA:∀ i,Acc W.r (G.γ i)) (hi:i<G.j) (hg:gs[k0+i]?=some g) (hrun:g.status=.running) :
  ∃ m₁ ops μ',runT P (crowd gs w sl) (k0+i)=(.next m₁,ops)∧Ms.lt W.r n μ' ⟨phi n (Vc G.j G.D) tag+Ssum G.j G.D,G.γ,f0+2*Fsum G.j G.D+2*sumTo k0 q⟩∧Inv W n k0 Sb K w1 Anch Out μ' m₁ (t++ops):=by
 obtain⟨g₁,hg₁,hs⟩:=h.wk i hi
 obtain rfl:g=g₁:=by rw[hg] at hg₁;exact Option.some.inj hg₁
 have hdk:Deaf t (k0+i)=(G.D i).deaf:=h.deafW i hi
 have hWlt:Wg<w.heap.size:=h.geo.old Wg (.inr (.inl rfl))
 have hb:=hm.bound
 have hVj:=Vc_le G.j G.D
 have nr:(G.D i).stage≠1→tag≠.ret:=fun hx=>hmode.not_ret hi hx
 rcases hs with ⟨h7,hd0,hsit⟩|⟨h6,hws,hres⟩
 ·rcases W.step hsit ⟨st,sm,hwg⟩ h.row with ⟨γ',g',w',es,hgo,hr,hgua,hsit'⟩|⟨hres,g',hgo,m,hk⟩
  ·have hPW:¬ G.Pr i Wg:=fun hx=>(h.geo.pr i Wg hi hx).2.2.1 rfl
   refine Jj (O:=cl i) hcl hkw hk0 hAr ha hm h hi hg hgo (hgua.else hPW h.geo.cw hWlt) (fun _ x=>x) (d:=G.D i) (γ:=γ') (.inl ⟨h7,hd0,hsit'⟩) (fun e he=>?_) (deafBehind_idle (fun e he=>(hgua.evs e he).still) _) (fun hx=>by omega)
    (hwg.of_block (hgua.blk Wg hWlt hPW (Ne.symm h.geo.cw))) (fun tag' ht _=>(hmode.congr fun k _=>?_).retag ht) (fun e=>absurd e (nr (by omega))) hA (W.acc hsit') (.inr (.inl ⟨rfl,hr⟩))
   ·have hev:=hgua.evs e he
    refine⟨fun x hx=>?_,hev.norel _,hev.low⟩
    rcases hev.touch x hx with ⟨b,hb,hp|⟨hp1,hp2⟩⟩|hx1
    ·exact .inr (.inl ⟨b,hb,hp⟩)
    ·exact .inr (.inr (.inr ⟨⟨b,hb,hp2⟩,hp1⟩))
    ·exact .inr (.inr (.inl hx1))
   ·by_cases e:k=i
    ·subst e;rw[upd_same]
    ·rw[upd_ne _ _ e]
  ·refine Jj (O:=cl i) hcl hkw hk0 hAr ha hm h hi hg hgo (.same w) (fun _ x=>x) (d:=⟨6,m,0⟩) (γ:=G.γ i) (.inr ⟨Nat.le_refl _,.k1 hk,by rw[yj rfl];exact hres⟩) (fun e he=>?_) (by rw[hd0];rfl)
    (fun _=>⟨t.size,RelX.new (by rw[hdk,hd0]) _ _⟩) hwg (fun _ ht _=>(hmode.counted hi (by omega) (.inl rfl) _ _).retag ht) (fun e=>absurd e (nr (by omega))) hA (hA i) (.inl ⟨by show 6<_;omega,by simp[cnt,h7]⟩)
   simp only[List.mem_toArray,List.mem_cons,List.not_mem_nil,or_false] at he
   subst he
   exact⟨fun x hx=>by simp[MemAct.ofEvent,mk,MemAct.touch?] at hx,by simp[mk],hWlt⟩
 ·-- BEHIND THE RELEASE: at most the group's block turns
  have bookG:∀ {g':Goroutine} {w':World} {es:Array Event} {s' m' dd':Nat} {st' sm':Int},stepG P false g w=.go g' w' es→Aside Wg w w'→WgAt ty Wg w' st' sm'→(∀ e∈es,Bk Wg e) →
    (∀ jx e,es[jx]?=some e→(MemAct.ofEvent e).touch?=none∨0<deafBehind (G.D i).deaf (es.extract 0 jx))→WSit P ty Wg C nC NoL NoL 0 (kw i) undef s' m' dd' g' w'→s'≤6→deafBehind (G.D i).deaf es=dd' →
    (∀ tag',(tag'=tag∨(tag=.blk∧tag'=.w3))→(mayWake P g=true→g'.status=.running→tag'≠.blk)→Go.ConcN.Mode G.j (upd G.D i ⟨s',m',dd'⟩) tag' st' sm') →
    (tag=.ret→AcqBy Wg Sb k0 G.j (t++MemOp.ofEvents (k0+i) g.frame.fn g.frame.place es))→((s'<(G.D i).stage∧cnt ⟨s',m',dd'⟩≤cnt (G.D i))∨(s'=(G.D i).stage∧m'+1=(G.D i).fuel)) →
    ∃ m₁ ops μ',runT P (crowd gs w sl) (k0+i)=(.next m₁,ops)∧Ms.lt W.r n μ' ⟨phi n (Vc G.j G.D) tag+Ssum G.j G.D,G.γ,f0+2*Fsum G.j G.D+2*sumTo k0 q⟩∧Inv W n k0 Sb K w1 Anch Out μ' m₁ (t++ops):=by
   intro g' w' es s' m' dd' st' sm' hgo hAs hwg' hbk hd hs' hs6 hdd hmode' hacq' hlt
   have hel:Else ty Wg C (G.Pr i) (fun _=>False) w w':=.turn hAs ⟨_,_,hwg'⟩ h.geo.cw
   have hrly:Rly ty Wg C (fun b=>G.Pr i b∨G.Sd i b) (cl i) w w':=(Else.turn (X:=fun _=>False) (O:=fun _=>False) hAs ⟨_,_,hwg'⟩ h.geo.cw).rly (fun b hb=>by
    rcases hb with hb|hb
    ·have:=h.geo.pr i b hi hb;exact⟨this.1,fun x=>x,this.2.1,this.2.2.1⟩
    ·have:=h.geo.v b (h.geo.sd i b hi hb).1;exact⟨this.1,fun x=>x,this.2.1,this.2.2.1⟩) (fun _ _ x=>x)
   refine Jj (O:=fun _=>False) hcl hkw hk0 hAr ha hm h hi hg hgo hel (fun _ x=>x.elim) (d:=⟨s',m',dd'⟩) (γ:=G.γ i) (.inr ⟨hs6,hs',by rw[yj hAs.size];exact W.keep hres hrly⟩) (fun e he=>?_) hdd
    (fun _=>let ⟨r,hr⟩:=h.rel i hi h6;⟨r,hr.book hdk _ _ hbk hd⟩) hwg' hmode' hacq' hA (hA i) ?_
   ·rw[hAs.size]
    rcases hbk e he with h1|h1|⟨ad,wr,rfl,hab⟩
    ·obtain⟨loc,w2,sy⟩:=e
     simp only at h1
     subst h1
     exact⟨fun x hx=>by simp[MemAct.ofEvent,MemAct.touch?] at hx,by simp,trivial⟩
    ·obtain⟨loc,w2,sy⟩:=e
     simp only at h1
     subst h1
     exact⟨fun x hx=>by simp[MemAct.ofEvent,MemAct.touch?] at hx,by simp,trivial⟩
    ·refine⟨fun x hx=>.inl ?_,by simp,by rw[ofEvent_cell];show ad.block<_;rw[hab];exact hWlt⟩
     rw[ofEvent_cell] at hx
     simp only[MemAct.touch?,Option.some.injEq] at hx
     subst hx
     exact⟨⟨ad,rfl,.inr hab⟩,by simp,by simp⟩
   ·rcases hlt with ⟨x,y⟩|⟨x,y⟩
    ·exact .inl ⟨x,y⟩
    ·exact .inr (.inr ⟨x,y,rfl⟩)
  have book:∀ {g':Goroutine} {w':World} {es:Array Event} {s' m' dd':Nat} {st' sm':Int},stepG P false g w=.go g' w' es→Aside Wg w w'→WgAt ty Wg w' st' sm'→(∀ e∈es,Bk Wg e) →
    (∀ jx e,es[jx]?=some e→(MemAct.ofEvent e).touch?=none∨0<deafBehind (G.D i).deaf (es.extract 0 jx))→WSit P ty Wg C nC NoL NoL 0 (kw i) undef s' m' dd' g' w'→s'≤6→deafBehind (G.D i).deaf es=dd' →
    Go.ConcN.Mode G.j (upd G.D i ⟨s',m',dd'⟩) tag st' sm'→(tag=.ret→AcqBy Wg Sb k0 G.j (t++MemOp.ofEvents (k0+i) g.frame.fn g.frame.place es))→((s'<(G.D i).stage∧cnt ⟨s',m',dd'⟩≤cnt (G.D i))∨(s'=(G.D i).stage∧m'+1=(G.D i).fuel)) →
    ∃ m₁ ops μ',runT P (crowd gs w sl) (k0+i)=(.next m₁,ops)∧Ms.lt W.r n μ' ⟨phi n (Vc G.j G.D) tag+Ssum G.j G.D,G.γ,f0+2*Fsum G.j G.D+2*sumTo k0 q⟩∧Inv W n k0 Sb K w1 Anch Out μ' m₁ (t++ops):=
   fun hgo hAs hwg' hbk hd hs' h6' hdd hmode' hacq' hlt=>bookG hgo hAs hwg' hbk hd hs' h6' hdd (fun _ ht _=>hmode'.retag ht) hacq' hlt
  have idle:∀ {g':Goroutine} {m':Nat},stepG P false g w=.go g' w #[]→WSit P ty Wg C nC NoL NoL 0 (kw i) undef (G.D i).stage m' (G.D i).deaf g' w→m'+1=(G.D i).fuel→(G.D i).stage≠1 →
    ∃ m₁ ops μ',runT P (crowd gs w sl) (k0+i)=(.next m₁,ops)∧Ms.lt W.r n μ' ⟨phi n (Vc G.j G.D) tag+Ssum G.j G.D,G.γ,f0+2*Fsum G.j G.D+2*sumTo k0 q⟩∧Inv W n k0 Sb K w1 Anch Out μ' m₁ (t++ops):=by
   intro g' m' hgo hs' hm1 h1
   exact book hgo (.refl Wg w) hwg (by simp) (by simp) hs' h6 rfl (hmode.same (i:=i) m' (G.D i).deaf) (fun e=>absurd e (nr h1)) (.inr ⟨rfl,hm1⟩)
  generalize hst:(G.D i).stage=s at hws h6 nr bookG book idle
  generalize hfu:(G.D i).fuel=m at hws bookG book idle
  generalize hde:(G.D i).deaf=dd at hws hdk bookG book idle
  cases hws with
  | r0 hx=>omega
  | k1 hx =>
   rcases Goes.cases hx with hstop|⟨m',rfl,hstep⟩
   ·obtain⟨_,g',hgo,m₂,hk⟩:=hstop w (RW.refl w)
    exact book hgo (.refl Wg w) hwg (by intro e he;simp at he;subst he;exact .inl rfl) (by intro jx e he;exact .inl (by have:=Array.mem_of_getElem? he;simp at this;subst this;rfl)) (.d1 hk) (by omega) rfl
     (hmode.counted hi (by omega) (.inr rfl) _ _) (fun e=>absurd e (nr (by omega))) (.inl ⟨by omega,by simp[cnt,hst]⟩)
   ·obtain⟨g',w',es,hgo,⟨rfl,rfl⟩,hg'⟩:=hstep w (RW.refl w)
    exact idle hgo (.k1 hg') rfl (by omega)
  | d1 hx =>
   rcases Goes.cases hx with hstop|⟨m',rfl,hstep⟩
   ·obtain⟨_,hall⟩:=hstop w (RW.refl w)
    have hc1:cnt (G.D i)=1:=by simp[cnt,hst]
    have hV1 : 1≤Vc G.j G.D:=by have:=le_sumTo (f:=fun x=>cnt (G.D x)) hi;simp only[Vc];omega
    have bk2:∀ e∈#[rd (stA Wg),wr (stA Wg)],Bk Wg e:=by intro e he;simp at he;rcases he with rfl|rfl<;>exact bk_cell _ _ rfl
    have df2:∀ jx e,(#[rd (stA Wg),wr (stA Wg)]:Array Event)[jx]?=some e→(MemAct.ofEvent e).touch?=none∨0<deafBehind 1 ((#[rd (stA Wg),wr (stA Wg)]:Array Event).extract 0 jx):=by
     intro jx e he
     match jx,he with
     | 0,_=>exact .inr (by simp[deafBehind])
     | 1,_=>exact .inr (by simp[deafBehind,rd])
     | jx+2,he=>simp at he
    have opq:∀ q,OpenSt G.j G.D→OpenSt G.j (upd G.D i ⟨1,q,1⟩):=fun q hx a ha=>by
     by_cases e:a=i
     ·subst e;rw[upd_same];simp
     ·rw[upd_ne _ _ e];exact hx a ha
    have hcq:∀ q,Vc G.j (upd G.D i ⟨1,q,1⟩)+1=Vc G.j G.D:=fun q=>by
     have:=Vc_upd G.D (⟨1,q,1⟩:WD) hi
     have e:cnt (⟨1,q,1⟩:WD)=0:=rfl
     omega
    cases hmode with
    | opn h1 h2 h3 =>
     obtain⟨v,hv⟩:∃ v,Vc G.j G.D+pend tag=v+1:=⟨Vc G.j G.D+pend tag-1,by omega⟩
     rw[hv] at hwg
     have hw1:WgAt ty Wg w (((v:Nat)+1)*KK+((0:Nat):Int)) 0:=by simpa using hwg
     obtain⟨g',hgo,_,hq⟩:=hall v 0 (by omega) (by omega) hw1
     obtain⟨q1,hq⟩:=hq (by omega)
     have hv':Vc G.j (upd G.D i ⟨1,q1,1⟩)+pend tag=v:=by have:=hcq q1;omega
     refine book hgo (aside_setCell w (stA Wg) _) (hwg.setSt _) bk2 df2 (.quit hq) (by omega) rfl ?_ (fun e=>absurd e (nr (by omega))) (.inl ⟨by omega,by simp[cnt]⟩)
     have e:((v:Nat):Int)*KK+((0:Nat):Int)=((Vc G.j (upd G.D i ⟨1,q1,1⟩)+pend tag:Nat):Int)*KK:=by rw[hv'];simp
     rw[e]
     exact .opn h1 (opq q1 h2) (fun vs ev=>by have:=h3 vs ev;have:=hcq q1;omega)
    | reg h1 h2 h3 =>
     obtain⟨v,hv⟩:∃ v,Vc G.j G.D=v+1:=⟨Vc G.j G.D-1,by omega⟩
     rw[hv] at hwg
     have hw1:WgAt ty Wg w (((v:Nat)+1)*KK+((1:Nat):Int)) 0:=by simpa using hwg
     obtain⟨g',hgo,hl,hq⟩:=hall v 1 (by omega) (by omega) hw1
     by_cases hv0:v=0
     ·subst hv0
      obtain⟨m₂,hk⟩:=hl ⟨rfl,rfl⟩
      refine book hgo (aside_setCell w (stA Wg) _) (hwg.setSt _) bk2 df2 (.d2 hk) (by omega) rfl ?_ (fun e=>absurd e (nr (by omega))) (.inl ⟨by omega,by simp[cnt]⟩)
      have hoth:∀ a,a<G.j→a≠i→(G.D a).stage=1:=fun a ha e=>by
       have c0:=others_uncounted hi hv hc1 a ha e
       have:=h2 a ha
       simp only[cnt] at c0
       split at c0<;>omega
      have:=Go.ConcN.Mode.last (j:=G.j) (D:=upd G.D i ⟨4,m₂,1⟩) (tag:=tag) i h1 hi (by rw[upd_same];simp) (fun a ha e=>by rw[upd_ne _ _ e];exact hoth a ha e)
      rw[upd_same] at this
      simpa using this
     ·obtain⟨q1,hq⟩:=hq (by omega)
      have hv':Vc G.j (upd G.D i ⟨1,q1,1⟩)=v:=by have:=hcq q1;omega
      refine book hgo (aside_setCell w (stA Wg) _) (hwg.setSt _) bk2 df2 (.quit hq) (by omega) rfl ?_ (fun e=>absurd e (nr (by omega))) (.inl ⟨by omega,by simp[cnt]⟩)
      have e:((v:Nat):Int)*KK+((1:Nat):Int)=((Vc G.j (upd G.D i ⟨1,q1,1⟩):Nat):Int)*KK+1:=by rw[hv'];simp
      rw[e]
      exact .reg h1 (opq q1 h2) (by omega)
    | last L _ h2 h3 h4 =>
     by_cases e:i=L
     ·subst e;omega
     ·have:=h4 i hi e;omega
    | sema h2=>have:=h2 i hi;omega
    | fin _ h2=>have:=h2 i hi;omega
   ·obtain⟨g',w',es,hgo,⟨rfl,rfl⟩,hg'⟩:=hstep w (RW.refl w)
    exact idle hgo (.d1 hg') rfl (by omega)
  | d2 hx =>
   rcases Goes.cases hx with hstop|⟨m',rfl,hstep⟩
   ·obtain⟨_,hx⟩:=hstop w (RW.refl w)
    obtain⟨hW3,hoth,rfl,rfl⟩:=hmode.isLast hi (by omega)
    simp only[hst] at hwg
    obtain⟨g',hgo,m₂,hk⟩:=hx (by simpa using hwg)
    refine book hgo (.refl Wg w) hwg (by intro e he;simp at he;subst he;exact bk_cell _ _ rfl) (by intro jx e he;match jx,he with|0,_=>exact .inr (by simp[deafBehind])|jx+1,he=>simp at he) (.d3 hk) (by omega) rfl ?_ (fun e=>absurd e (nr (by omega))) (.inl ⟨by omega,by simp[cnt]⟩)
    have:=Go.ConcN.Mode.last (j:=G.j) (D:=upd G.D i ⟨3,m₂,1⟩) (tag:=tag) i hW3 hi (by rw[upd_same];simp) (fun a ha e=>by rw[upd_ne _ _ e];exact hoth a ha e)
    rw[upd_same] at this
    simpa using this
   ·obtain⟨g',w',es,hgo,⟨rfl,rfl⟩,hg'⟩:=hstep w (RW.refl w)
    exact idle hgo (.d2 hg') rfl (by omega)
  | d3 hx =>
   rcases Goes.cases hx with hstop|⟨m',rfl,hstep⟩
   ·obtain⟨_,hx⟩:=hstop w (RW.refl w)
    obtain⟨hW3,hoth,rfl,rfl⟩:=hmode.isLast hi (by omega)
    simp only[hst] at hwg
    obtain⟨g',hgo,m₂,hk⟩:=hx (by simpa using hwg)
    refine book hgo (aside_setCell w (stA Wg) _) (hwg.setSt 0) (by intro e he;simp at he;subst he;exact bk_cell _ _ rfl) (by intro jx e he;match jx,he with|0,_=>exact .inr (by simp[deafBehind])|jx+1,he=>simp at he) (.d4 hk) (by omega) rfl ?_ (fun e=>absurd e (nr (by omega))) (.inl ⟨by omega,by simp[cnt]⟩)
    have:=Go.ConcN.Mode.last (j:=G.j) (D:=upd G.D i ⟨2,m₂,1⟩) (tag:=tag) i hW3 hi (by rw[upd_same];simp) (fun a ha e=>by rw[upd_ne _ _ e];exact hoth a ha e)
    rw[upd_same] at this
    simpa using this
   ·obtain⟨g',w',es,hgo,⟨rfl,rfl⟩,hg'⟩:=hstep w (RW.refl w)
    exact idle hgo (.d3 hg') rfl (by omega)
  | d4 hx =>
   rcases Goes.cases hx with hstop|⟨m',rfl,hstep⟩
   ·obtain⟨_,hmw,hx⟩:=hstop w (RW.refl w)
    obtain⟨hW3,hoth,rfl,rfl⟩:=hmode.isLast hi (by omega)
    simp only[hst] at hwg
    obtain⟨g',hgo,q1,hq⟩:=hx (by simpa using hwg)
    have hrun':g'.status=.running:=by
     cases q1 with
     | zero=>exact absurd hq.2 (by decide)
     | succ q1=>exact hq.elim (fun x=>absurd x.2 (by decide)) (fun x=>x.1)
    refine bookG hgo (aside_setCell w (smA Wg) _) (hwg.setSm 1) (es:=semEvents (smA Wg)) ?_ ?_ (.quit hq) (by omega) (by simp[deafBehind,semEvents]) ?_ (fun e=>absurd e (nr (by omega))) (.inl ⟨by omega,by simp[cnt]⟩)
    ·intro e he
     simp[semEvents] at he
     rcases he with rfl|rfl|rfl|rfl
     ·exact .inl rfl
     ·exact bk_cell _ _ rfl
     ·exact bk_cell _ _ rfl
     ·exact .inr (.inl rfl)
    ·intro jx e he
     match jx,he with
     | 0,he=>simp[semEvents] at he;subst he;exact .inl rfl
     | 1,_=>exact .inr (by simp[deafBehind,semEvents])
     | 2,_=>exact .inr (by simp[deafBehind,semEvents])
     | 3,he=>simp[semEvents] at he;subst he;exact .inl rfl
     | jx+4,he=>simp[semEvents] at he
    ·intro tag' ht hw
     have hnb:=hw hmw hrun'
     have e3:tag'=.w3:=by
      rcases ht with rfl|⟨_,rfl⟩
      ·cases tag'<;>first|rfl|exact hW3.elim|exact absurd rfl hnb
      ·rfl
     subst e3
     simp only[if_true]
     exact .sema fun a ha=>by
      by_cases e:a=i
      ·subst e;rw[upd_same]
      ·rw[upd_ne _ _ e];exact hoth a ha e
   ·obtain⟨g',w',es,hgo,⟨rfl,rfl⟩,hg'⟩:=hstep w (RW.refl w)
    exact idle hgo (.d4 hg') rfl (by omega)
  | quit hx =>
   cases m with
   | zero=>rw[hx.1] at hrun;cases hrun
   | succ q1 =>
    rcases hx with ⟨hf,_⟩|⟨_,g',es,hmute,hstep,hq⟩
    ·rw[hf] at hrun;cases hrun
    ·have hbk:∀ e∈es,Bk Wg e:=fun e he=>bk_of_mute (hmute e he)
     have hno:∀ jx e,es[jx]?=some e→(MemAct.ofEvent e).touch?=none∨0<deafBehind dd (es.extract 0 jx):=fun jx e he=>.inl (Go.Conc.touch_mute (hmute e (Array.mem_of_getElem? he)))
     refine book (hstep w) (.refl Wg w) hwg hbk hno (.quit hq) (by omega) rfl (by have:=hmode.same (i:=i) q1 (deafBehind dd es);rwa [hst] at this) (fun e=>(hacq e).app fun i' r hi' hr=>?_) (.inr ⟨rfl,rfl⟩)
     by_cases e':i'=i
     ·subst e';exact hr.book hdk _ _ hbk hno
     ·exact hr.appOther g_of_ofEvents (by omega)
end
end
end Go.Par
