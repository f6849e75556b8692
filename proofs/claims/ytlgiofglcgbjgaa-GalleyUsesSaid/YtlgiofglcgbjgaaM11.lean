/- The company: the starter's steps keep the invariant and lower the measure, till it stands behind its Wait. The company: the starter's situations; the whole company runs till the starter .. -/
import Derived.Test.YtlgiofglcgbjgaaM10
import Derived.Conc.CrowdRun
namespace Go.Par
open Go
section
open Go.Conc (Deaf Leavers Knows touchAt QuitsD Goes semEvents NoRelease woken crowd Aside aside_setCell)
open Go.ConcN (CT Ok0 OkW Apart sumTo sumTo_upd sumTo_congr le_sumTo upd upd_same upd_ne WD CTag Vc Ssum Fsum cnt pend phi WSit RW AtK1 WgLive RelBy Vc_le Vc_upd OpenSt AllQuit isW3 isOpen isFin phi_retag phi_mono others_uncounted bk_cell deafBehind_idle allQuit_of bk_dis bk_en bk_rd bk_rw bk_sem)
open Go.ConcR (KK WgAt stA smA rd wr mk Payload DC0 Bk g_of_ofEvents bk_of_mute ofEvent_loc_mark ofEvent_cell ofEvent_mk)
section
variable {P:Program} [Payload] {ty:TypeId} {Wg C nC:Nat} {cl:Nat→Nat→Prop} {kw:Nat→Nat} {W:Wkr P ty Wg C nC cl kw} {n k0:Nat} {Sb:Nat→Prop} {K:Nat→Prop} {w1:World}
 {Anch Out:(V:Nat→Prop)→Goroutine→World→Prop} {G:Gh W.Γ} {gs:Array Goroutine} {w w':World} {sl:Option (Nat×Nat)} {t:Trace} {tag:CTag} {f0 d0:Nat} {q:Nat→Nat} {a a':Goroutine} {es:Array Event} {st sm:Int}
theorem zdd (hcl:∀ i i' o,cl i o→cl i' o→i=i') (hkw:∀ i,cl i (kw i-1)) (hk0 : 1≤k0) (hA:∀ i,Acc W.r (G.γ i)) (ha:gs[0]?=some a) (h:Com W n k0 Sb K w1 G gs w t d0 q) (hgo:stepG P true a w=.go a' w' es)
  (he:Else ty Wg C G.M (fun _=>False) w w') {V' M':Nat→Prop} (hV:∀ b,V' b→G.V b∨fresh w w' b) (hV2:∀ b,G.V b→V' b) (hM:∀ b,M' b→G.M b∨fresh w w' b) (hM2:∀ b,M' b→V' b)
  (hev:∀ e∈es,Ev0 Wg Sb V' M' w'.heap.size e) {tag':CTag} {f':Nat} (hm:MSit P ty Wg C n (BornW W) Anch Out tag' G.j V' M' f' (deafBehind d0 es) a' w') {st' sm':Int} (hwg:WgAt ty Wg w' st' sm')
  (hmode:Go.ConcN.Mode G.j G.D tag' st' sm') (hacq:tag'=.ret→AcqBy Wg Sb k0 G.j (t++MemOp.ofEvents 0 a.frame.fn a.frame.place es))
  (hlt:phi n (Vc G.j G.D) tag'<phi n (Vc G.j G.D) tag∨(phi n (Vc G.j G.D) tag'=phi n (Vc G.j G.D) tag∧f'<f0)) :
  ∃ m₁ ops μ',runT P (crowd gs w sl) 0=(.next m₁,ops)∧Ms.lt W.r n μ' ⟨phi n (Vc G.j G.D) tag+Ssum G.j G.D,G.γ,f0+2*Fsum G.j G.D+2*sumTo k0 q⟩∧Inv W n k0 Sb K w1 Anch Out μ' m₁ (t++ops):=by
 have hrun:=Go.Conc.runT_crowd_go (P:=P) (sl:=sl) (i:=0) ha (by simpa using hgo)
 have hc:=h.step0 (a:=a) (a':=a') (es:=es) hcl hkw hk0 he hV hV2 hM hM2 hev
 refine⟨_,_,⟨phi n (Vc G.j G.D) tag'+Ssum G.j G.D,G.γ,f'+2*Fsum G.j G.D+2*sumTo k0 q⟩,hrun,?_,{ G with V:=V',M:=M' },_,w',sl,tag',f',deafBehind d0 es,a',st',sm',q,rfl,Qc _ _ _ (by have:=h.size;omega),hm,hc,hwg,hmode,hacq,hA,rfl⟩
 rcases hlt with x|⟨x,y⟩
 ·exact .inl (by show _<_;simp only;omega)
 ·exact .inr (.inr ⟨by simp only[x],rfl,by simp only;omega⟩)
theorem qy (hcl:∀ i i' o,cl i o→cl i' o→i=i') (hkw:∀ i,cl i (kw i-1)) (hk0 : 1≤k0) (hA:∀ i,Acc W.r (G.γ i)) (ha:gs[0]?=some a) (h:Com W n k0 Sb K w1 G gs w t d0 q) (hgo:stepG P true a w=.go a' w' es)
  (hAs:Aside Wg w w') {st' sm':Int} (hwg:WgAt ty Wg w' st' sm') (hbk:∀ e∈es,Bk Wg e∨(∃ b:Addr,b.block=Wg∧(e=⟨.mark (.read b),false,true⟩∨e=⟨.mark (.write b),false,true⟩))∨e=mk (.acquire (stA Wg))) {tag':CTag} {f':Nat} (hm:MSit P ty Wg C n (BornW W) Anch Out tag' G.j G.V G.M f' (deafBehind d0 es) a' w')
  (hmode:Go.ConcN.Mode G.j G.D tag' st' sm') (hacq:tag'=.ret→AcqBy Wg Sb k0 G.j (t++MemOp.ofEvents 0 a.frame.fn a.frame.place es))
  (hlt:phi n (Vc G.j G.D) tag'<phi n (Vc G.j G.D) tag∨(phi n (Vc G.j G.D) tag'=phi n (Vc G.j G.D) tag∧f'<f0)) :
  ∃ m₁ ops μ',runT P (crowd gs w sl) 0=(.next m₁,ops)∧Ms.lt W.r n μ' ⟨phi n (Vc G.j G.D) tag+Ssum G.j G.D,G.γ,f0+2*Fsum G.j G.D+2*sumTo k0 q⟩∧Inv W n k0 Sb K w1 Anch Out μ' m₁ (t++ops):=by
 have hW:Wg<w'.heap.size:=by rw[hAs.size];exact h.geo.old Wg (.inr (.inl rfl))
 refine zdd hcl hkw hk0 hA ha h hgo (.turn hAs ⟨_,_,hwg⟩ h.geo.cw) (V':=G.V) (M':=G.M) (fun _ x=>.inl x) (fun _ x=>x) (fun _ x=>.inl x) h.geo.m (fun e he=>?_) hm hwg hmode hacq hlt
 rcases hbk e he with (h1|h1|⟨ad,wr,rfl,hab⟩)|⟨b,hb,rfl|rfl⟩|rfl
 ·obtain⟨loc,w2,sy⟩:=e
  simp only at h1
  subst h1
  exact⟨fun x hx=>by simp[MemAct.ofEvent,MemAct.touch?] at hx,by simp,trivial⟩
 ·obtain⟨loc,w2,sy⟩:=e
  simp only at h1
  subst h1
  exact⟨fun x hx=>by simp[MemAct.ofEvent,MemAct.touch?] at hx,by simp,trivial⟩
 ·refine⟨fun x hx=>.inl ?_,by simp,by rw[ofEvent_cell];show ad.block<_;rw[hab];exact hW⟩
  rw[ofEvent_cell] at hx
  simp only[MemAct.touch?,Option.some.injEq] at hx
  subst hx
  exact⟨⟨ad,rfl,.inr hab⟩,by simp⟩
 ·refine⟨fun x hx=>.inl ?_,by simp,by show b.block<_;rw[hb];exact hW⟩
  simp[MemAct.ofEvent,MemAct.touch?] at hx
  subst hx
  exact⟨⟨b,rfl,.inr hb⟩,by simp⟩
 ·refine⟨fun x hx=>.inl ?_,by simp,by show b.block<_;rw[hb];exact hW⟩
  simp[MemAct.ofEvent,MemAct.touch?] at hx
  subst hx
  exact⟨⟨b,rfl,.inr hb⟩,by simp⟩
 ·exact⟨fun x hx=>by simp[MemAct.ofEvent,mk,MemAct.touch?] at hx,by simp[mk],hW⟩
theorem jr (hcl:∀ i i' o,cl i o→cl i' o→i=i') (hkw:∀ i,cl i (kw i-1)) (hk0 : 1≤k0) (hA:∀ i,Acc W.r (G.γ i)) (ha:gs[0]?=some a) (h:Com W n k0 Sb K w1 G gs w t d0 q) (hwg:WgAt ty Wg w st sm) (hmode:Go.ConcN.Mode G.j G.D tag st sm) (hacq:tag=.ret→AcqBy Wg Sb k0 G.j t)
  (hgo:stepG P true a w=.go a' w' es) (hD:DM Wg w w' es) {f':Nat} (hm:MSit P ty Wg C n (BornW W) Anch Out tag G.j G.V G.M f' d0 a' w') (hf:f'<f0) :
  ∃ m₁ ops μ',runT P (crowd gs w sl) 0=(.next m₁,ops)∧Ms.lt W.r n μ' ⟨phi n (Vc G.j G.D) tag+Ssum G.j G.D,G.γ,f0+2*Fsum G.j G.D+2*sumTo k0 q⟩∧Inv W n k0 Sb K w1 Anch Out μ' m₁ (t++ops):=by
 obtain⟨rfl,hev⟩:=hD
 have hdf:deafBehind d0 es=d0:=deafBehind_idle (fun e he=>by obtain⟨b,_,rfl|rfl⟩:=hev e he<;>exact⟨by simp,by simp⟩) d0
 exact qy hcl hkw hk0 hA ha h hgo (.refl Wg _) hwg (fun e he=>.inr (.inl (hev e he))) (by rw[hdf];exact hm) hmode (fun e=>(hacq e).app fun i r _ hr=>hr.appOther g_of_ofEvents (by omega)) (.inr ⟨rfl,hf⟩)
theorem zec (hcl:∀ i i' o,cl i o→cl i' o→i=i') (hkw:∀ i,cl i (kw i-1)) (hk0 : 1≤k0) (hA:∀ i,Acc W.r (G.γ i)) (ha:gs[0]?=some a) (h:Com W n k0 Sb K w1 G gs w t d0 q) (hwg:WgAt ty Wg w st sm) (hmode:Go.ConcN.Mode G.j G.D tag st sm) (hne:tag≠.ret)
  (hgo:stepG P true a w=.go a' w' es) (hD:Gua C G.M G.V (fun _=>False) w w' es) {f':Nat} (hm:MSit P ty Wg C n (BornW W) Anch Out tag G.j (fun b=>G.V b∨fresh w w' b) (fun b=>G.M b∨fresh w w' b) f' d0 a' w') (hf:f'<f0) :
  ∃ m₁ ops μ',runT P (crowd gs w sl) 0=(.next m₁,ops)∧Ms.lt W.r n μ' ⟨phi n (Vc G.j G.D) tag+Ssum G.j G.D,G.γ,f0+2*Fsum G.j G.D+2*sumTo k0 q⟩∧Inv W n k0 Sb K w1 Anch Out μ' m₁ (t++ops):=by
 have hWlt:Wg<w.heap.size:=h.geo.old Wg (.inr (.inl rfl))
 have hMW:¬ G.M Wg:=fun x=>(h.geo.v Wg (h.geo.m Wg x)).2.2.1 rfl
 have hdf:deafBehind d0 es=d0:=deafBehind_idle (fun e he=>(hD.evs e he).still) d0
 refine zdd hcl hkw hk0 hA ha h hgo (hD.else hMW h.geo.cw hWlt) (fun _ x=>x) (fun _ x=>.inl x) (fun _ x=>x) (fun b x=>x.imp (h.geo.m b) id) (fun e he=>?_) (by rw[hdf];exact hm) (hwg.of_block (hD.blk Wg hWlt hMW (Ne.symm h.geo.cw))) hmode (fun e=>absurd e hne) (.inr ⟨rfl,hf⟩)
 have hev:=hD.evs e he
 refine⟨fun x hx=>.inr ?_,hev.norel _,hev.low⟩
 rcases hev.touch x hx with ⟨b,hb,hp|⟨hp1,hp2⟩⟩|⟨_,_,_,hf⟩
 ·exact⟨b,hb,.inl hp⟩
 ·exact⟨b,hb,.inr ⟨.inl hp2,hp1⟩⟩
 ·exact hf.elim
theorem zet (hcl:∀ i i' o,cl i o→cl i' o→i=i') (hkw:∀ i,cl i (kw i-1)) (hk0 : 1≤k0) (hn:n<2147483648) (hj:G.j=n) (hA:∀ i,Acc W.r (G.γ i)) (ha:gs[0]?=some a) (h:Com W n k0 Sb K w1 G gs w t 1 q) (hwg:WgAt ty Wg w st sm) (hmode:Go.ConcN.Mode G.j G.D .w1 st sm)
  (hx:GG P ty Wg C G.V (AtW1 P ty Wg C Anch Out G.V) f0 a w) :
  ∃ m₁ ops μ',runT P (crowd gs w sl) 0=(.next m₁,ops)∧Ms.lt W.r n μ' ⟨phi n (Vc G.j G.D) .w1+Ssum G.j G.D,G.γ,f0+2*Fsum G.j G.D+2*sumTo k0 q⟩∧Inv W n k0 Sb K w1 Anch Out μ' m₁ (t++ops):=by
 have hVj:=Vc_le G.j G.D
 rcases Goes.cases hx with hstop|⟨m',rfl,hstep⟩
 ·obtain⟨_,hall⟩:=hstop w (.refl w)
  obtain⟨ho,rfl,rfl,_⟩:=hmode.open_inv trivial
  obtain⟨a',hgo,h0,hne⟩:=hall (Vc G.j G.D) (by omega) (by simpa[pend] using hwg)
  by_cases hv:Vc G.j G.D=0
  ·obtain⟨m₂,hk⟩:=h0 hv
   refine qy hcl hkw hk0 hA ha h hgo (.refl Wg w) hwg (fun e he=>.inl (bk_rd e he)) (tag':=.ke) (f':=m₂) (by rw[hj];exact .ke hk) ?_ (by simp) (.inl (by simp only[phi];omega))
   have e:((Vc G.j G.D+pend .w1:Nat):Int)*KK=0:=by rw[hv];simp[pend]
   rw[e]
   exact .fin trivial (allQuit_of ho hv)
  ·obtain⟨m₂,hk⟩:=hne hv
   exact qy hcl hkw hk0 hA ha h hgo (.refl Wg w) hwg (fun e he=>.inl (bk_rd e he)) (tag':=.w2 (Vc G.j G.D)) (f':=m₂) (by rw[hj] at hk ⊢;exact .w2 hk) (hmode.reopen trivial trivial rfl (fun vs e=>by cases e;omega)) (by simp) (.inl (by simp only[phi];omega))
 ·obtain⟨a',w',es,hgo,hD,hg'⟩:=hstep w (.refl w)
  exact jr hcl hkw hk0 hA ha h hwg hmode (by simp) hgo hD (f':=m') (by rw[hj,hD.1];exact .w1 (hD.1▸hg')) (by omega)
end
end
section
open Go.Conc (Deaf Leavers Knows touchAt QuitsD Goes semEvents NoRelease woken crowd Aside aside_setCell)
open Go.ConcN (CT Ok0 OkW Apart sumTo sumTo_upd sumTo_upd_out sumTo_congr le_sumTo upd upd_same upd_ne WD CTag Vc Ssum Fsum cnt pend phi WSit RW AtK1 WgLive RelBy Vc_le Vc_upd OpenSt AllQuit isW3 isOpen isFin phi_retag phi_mono others_uncounted bk_cell deafBehind_idle allQuit_of bk_dis bk_en bk_rd bk_rw bk_sem)
open Go.ConcR (KK WgAt stA smA rd wr mk Payload DC0 Bk g_of_ofEvents bk_of_mute ofEvent_loc_mark ofEvent_cell ofEvent_mk)
section
variable {P:Program} [Payload] {ty:TypeId} {Wg C nC:Nat} {cl:Nat→Nat→Prop} {kw:Nat→Nat} {W:Wkr P ty Wg C nC cl kw} {n k0:Nat} {Sb:Nat→Prop} {K:Nat→Prop} {w1:World}
 {Anch Out:(V:Nat→Prop)→Goroutine→World→Prop} {G:Gh W.Γ} {gs:Array Goroutine} {w:World} {sl:Option (Nat×Nat)} {t:Trace} {tag:CTag} {f0 d0:Nat} {q:Nat→Nat} {a:Goroutine} {st sm:Int}
def Through (W:Wkr P ty Wg C nC cl kw) (n k0:Nat) (Sb:Nat→Prop) (K:Nat→Prop) (w1:World) (Out:(V:Nat→Prop)→Goroutine→World→Prop) (gs:Array Goroutine) (w:World) (t:Trace):Prop:=
 ∃ (G:Gh W.Γ) (a:Goroutine) (q:Nat→Nat),gs[0]?=some a∧a.status=.running∧(∀ w2,RM ty Wg C G.V w w2→Out G.V a w2)∧Com W n k0 Sb K w1 G gs w t 0 q∧G.j=n∧WgAt ty Wg w 0 0∧(∀ i,i<n→(G.D i).stage=1)∧AcqBy Wg Sb k0 n t
set_option maxHeartbeats 1600000 in
theorem stepMain (hcl:∀ i i' o,cl i o→cl i' o→i=i') (hkw:∀ i,cl i (kw i-1)) (hk0 : 1≤k0) (hn:n<2147483648)
  (hAn:∀ V g w,Anch V g w→∃ m,GG P ty Wg C V (AtW1 P ty Wg C Anch Out V) m g w)
  (ha:gs[0]?=some a) (hm:MSit P ty Wg C n (BornW W) Anch Out tag G.j G.V G.M f0 d0 a w) (h:Com W n k0 Sb K w1 G gs w t d0 q) (hwg:WgAt ty Wg w st sm) (hmode:Go.ConcN.Mode G.j G.D tag st sm)
  (hacq:tag=.ret→AcqBy Wg Sb k0 G.j t) (hA:∀ i,Acc W.r (G.γ i)) (hrun:a.status=.running) :
  Through W n k0 Sb K w1 Out gs w t ∨
  ∃ m₁ ops μ',runT P (crowd gs w sl) 0=(.next m₁,ops)∧Ms.lt W.r n μ' ⟨phi n (Vc G.j G.D) tag+Ssum G.j G.D,G.γ,f0+2*Fsum G.j G.D+2*sumTo k0 q⟩∧Inv W n k0 Sb K w1 Anch Out μ' m₁ (t++ops):=by
 have hVj:=Vc_le G.j G.D
 have hjn:=h.geo.jn
 obtain⟨j,hj⟩:∃ j,G.j=j:=⟨_,rfl⟩
 obtain⟨V,hGV⟩:∃ V,G.V=V:=⟨_,rfl⟩
 obtain⟨M,hGM⟩:∃ M,G.M=M:=⟨_,rfl⟩
 rw[hj,hGV,hGM] at hm
 cases hm with
 | @skd r m V M _ _ hr hx =>
  subst hGV hGM
  cases f0 with
  | zero =>
   obtain⟨_,a',hgo,m₂,hk⟩:=hx w (.refl w)
   exact .inr (qy hcl hkw hk0 hA ha h hgo (.refl Wg w) hwg (fun e he=>.inl (bk_dis e he)) (tag':=.sp r 4) (f':=m₂) (by rw[hj];exact .sa1 hr hk) (hmode.reopen trivial trivial rfl (by simp)) (by simp) (.inl (by simp only[phi];omega)))
  | succ m =>
   rcases hx with hstop|⟨_,hstep⟩
   ·obtain⟨_,a',hgo,m₂,hk⟩:=hstop w (.refl w)
    exact .inr (qy hcl hkw hk0 hA ha h hgo (.refl Wg w) hwg (fun e he=>.inl (bk_dis e he)) (tag':=.sp r 4) (f':=m₂) (by rw[hj];exact .sa1 hr hk) (hmode.reopen trivial trivial rfl (by simp)) (by simp) (.inl (by simp only[phi];omega)))
   ·obtain⟨a',w',es,hgo,hD,hg'⟩:=hstep w (.refl w)
    exact .inr (zec hcl hkw hk0 hA ha h hwg hmode (by simp) hgo hD (f':=m) (by rw[hj];exact .skd hr hg') (by omega))
 | @sa1 r m V M _ _ hr hx =>
  subst hGV hGM
  rcases Goes.cases hx with hstop|⟨m',rfl,hstep⟩
  ·obtain⟨_,hall⟩:=hstop w (.refl w)
   obtain⟨ho,rfl,rfl,_⟩:=hmode.open_inv trivial
   obtain⟨a',hgo,m₂,hk⟩:=hall (Vc G.j G.D) (by omega) (by simpa[pend] using hwg)
   refine .inr (qy hcl hkw hk0 hA ha h hgo (aside_setCell w (stA Wg) _) (hwg.setSt _) (fun e he=>.inl (bk_rw e he)) (tag':=.sp r 3) (f':=m₂) (by rw[hj] at hk ⊢;exact .ske hr hk) ?_ (by simp) (.inl (by simp only[phi];omega)))
   have e:(((Vc G.j G.D:Nat):Int)+1)*KK=((Vc G.j G.D+pend (.sp r 3):Nat):Int)*KK:=by simp[pend]
   rw[e]
   exact .opn trivial ho (by simp)
  ·obtain⟨a',w',es,hgo,hD,hg'⟩:=hstep w (.refl w)
   exact .inr (jr hcl hkw hk0 hA ha h hwg hmode (by simp) hgo hD (f':=m') (by rw[hj];exact .sa1 hr hg') (by omega))
 | @ske r m V M _ _ hr hx =>
  subst hGV hGM
  rcases Goes.cases hx with hstop|⟨m',rfl,hstep⟩
  ·obtain⟨_,a',hgo,m₂,hk⟩:=hstop w (.refl w)
   exact .inr (qy hcl hkw hk0 hA ha h hgo (.refl Wg w) hwg (fun e he=>.inl (bk_en e he)) (tag':=.sp r 2) (f':=m₂) (by rw[hj];exact .sgo hr hk) (hmode.reopen trivial trivial rfl (by simp)) (by simp) (.inl (by simp only[phi];omega)))
  ·obtain⟨a',w',es,hgo,hD,hg'⟩:=hstep w (.refl w)
   exact .inr (jr hcl hkw hk0 hA ha h hwg hmode (by simp) hgo hD (f':=m') (by rw[hj];exact .ske hr hg') (by omega))
 | @sgo r m V M _ _ hr hx =>
  subst hGV hGM
  rcases Goes.cases hx with hstop|⟨m',rfl,hstep⟩
  ·obtain⟨_,a',child,hsp,hborn,hnext⟩:=hstop w (.refl w)
   obtain⟨ho,rfl,rfl,_⟩:=hmode.open_inv trivial
   rw[← hj] at hborn
   obtain⟨γ,hsit⟩:=hborn ⟨_,_,hwg⟩ h.row
   have hrun':=Go.Conc.runT_crowd_spawn (P:=P) (sl:=sl) (i:=0) ha (by simpa using hsp)
   have hsize:=h.size
   rw[hsize] at hrun'
   have hcom':=h.spawn (a':=a') hcl hk0 (by omega) hsit (x:={ g:=0,fn:=a.frame.fn,pos:=a.frame.place,act:=.go (k0+G.j) }) (y:={ g:=k0+G.j,fn:=child.frame.fn,pos:=a.frame.place,act:=.start }) ⟨rfl,rfl⟩ ⟨rfl,rfl⟩
   have eV:Vc (G.j+1) (upd G.D G.j ⟨7,0,0⟩)=Vc G.j G.D+1:=by
    simp only[Vc,sumTo,upd_same]
    rw[sumTo_upd_out G.D _ cnt (Nat.le_refl _)];rfl
   have eS:Ssum (G.j+1) (upd G.D G.j ⟨7,0,0⟩)=Ssum G.j G.D+7:=by
    simp only[Ssum,sumTo,upd_same]
    rw[sumTo_upd_out G.D _ WD.stage (Nat.le_refl _)]
   have ho':OpenSt (G.j+1) (upd G.D G.j ⟨7,0,0⟩):=fun i hi=>by
    by_cases e:i=G.j
    ·subst e;rw[upd_same];simp
    ·rw[upd_ne _ _ e];exact ho i (by omega)
   have ha':((gs.setIfInBounds 0 a').push child)[0]?=some a':=by
    rw[Array.getElem?_push_lt (by simp;omega),← Array.getElem?_eq_getElem,Array.getElem?_setIfInBounds_self_of_lt (by omega)]
   have est:∀ tag',pend tag'=0→((Vc G.j G.D+pend (.sp r 2):Nat):Int)*KK=((Vc (G.j+1) (upd G.D G.j ⟨7,0,0⟩)+pend tag':Nat):Int)*KK:=fun tag' hp=>by rw[eV,hp];simp[pend]
   cases r with
   | zero =>
    obtain⟨m₃,hk⟩:=hnext
    have ej:G.j+1=n:=by omega
    refine .inr ⟨_,_,⟨phi n (Vc (G.j+1) (upd G.D G.j ⟨7,0,0⟩)) .kd+Ssum (G.j+1) (upd G.D G.j ⟨7,0,0⟩),upd G.γ G.j γ,m₃+2*Fsum (G.j+1) (upd G.D G.j ⟨7,0,0⟩)+2*sumTo k0 q⟩,hrun',.inl (by simp only[phi];omega),
     G.spawn γ,_,w,sl,.kd,m₃,0,a',_,_,q,rfl,ha',?_,hcom',hwg,?_,by simp,fun k=>?_,rfl⟩
    ·show MSit P ty Wg C n (BornW W) Anch Out .kd (G.j+1) G.V (fun _=>False) m₃ 0 a' w
     rw[ej]
     exact .kd hk
    ·rw[est .kd rfl]
     exact .opn trivial ho' (by simp)
    ·show Acc W.r (upd G.γ G.j γ k)
     by_cases e:k=G.j
     ·subst e;rw[upd_same];exact W.acc hsit
     ·rw[upd_ne _ _ e];exact hA k
   | succ r' =>
    obtain⟨m₃,hk⟩:=hnext
    have ej:G.j+1=n-(r'+1):=by omega
    refine .inr ⟨_,_,⟨phi n (Vc (G.j+1) (upd G.D G.j ⟨7,0,0⟩)) (.sp r' 5)+Ssum (G.j+1) (upd G.D G.j ⟨7,0,0⟩),upd G.γ G.j γ,m₃+2*Fsum (G.j+1) (upd G.D G.j ⟨7,0,0⟩)+2*sumTo k0 q⟩,hrun',.inl (by simp only[phi];omega),
     G.spawn γ,_,w,sl,.sp r' 5,m₃,0,a',_,_,q,rfl,ha',?_,hcom',hwg,?_,by simp,fun k=>?_,rfl⟩
    ·show MSit P ty Wg C n (BornW W) Anch Out (.sp r' 5) (G.j+1) G.V (fun _=>False) m₃ 0 a' w
     rw[ej]
     exact .skd (by omega) hk
    ·rw[est (.sp r' 5) rfl]
     exact .opn trivial ho' (by simp)
    ·show Acc W.r (upd G.γ G.j γ k)
     by_cases e:k=G.j
     ·subst e;rw[upd_same];exact W.acc hsit
     ·rw[upd_ne _ _ e];exact hA k
  ·obtain⟨a',w',es,hgo,hD,hg'⟩:=hstep w (.refl w)
   exact .inr (jr hcl hkw hk0 hA ha h hwg hmode (by simp) hgo hD (f':=m') (by rw[hj];exact .sgo hr hg') (by omega))
 | @kd m V M _ _ hx =>
  subst hGV hGM
  cases f0 with
  | zero =>
   obtain⟨_,a',hgo,m₂,hk⟩:=hx w (.refl w)
   exact .inr (qy hcl hkw hk0 hA ha h hgo (.refl Wg w) hwg (fun e he=>.inl (bk_dis e he)) (tag':=.anch) (f':=m₂) (by rw[hj];exact .anch hk) (hmode.reopen trivial trivial rfl (by simp)) (by simp) (.inl (by simp only[phi];omega)))
  | succ m =>
   rcases hx with hstop|⟨_,hstep⟩
   ·obtain⟨_,a',hgo,m₂,hk⟩:=hstop w (.refl w)
    exact .inr (qy hcl hkw hk0 hA ha h hgo (.refl Wg w) hwg (fun e he=>.inl (bk_dis e he)) (tag':=.anch) (f':=m₂) (by rw[hj];exact .anch hk) (hmode.reopen trivial trivial rfl (by simp)) (by simp) (.inl (by simp only[phi];omega)))
   ·obtain⟨a',w',es,hgo,hD,hg'⟩:=hstep w (.refl w)
    exact .inr (zec hcl hkw hk0 hA ha h hwg hmode (by simp) hgo hD (f':=m) (by rw[hj];exact .kd hg') (by omega))
 | @anch m V M _ _ hx =>
  subst hGV hGM
  rcases Goes.cases hx with hstop|⟨m',rfl,hstep⟩
  ·obtain⟨m₂,hk⟩:=hAn _ _ _ (hstop w (.refl w))
   obtain⟨m₁,ops,μ',e1,e2,e3⟩:=zet (sl:=sl) hcl hkw hk0 hn hj hA ha h hwg (hmode.reopen trivial trivial rfl (by simp)) hk
   exact .inr ⟨m₁,ops,μ',e1,by
    rcases e2 with x|⟨x,_⟩|⟨x,_,_⟩<;>exact .inl (by simp only[phi] at x ⊢;omega),e3⟩
  ·obtain⟨a',w',es,hgo,hD,hg'⟩:=hstep w (.refl w)
   exact .inr (jr hcl hkw hk0 hA ha h hwg hmode (by simp) hgo hD (f':=m') (by rw[hj];exact .anch hg') (by omega))
 | @w1 m V M _ _ hx =>
  subst hGV hGM
  exact .inr (zet hcl hkw hk0 hn hj hA ha h hwg hmode hx)
 | @w2 vs m V M _ _ hx =>
  subst hGV hGM
  rcases Goes.cases hx with hstop|⟨m',rfl,hstep⟩
  ·obtain⟨_,hall⟩:=hstop w (.refl w)
   obtain⟨ho,rfl,rfl,hw2⟩:=hmode.open_inv trivial
   obtain⟨hle,h1⟩:=hw2 vs rfl
   obtain⟨hhit,hmiss⟩:=hall (Vc G.j G.D) (by omega) (by simpa[pend] using hwg)
   by_cases e:Vc G.j G.D=vs
   ·obtain⟨a',hgo,m₂,hk⟩:=hhit e
    exact .inr (qy hcl hkw hk0 hA ha h hgo (aside_setCell w (stA Wg) _) (hwg.setSt _) (fun e he=>.inl (bk_rw e he)) (tag':=.w3) (f':=m₂+1) (by rw[hj] at hk ⊢;exact .w3 hk) (.reg trivial ho (by omega)) (by simp) (.inl (by simp only[phi];omega)))
   ·obtain⟨a',hgo,m₂,hk⟩:=hmiss e
    exact .inr (qy hcl hkw hk0 hA ha h hgo (.refl Wg w) hwg (fun e he=>.inl (bk_rd e he)) (tag':=.anch) (f':=m₂) (by rw[hj];exact .anch hk) (hmode.reopen trivial trivial rfl (by simp)) (by simp) (.inl (by simp only[phi];omega)))
  ·obtain⟨a',w',es,hgo,hD,hg'⟩:=hstep w (.refl w)
   exact .inr (jr hcl hkw hk0 hA ha h hwg hmode (by simp) hgo hD (f':=m') (by rw[hj];exact .w2 hg') (by omega))
 | @w3 m V M _ _ hx =>
  subst hGV hGM
  rcases Goes.cases hx with hstop|⟨m',rfl,hstep⟩
  ·obtain⟨_,hoff,hblk,htake⟩:=hstop w (.refl w)
   cases hmode with
   | opn h1 _ _=>exact h1.elim
   | reg h1 h2 h3=>exact .inr (qy hcl hkw hk0 hA ha h (hblk ⟨_,hwg⟩) (.refl Wg w) hwg (by simp) (tag':=.blk) (f':=0) (by rw[hj];exact .blk hstop) (.reg trivial h2 h3) (by simp) (.inr ⟨rfl,by omega⟩))
   | last L h1 h2 h3 h4=>exact .inr (qy hcl hkw hk0 hA ha h (hblk ⟨_,hwg⟩) (.refl Wg w) hwg (by simp) (tag':=.blk) (f':=0) (by rw[hj];exact .blk hstop) (.last L trivial h2 h3 h4) (by simp) (.inr ⟨rfl,by omega⟩))
   | sema h2 =>
    obtain⟨a',hgo,m₂,hk⟩:=htake hwg
    exact .inr (qy hcl hkw hk0 hA ha h hgo (aside_setCell w (smA Wg) _) (hwg.setSm 0) (fun e he=>.inl (bk_sem e he)) (tag':=.w4) (f':=m₂) (by rw[hj];exact .w4 hk) (.fin trivial h2) (by simp) (.inl (by simp only[phi];omega)))
   | fin h1 _=>exact h1.elim
  ·obtain⟨a',w',es,hgo,hD,hg'⟩:=hstep w (.refl w)
   exact .inr (jr hcl hkw hk0 hA ha h hwg hmode (by simp) hgo hD (f':=m'+1) (by rw[hj];exact .w3 hg') (by omega))
 | blk hx=>simp at hrun
 | @w4 m V M _ _ hx =>
  subst hGV hGM
  rcases Goes.cases hx with hstop|⟨m',rfl,hstep⟩
  ·obtain⟨_,hx⟩:=hstop w (.refl w)
   obtain⟨hq,rfl,rfl⟩:=hmode.fin_inv trivial
   obtain⟨a',hgo,m₂,hk⟩:=hx hwg
   exact .inr (qy hcl hkw hk0 hA ha h hgo (.refl Wg w) hwg (fun e he=>.inl (bk_rd e he)) (tag':=.ke) (f':=m₂) (by rw[hj];exact .ke hk) (.fin trivial hq) (by simp) (.inl (by simp only[phi];omega)))
  ·obtain⟨a',w',es,hgo,hD,hg'⟩:=hstep w (.refl w)
   exact .inr (jr hcl hkw hk0 hA ha h hwg hmode (by simp) hgo hD (f':=m') (by rw[hj];exact .w4 hg') (by omega))
 | @ke m V M _ _ hx =>
  subst hGV hGM
  rcases Goes.cases hx with hstop|⟨m',rfl,hstep⟩
  ·obtain⟨_,a',hgo,m₂,hk⟩:=hstop w (.refl w)
   obtain⟨hq,rfl,rfl⟩:=hmode.fin_inv trivial
   exact .inr (qy hcl hkw hk0 hA ha h hgo (.refl Wg w) hwg (fun e he=>.inl (bk_en e he)) (tag':=.acq) (f':=m₂) (by rw[hj];exact .acq hk) (.fin trivial hq) (by simp) (.inl (by simp only[phi];omega)))
  ·obtain⟨a',w',es,hgo,hD,hg'⟩:=hstep w (.refl w)
   exact .inr (jr hcl hkw hk0 hA ha h hwg hmode (by simp) hgo hD (f':=m') (by rw[hj];exact .ke hg') (by omega))
 | @acq m V M _ _ hx =>
  subst hGV hGM
  rcases Goes.cases hx with hstop|⟨m',rfl,hstep⟩
  ·obtain⟨_,a',hgo,m₂,hk⟩:=hstop w (.refl w)
   obtain⟨hq,rfl,rfl⟩:=hmode.fin_inv trivial
   refine .inr (qy hcl hkw hk0 hA ha h hgo (.refl Wg w) hwg (fun e he=>.inr (.inr (by simpa using he))) (tag':=.ret) (f':=m₂) (by rw[hj];exact .ret hk) (.fin trivial hq) (fun _=>?_) (.inl (by simp only[phi];omega)))
   have e1:MemOp.ofEvents 0 a.frame.fn a.frame.place #[mk (.acquire (stA Wg))]=#[{ g:=0,fn:=a.frame.fn,pos:=a.frame.place,act:=.mark (.acquire (stA Wg)) }]:=by rw[Go.Conc.ofEvents_eq];simp[ofEvent_mk]
   have hy:(t++#[({ g:=0,fn:=a.frame.fn,pos:=a.frame.place,act:=.mark (.acquire (stA Wg)) } : MemOp)])[t.size]?=some { g:=0,fn:=a.frame.fn,pos:=a.frame.place,act:=.mark (.acquire (stA Wg)) }:=by simp
   refine⟨t.size,by rw[e1,Go.Conc.act?_of hy],by rw[e1];simp[Trace.g?],by rw[e1];exact⟨0,by simp[Trace.g?],by rw[Go.Conc.deaf_old (Nat.le_refl _)];exact h.deaf0⟩,fun i hi=>?_⟩
   obtain⟨r,hr⟩:=h.rel i hi (by rw[hq i hi];omega)
   exact⟨r,hr.appOther g_of_ofEvents (by omega),Go.Conc.lt_of_act? hr.rel.act⟩
  ·obtain⟨a',w',es,hgo,hD,hg'⟩:=hstep w (.refl w)
   exact .inr (jr hcl hkw hk0 hA ha h hwg hmode (by simp) hgo hD (f':=m') (by rw[hj];exact .acq hg') (by omega))
 | @ret m V M _ _ hx =>
  subst hGV hGM
  rcases Goes.cases hx with hstop|⟨m',rfl,hstep⟩
  ·obtain⟨hq,rfl,rfl⟩:=hmode.fin_inv trivial
   exact .inl ⟨G,a,q,ha,hrun,fun w2 h2=>(hstop w2 h2).2,h,hj,hwg,fun i hi=>hq i (by omega),hj▸hacq rfl⟩
  ·obtain⟨a',w',es,hgo,hD,hg'⟩:=hstep w (.refl w)
   exact .inr (jr hcl hkw hk0 hA ha h hwg hmode hacq hgo hD (f':=m') (by rw[hj];exact .ret hg') (by omega))
end
end
section
open Go.Conc (Deaf Leavers Knows touchAt QuitsD Goes semEvents NoRelease woken crowd Aside awake)
open Go.ConcN (CT Ok0 OkW Apart sumTo sumTo_upd upd upd_same upd_ne WD CTag Vc Ssum Fsum cnt pend phi WSit RW AtK1 WgLive RelBy phi_retag)
open Go.ConcR (KK WgAt stA smA rd wr mk Payload DC0 g_of_ofEvents)
section
variable {P:Program} [Payload] {ty:TypeId} {Wg C nC:Nat} {cl:Nat→Nat→Prop} {kw:Nat→Nat} {W:Wkr P ty Wg C nC cl kw} {n k0:Nat} {Sb:Nat→Prop} {K:Nat→Prop} {w1:World}
 {Anch Out:(V:Nat→Prop)→Goroutine→World→Prop} {G:Gh W.Γ} {gs:Array Goroutine} {w:World} {sl:Option (Nat×Nat)} {t:Trace} {tag:CTag} {f0 d0:Nat} {q:Nat→Nat} {a g:Goroutine} {st sm:Int}
theorem Com.at (hkw:∀ i,cl i (kw i-1)) (h:Com W n k0 Sb K w1 G gs w t d0 q) (d:Nat):Com W n k0 Sb K w1 G gs (w.at d) t d0 q:=
 ⟨h.size,h.lv,fun i hi=>let ⟨g,hg,hs⟩:=h.wk i hi;⟨g,hg,hs.rely hkw h.row (Rly.at w d)⟩,⟨h.geo.jn,h.geo.v,h.geo.m,h.geo.pr,h.geo.dis,h.geo.sd,h.geo.old,h.geo.cw,h.geo.cs⟩,h.ct,h.norel,h.deaf0,h.deafW,h.rel,h.kn,h.over,h.low,h.row,h.keep,h.calm.trans (Calm.at w d),h.grow⟩
theorem Through.at (hkw:∀ i,cl i (kw i-1)) (h:Through W n k0 Sb K w1 Out gs w t) (d:Nat):Through W n k0 Sb K w1 Out gs (w.at d) t:=by
 obtain⟨G,a,q,h1,h2,h3,h4,h5,h6,h7,h8⟩:=h
 exact⟨G,a,q,h1,h2,fun w2 hr=>h3 w2 ((Rly.at w d).trans hr),h4.at hkw d,h5,h6,h7,h8⟩
theorem Com.mute (hcl:∀ i i' o,cl i o→cl i' o→i=i') (hk0 : 1≤k0) (h:Com W n k0 Sb K w1 G gs w t d0 q) {i:Nat} (h0 : 0<i) (hi:i<k0) (hg:gs[i]?=some g) {g':Goroutine} {es:Array Event} {k:Nat} (hm:∀ e∈es,e.mute=true) (hq:QuitsD P k (deafBehind (Deaf t i) es) g') :
  Com W n k0 Sb K w1 G ((gs.map (woken P g g' w)).setIfInBounds i g') w (t++MemOp.ofEvents i g.frame.fn g.frame.place es) d0 (upd q i k):=by
 have hkg:∀ op∈MemOp.ofEvents i g.frame.fn g.frame.place es,op.g=i∧op.act.touch?=none∧op.act.low w.heap.size∧op.act≠.mark (.release (stA Wg)):=fun op hop=>by
  obtain⟨e,he,rfl⟩:=Go.Conc.mem_ofEvents hop
  refine⟨rfl,Go.Conc.touch_mute (hm e he),Go.Conc.low_mute (hm e he) _,fun x=>?_⟩
  have h1:=Go.ConcR.loc_of_ofEvent x
  have:=hm e he
  obtain⟨loc,wr,sy⟩:=e
  simp only at h1
  subst h1
  simp[Event.mute] at this
 have hsize:=h.size
 have hgs:i<gs.size:=by omega
 refine⟨by simpa using h.size,fun j x hj hjk hx=>?_,fun j hj=>?_,h.geo,CT.appW (j:=k0+G.j-1) (h.geo.apart hcl) h.ct (by omega) (by omega) fun op hop=>⟨(hkg op hop).1,fun x hx=>by rw[(hkg op hop).2.1] at hx;cases hx⟩,h.norel.app fun op hop=>(hkg op hop).2.2.2,
  by rw[Go.Conc.Deaf_other t (by omega) _ fun op hop=>(hkg op hop).1];exact h.deaf0,fun j hj=>by rw[Go.Conc.Deaf_other t (by omega) _ fun op hop=>(hkg op hop).1];exact h.deafW j hj,fun j hj hst=>?_,zcz h.kn fun op hop=>.inr (.inl (hkg op hop).2.1),JR h.over fun op hop=>.inr (.inr (hkg op hop).2.1),
  Go.Conc.seen_app h.low fun op hop=>(hkg op hop).2.2.1,h.row,h.keep,h.calm,h.grow⟩
 ·by_cases e:j=i
  ·subst e
   rw[Qc _ _ _ hgs] at hx
   cases hx
   rw[upd_same,Go.Conc.Deaf_own]
   exact hq
  ·rw[Zn _ _ _ _ (Ne.symm e)] at hx
   obtain⟨y,hy,rfl⟩:=Option.map_eq_some_iff.1 hx
   have hqj:=h.lv j y hj hjk hy
   rw[Go.Conc.woken_quitsD hqj,upd_ne _ _ e,Go.Conc.Deaf_other t (Ne.symm e) _ fun op hop=>(hkg op hop).1]
   exact hqj
 ·obtain⟨x,hx,hsx⟩:=h.wk j hj
  exact⟨x,by rw[Zn _ _ _ _ (by omega),hx,Option.map_some,hsx.woken],hsx⟩
 ·obtain⟨r,hr⟩:=h.rel j hj hst
  exact⟨r,hr.appOther (fun op hop=>(hkg op hop).1) (by omega)⟩
theorem some_runs (hAr:∀ V g w,Anch V g w→g.status=.running) (ha:gs[0]?=some a) (hm:MSit P ty Wg C n (BornW W) Anch Out tag G.j G.V G.M f0 d0 a w) (h:Com W n k0 Sb K w1 G gs w t d0 q) (hmode:Go.ConcN.Mode G.j G.D tag st sm) :
  ∃ (i:Nat) (g:Goroutine),gs[i]?=some g∧g.status=.running:=by
 rcases hm.status hAr with ⟨hs,_⟩|⟨_,rfl⟩
 ·exact⟨0,a,ha,hs⟩
 ·have runs:∀ i,i<G.j→(G.D i).stage≠1→∃ (i:Nat) (g:Goroutine),gs[i]?=some g∧g.status=.running:=fun i hi hne=>by
   obtain⟨g,hg,hs⟩:=h.wk i hi
   refine⟨k0+i,g,hg,?_⟩
   rcases hs with ⟨_,_,hs⟩|⟨_,hs,_⟩
   ·exact W.run hs
   ·exact hs.running_of hne
  cases hmode with
  | opn h1 _ _=>exact h1.elim
  | reg _ _ h3 =>
   obtain⟨i,hi,h5⟩:=Go.ConcN.exists_counted h3
   exact runs i hi (by omega)
  | last L _ h2 h3 _=>exact runs L h2 (by omega)
  | fin h1 _=>exact h1.elim
theorem all_awake (hAr:∀ V g w,Anch V g w→g.status=.running) (_hk0 : 1≤k0) (ha:gs[0]?=some a) (hm:MSit P ty Wg C n (BornW W) Anch Out tag G.j G.V G.M f0 d0 a w) (h:Com W n k0 Sb K w1 G gs w t d0 q):∀ g∈gs,awake g:=by
 intro g hg tm
 obtain⟨i,hi⟩:=Array.mem_iff_getElem?.1 hg
 by_cases e0:i=0
 ·subst e0
  rw[ha] at hi;cases hi
  rcases hm.status hAr with ⟨hs,_⟩|⟨hs,_⟩<;>rw[hs]<;>simp
 ·by_cases e1:i<k0
  ·have:=(h.lv i g (by omega) e1 hi).status
   rcases this with x|x<;>rw[x]<;>simp
  ·have hlt:=(Array.getElem?_eq_some_iff.1 hi).1
   have hsize:=h.size
   obtain⟨x,hx,hs⟩:=h.wk (i-k0) (by omega)
   rw[show k0+(i-k0)=i by omega,hi] at hx
   cases hx
   rcases hs.status with x|x<;>rw[x]<;>simp
theorem company_step (hcl:∀ i i' o,cl i o→cl i' o→i=i') (hkw:∀ i,cl i (kw i-1)) (hk0 : 1≤k0) (hn:n<2147483648) (hAr:∀ V g w,Anch V g w→g.status=.running)
  (hAn:∀ V g w,Anch V g w→∃ m,GG P ty Wg C V (AtW1 P ty Wg C Anch Out V) m g w) {μ : Ms W.Γ} {m:Machine} (h:Inv W n k0 Sb K w1 Anch Out μ m t) :
  (∃ gs w sl,m=crowd gs w sl∧Through W n k0 Sb K w1 Out gs w t)∨∃ m' ops μ',stepT P m=(.next m',ops)∧Ms.lt W.r n μ' μ∧Inv W n k0 Sb K w1 Anch Out μ' m' (t++ops):=by
 obtain⟨G,gs,w,sl,tag,f0,d0,a,st,sm,q,rfl,ha,hm,hc,hwg,hmode,hacq,hA,rfl⟩:=h
 obtain⟨i,g,d,sl',hi,hg,hst⟩:=Go.Conc.crowd_pick (P:=P) (w:=w) (sl:=sl) (all_awake hAr hk0 ha hm hc) (some_runs hAr ha hm hc hmode)
 rw[hst]
 have hm':=hm.rely (Rly.at w d)
 have hc':=hc.at hkw d
 have hwg':WgAt ty Wg (w.at d) st sm:=hwg
 by_cases e0:i=0
 ·subst e0
  rw[ha] at hi
  cases hi
  rcases stepMain (sl:=sl') hcl hkw hk0 hn hAn ha hm' hc' hwg' hmode hacq hA hg with hx|hx
  ·exact .inl ⟨gs,w,sl,rfl,hx.at hkw w.drawn⟩
  ·exact .inr hx
 ·by_cases e1:i<k0
  ·have hq:=hc'.lv i g (by omega) e1 hi
   have hi0:(i==0)=false:=by simp;omega
   cases hqi:q i with
   | zero=>rw[hqi] at hq;rw[hq.1] at hg;cases hg
   | succ k =>
    rw[hqi] at hq
    rcases hq with ⟨hf,_⟩|⟨_,g',es,hmu,hstp,hq'⟩
    ·rw[hf] at hg;cases hg
    have hrun:=Go.Conc.runT_crowd_go (P:=P) (sl:=sl') (i:=i) hi (by rw[hi0];exact hstp (w.at d))
    obtain⟨tag',f',hmw,hf',htag,hwk⟩:=hm'.wokenBy hAr (.refl _) g g'
    have hcm:=hc'.mute hcl hk0 (by omega) e1 hi (g':=g') (k:=k) hmu hq'
    have hsum:sumTo k0 (upd q i k)+(k+1)=sumTo k0 q+k:=by
     have:=sumTo_upd q k id e1
     simpa[hqi] using this
    refine .inr ⟨_,_,⟨phi n (Vc G.j G.D) tag'+Ssum G.j G.D,G.γ,f'+2*Fsum G.j G.D+2*sumTo k0 (upd q i k)⟩,hrun,.inr (.inr ⟨by simp only[phi_retag n _ htag],rfl,by simp only;omega⟩),
     G,_,w.at d,sl',tag',f',d0,woken P g g' (w.at d) a,st,sm,upd q i k,rfl,by rw[Zn _ _ _ _ e0,ha];rfl,hmw,hcm,hwg',hmode.retag htag,fun e=>?_,hA,rfl⟩
    rcases htag with rfl|⟨_,rfl⟩
    ·exact (hacq e).app fun i' r _ hr=>hr.appOther g_of_ofEvents (by omega)
    ·cases e
  ·have hlt:=(Array.getElem?_eq_some_iff.1 hi).1
   have hsize:=hc.size
   obtain⟨j,rfl⟩:∃ j,i=k0+j:=⟨i-k0,by omega⟩
   exact .inr (stepWorker hcl hkw hk0 hn hAr ha hm' hc' hwg' hmode hacq hA (by omega) hi hg)
theorem company_runs (hcl:∀ i i' o,cl i o→cl i' o→i=i') (hkw:∀ i,cl i (kw i-1)) (hk0 : 1≤k0) (hn:n<2147483648) (hAr:∀ V g w,Anch V g w→g.status=.running)
  (hAn:∀ V g w,Anch V g w→∃ m,GG P ty Wg C V (AtW1 P ty Wg C Anch Out V) m g w) :
  ∀ (S:Nat) (v:Nat→W.Γ),Acc (UpF W.r n) v→∀ (F:Nat) (m:Machine) (t:Trace),Inv W n k0 Sb K w1 Anch Out ⟨S,v,F⟩ m t →
   ∃ N gs w sl t',runNT P N m t=(.next (crowd gs w sl),t')∧Through W n k0 Sb K w1 Out gs w t':=by
 intro S
 induction S using Nat.strongRecOn with
 | _ S ihS =>
  intro v hv
  induction hv with
  | intro v hv ihv =>
   intro F
   induction F using Nat.strongRecOn with
   | _ F ihF =>
    intro m t h
    rcases company_step hcl hkw hk0 hn hAr hAn h with ⟨gs,w,sl,rfl,hx⟩|⟨m',ops,⟨S',v',F'⟩,hst,hlt,hinv⟩
    ·exact⟨0,gs,w,sl,t,rfl,hx⟩
    ·have next:(∃ N gs w sl t',runNT P N m' (t++ops)=(.next (crowd gs w sl),t')∧Through W n k0 Sb K w1 Out gs w t')→∃ N gs w sl t',runNT P N m t=(.next (crowd gs w sl),t')∧Through W n k0 Sb K w1 Out gs w t':=by
      rintro⟨N,gs,w,sl,t',h1,h2⟩
      exact⟨N+1,gs,w,sl,t',by simp only[runNT,hst];exact h1,h2⟩
     have hacc:Acc (UpF W.r n) v':=by
      obtain⟨G,gs,w,sl,tag,f0,d0,a,st,sm,q,_,_,_,_,_,_,_,hA,e⟩:=hinv
      have ev:v'=G.γ:=congrArg Ms.v e
      rw[ev]
      exact zct n _ fun i _=>hA i
     refine next ?_
     rcases hlt with x|⟨x,y⟩|⟨x,y,z⟩
     ·exact ihS S' x v' hacc F' m' _ hinv
     ·simp only at x y
      subst x
      exact ihv v' y F' m' _ hinv
     ·simp only at x y z
      subst x y
      exact ihF F' z m' _ hinv
end
end
section
open Go.Conc (Deaf Leavers Knows touchAt QuitsD Goes semEvents NoRelease woken crowd Aside awake Perm)
open Go.ConcN (CT Ok0 OkW Apart sumTo sumTo_upd upd upd_same upd_ne WD CTag Vc Ssum Fsum cnt pend phi WSit RW AtK1 WgLive RelBy phi_retag PermW)
open Go.ConcR (KK WgAt stA smA rd wr mk Payload DC0 g_of_ofEvents)
section
variable {P:Program} [Payload] {ty:TypeId} {Wg C nC:Nat} {cl:Nat→Nat→Prop} {kw:Nat→Nat} {W:Wkr P ty Wg C nC cl kw} {n k0:Nat} {Sb:Nat→Prop} {K:Nat→Prop} {w1:World}
 {Anch Out:(V:Nat→Prop)→Goroutine→World→Prop} {G:Gh W.Γ} {gs:Array Goroutine} {w:World} {sl:Option (Nat×Nat)} {t:Trace} {q:Nat→Nat} {a:Goroutine}
theorem Com.leavers (hk0 : 1≤k0) (h:Com W n k0 Sb K w1 G gs w t 0 q) (hq:∀ i,i<G.j→(G.D i).stage=1):∃ q',Leavers P t gs q':=by
 refine⟨fun i=>if i<k0 then q i else (G.D (i-k0)).fuel,⟨fun i g hi hg=>?_,fun j hj=>?_⟩⟩
 ·by_cases e:i<k0
  ·simp only[e,if_true]
   exact h.lv i g hi e hg
  ·simp only[e,if_false]
   have hlt:=(Array.getElem?_eq_some_iff.1 hg).1
   have hsize:=h.size
   have hik:i-k0<G.j:=by omega
   obtain⟨x,hx,hs⟩:=h.wk (i-k0) hik
   rw[show k0+(i-k0)=i by omega,hg] at hx
   cases hx
   have hd:=h.deafW (i-k0) hik
   rw[show k0+(i-k0)=i by omega] at hd
   rw[hd]
   rcases hs with ⟨h7,_⟩|⟨_,hs,_⟩
   ·have:=hq _ hik;omega
   ·exact hs.quits (hq _ hik)
 ·have hsize:=h.size
  exact Go.ConcN.Deaf_absent fun i op hi e=>by have:=h.ct.gs i op hi;omega
theorem Com.tr (hk0 : 1≤k0) (h:Com W n k0 Sb K w1 G gs w t 0 q) (_hq:∀ i,i<G.j→(G.D i).stage=1) (hacq:AcqBy Wg Sb k0 G.j t):Tr (fun b=>Sb b∨b=Wg) (gs.size-1) w.heap.size t:=by
 obtain⟨qa,h1,h2,h3,h4⟩:=hacq
 have hsize:=h.size
 have edge:∀ i r,i<G.j→RelX Wg Sb t (k0+i) r→r<qa→HappensBefore t r qa:=fun i r _ hr hlt =>
  .single (.inr ⟨.marked hlt (.inr hr.rel.act) h1 (fun k _ _=>h.norel k),hr.rel.heard,h3⟩)
 obtain⟨zq,hzq,hzg⟩:=Option.map_eq_some_iff.1 h2
 have known:∀ (i:Nat) (op:MemOp) (x:Touch),t[i]?=some op→op.act.touch?=some x→¬ ShF Wg Sb x.loc→Knows t 0 i:=by
  intro i op x hi hx hs
  by_cases e:op.g<k0
  ·exact h.kn i op x hi e hx hs
  ·have hg:=h.ct.gs i op hi
   obtain⟨r,hr,hrq⟩:=h4 (op.g-k0) (by omega)
   have hlt:=hr.past i op x hi (by omega) hx hs
   have hg2:t.g? r=some op.g:=by have:=hr.rel.g;rwa [show k0+(op.g-k0)=op.g by omega] at this
   have hb:HappensBefore t i qa:=.trans (.single (.inl ⟨hlt,op.g,by simp[Trace.g?,hi],hg2⟩)) (edge _ r (by omega) hr hrq)
   exact⟨qa,zq,hzq,hzg,.inr hb⟩
 have perm:∀ l,¬ ShF Wg Sb l→Perm t 0 l:=by
  intro l hl i a ha e
  obtain⟨op,ho,hox⟩:=Go.Conc.touch_of ha
  exact known i op a ho hox (by rw[e];exact hl)
 refine⟨⟨h.ct.quiet,fun k _ _ l hl=>hl.elim,fun k _ _ l hl=>hl.elim,fun l hs _=>perm l hs,fun l hs _=>PermW.of (perm l hs),h.ct.nr,fun i op hi=>by have:=h.ct.gs i op hi;omega⟩,fun i g hg hne hc=>?_,h.deaf0,h.low⟩
 by_cases e:g<k0
 ·exact h.over i g hg hne e hc
 ·obtain⟨op,ho,rfl⟩:=Option.map_eq_some_iff.1 hg
  have hgs:=h.ct.gs i op ho
  obtain⟨r,hr,hrq⟩:=h4 (op.g-k0) (by omega)
  have hk:k0+(op.g-k0)=op.g:=by omega
  have hrel:=hr.rel
  rw[hk] at hrel
  have hle:i≤r:=Nat.le_of_not_lt fun hlt=>hrel.after i hlt hg hc
  rcases Nat.lt_or_ge i r with hlt|hge
  ·exact⟨qa,h2,.trans (.single (.inl ⟨hlt,op.g,hg,hrel.g⟩)) (edge _ r (by omega) hr hrq)⟩
  ·obtain rfl:i=r:=by omega
   exact⟨qa,h2,edge _ i (by omega) hr hrq⟩
end
end
end Go.Par
