/- The starter alone beside leavers, by its explicit steps; pure spans inside other walks. What is asked of the two programs, checked by reckoning. Two programs that differ at some .. -/
import Derived.Test.YtlgiofglcgbjgaaM13
import Derived.KernelRfl
namespace Go.Par
open Go
section
open Go.Conc (Deaf Leavers Knows touchAt QuitsD Goes awake AtRel NoRelease)
open Go.ConcN (CT Ok0 OkW Apart sumTo WgLive)
open Go.ConcR (DC0 KK WgAt stA smA rd wr mk)
section
variable {P:Program} {main:Bool} {R:World→World→Prop} {D D':World→World→Array Event→Prop} {Stop:Goroutine→World→Prop}
theorem zbd {n:Nat} {g:Goroutine} {w:World} (h:Goes P main R D Stop n g w):∀ r,Goes P main R D Stop (n+r) g w
 | 0=>h
 | r+1=>(zbd h r).more
variable {ty:TypeId} {Wg C:Nat}
theorem Run.le {St:(V M:Nat→Prop)→Goroutine→World→Prop} : ∀ {k k':Nat} {V M:Nat→Prop} {g:Goroutine} {w:World},k≤k'→Run P ty Wg C St k V M g w→Run P ty Wg C St k' V M g w
 | 0,0,_,_,_,_,_,h=>h
 | 0,_+1,_,_,_,_,_,h=>.inl h
 | _+1,0,_,_,_,_,hk,_=>by omega
 | _+1,_+1,_,_,_,_,hk,h=>h.imp id fun x=>⟨x.1,fun w1 r=>let ⟨g',w',es,h1,h2,h3⟩:=x.2 w1 r;⟨g',w',es,h1,h2,Run.le (by omega) h3⟩⟩
theorem jF (w:World) (V:Nat→Prop):(fun b=>V b∨fresh w w b)=V:=by
 funext b
 exact propext ⟨fun h=>h.elim id fun x=>by have:=x.1;have:=x.2;omega,.inl⟩
theorem Gua.none {W R O:Nat→Prop} {w:World} : Gua C W R O w w #[]:=⟨Nat.le_refl _,.refl w,fun _ _ _ _=>rfl,fun cs _ _ h=>⟨cs,h,rfl,fun _ _=>rfl⟩,fun _ he=>by simp at he⟩
theorem zcu {St:(V M:Nat→Prop)→Goroutine→World→Prop} {k:Nat} {V M:Nat→Prop} : ∀ {m:Nat} {g:Goroutine} {w:World},Goes P true (RM ty Wg C V) DC0 (fun g w=>Run P ty Wg C St k V M g w) m g w→Run P ty Wg C St (k+m) V M g w
 | 0,_,w,h=>h w (.refl w)
 | m+1,g,w,h=>by
  rcases h with h|⟨hr,h⟩
  ·exact Run.le (by omega) (h w (.refl w))
  ·refine .inr ⟨hr,fun w1 r=>?_⟩
   have:=h w1 r
   cases e:stepG P true g w1 with
   | go g' w' es =>
    rw[e] at this
    obtain⟨⟨ew,ee⟩,h2⟩:=this
    rw[ew] at h2 ⊢
    rw[ee]
    refine⟨g',w1,#[],rfl,.none,?_⟩
    show Run P ty Wg C St (k+m) (fun b=>V b∨fresh w1 w1 b) (fun b=>M b∨fresh w1 w1 b) g' w1
    rw[jF w1 V,jF w1 M]
    exact zcu h2
   | _=>rw[e] at this;exact this.elim
theorem JK {St:(V M:Nat→Prop)→Goroutine→World→Prop} {k:Nat} {V M:Nat→Prop} {g:Goroutine} {w:World} (hr:g.status=.running)
  (h:∀ w1,RM ty Wg C V w w1→(stepG P true g w1).goes fun g' w' es=>Gua C M V (fun _=>False) w1 w' es∧Run P ty Wg C St k (fun b=>V b∨fresh w1 w' b) (fun b=>M b∨fresh w1 w' b) g' w'):Run P ty Wg C St (k+1) V M g w:=by
 refine .inr ⟨hr,fun w1 r=>?_⟩
 have:=h w1 r
 cases e:stepG P true g w1 with
 | go g' w' es=>rw[e] at this;exact⟨g',w',es,rfl,this.1,this.2⟩
 | _=>rw[e] at this;exact this.elim
end
structure EvA (Sb:Nat→Prop) (N:Nat) (e:Event):Prop where
 touch:∀ x,(MemAct.ofEvent e).touch?=some x→∃ b,locB x.loc=some b∧¬ Sb b
 still:e.loc≠.mark .disable∧e.loc≠.mark .enable
 norel:∀ a,e.loc≠.mark (.release a)
 low:(MemAct.ofEvent e).low N
structure DA (Sb:Nat→Prop) (N0:Nat) (w w1:World) (es:Array Event):Prop where
 size:w.heap.size≤w1.heap.size
 calm:Calm w w1
 blk:∀ b,b<N0→w1.heap[b]?=w.heap[b]?
 evs:∀ e∈es,EvA Sb w1.heap.size e
section
variable {Sb:Nat→Prop} {n N N':Nat} {t:Trace}
theorem Tr.own {fn:FuncId} {pos:String} {es:Array Event} (h:Tr Sb n N t) (hN:N≤N') (he:∀ e∈es,EvA Sb N' e):Tr Sb n N' (t++MemOp.ofEvents 0 fn pos es):=by
 refine⟨h.ct.app0 (JD Sb) fun op hop=>?_,Go.Conc.handedOver_app h.over fun op hop=>.inl ?_,?_,Go.Conc.seen_app (fun op hop=>MemAct.low_mono hN (h.low op hop)) fun op hop=>?_⟩
 ·obtain⟨e,hm,rfl⟩:=Go.Conc.mem_ofEvents hop
  refine⟨rfl,fun x hx=>.inr ⟨?_,fun _ _ _ h=>h,fun _ _ _ _ h=>h⟩⟩
  rintro⟨a,ha,hs⟩
  obtain⟨b,hb,hns⟩:=(he e hm).touch x hx
  rw[ha] at hb
  cases hb
  exact hns hs
 ·obtain⟨e,hm,rfl⟩:=Go.Conc.mem_ofEvents hop
  rfl
 ·rw[Go.Conc.Deaf_own,Go.Conc.deafBehind_still fun e hm=>(he e hm).still]
  exact h.hears
 ·obtain⟨e,hm,rfl⟩:=Go.Conc.mem_ofEvents hop
  exact (he e hm).low
end
section
variable {P:Program} {Sb:Nat→Prop}
theorem slip {gs:Array Goroutine} {w:World} {t:Trace} {q:Nat→Nat} (hlv:Leavers P t gs q) (htr:Tr Sb (gs.size-1) w.heap.size t) {g0:Goroutine} (h0:gs[0]?=some g0) (hr:g0.status=.running)
  {i:Nat} (hpos : 0<i) {g:Goroutine} (hi:gs[i]?=some g) (hg:g.status=.running) (sl:Option (Nat×Nat)) :
  ∃ gs1 t1 q1,runT P (Go.Conc.crowd gs w sl) i=(.next (Go.Conc.crowd gs1 w sl),t1)∧gs1[0]?=some g0∧Leavers P (t++t1) gs1 q1∧Tr Sb (gs1.size-1) w.heap.size (t++t1)∧gs1.size=gs.size∧sumTo gs1.size q1<sumTo gs.size q∧∀ A,NoRelease A t→NoRelease A (t++t1):=by
 have hq:=hlv.old i g hpos hi
 have hi0:(i==0)=false:=by simp;omega
 have hlt:i<gs.size:=(Array.getElem?_eq_some_iff.1 hi).1
 cases hqi:q i with
 | zero=>rw[hqi] at hq;rw[hq.1] at hg;cases hg
 | succ k =>
  rw[hqi] at hq
  rcases hq with ⟨hf,_⟩|⟨_,g',es,hm,hstp,hq'⟩
  ·rw[hf] at hg;cases hg
  have hrunT:=Go.Conc.runT_crowd_go (P:=P) (sl:=sl) (i:=i) hi (by rw[hi0];exact hstp w)
  have hsz:((gs.map (Go.Conc.woken P g g' w)).setIfInBounds i g').size=gs.size:=by simp
  have hsum:sumTo gs.size (Go.ConcN.upd q i k)+(k+1)=sumTo gs.size q+k:=by
   have:=Go.ConcN.sumTo_upd q k id hlt
   simpa[hqi] using this
  refine⟨_,_,Go.ConcN.upd q i k,hrunT,?_,⟨fun j x hj hx=>?_,fun j hj=>?_⟩,?_,hsz,by rw[hsz];omega,fun A hA=>hA.app fun op hop=>?_⟩
  ·have hne:i≠0:=by omega
   rw[Array.getElem?_setIfInBounds_ne hne,Array.getElem?_map,h0]
   simp[Go.Conc.woken_run hr]
  ·by_cases hji:i=j
   ·subst hji
    rw[Array.getElem?_setIfInBounds_self_of_lt (by simpa using hlt)] at hx
    obtain rfl:=Option.some.inj hx
    rw[Go.ConcN.upd_same,Go.Conc.Deaf_own]
    exact hq'
   ·rw[Array.getElem?_setIfInBounds_ne hji,Array.getElem?_map] at hx
    obtain⟨y,hy,rfl⟩:=Option.map_eq_some_iff.1 hx
    have hqj:=hlv.old j y hj hy
    rw[Go.Conc.woken_quitsD hqj,Go.ConcN.upd_ne q k (Ne.symm hji),Go.Conc.Deaf_other t hji _ (fun op hop=>by obtain⟨e,_,rfl⟩:=Go.Conc.mem_ofEvents hop;rfl)]
    exact hqj
  ·rw[Go.Conc.Deaf_other t (g':=i) (by simp at hj;omega) _ (fun op hop=>by obtain⟨e,_,rfl⟩:=Go.Conc.mem_ofEvents hop;rfl)]
   exact hlv.above j (by simpa using hj)
  ·rw[hsz]
   exact htr.mute hpos (by omega) hm
  ·obtain⟨e,he,rfl⟩:=Go.Conc.mem_ofEvents hop
   intro x
   have h1:=Go.ConcR.loc_of_ofEvent x
   have:=hm e he
   obtain⟨loc,wr,sy⟩:=e
   simp only at h1
   subst h1
   simp[Event.mute] at this
theorem own_step {gs:Array Goroutine} {w w':World} {t:Trace} {q:Nat→Nat} {N0:Nat} (hlv:Leavers P t gs q) (htr:Tr Sb (gs.size-1) w.heap.size t) {g0 g':Goroutine} {es:Array Event} (h0:gs[0]?=some g0)
  (hst:stepG P true g0 w=.go g' w' es) (hd:DA Sb N0 w w' es) (sl:Option (Nat×Nat)) :
  ∃ gs1 t1,runT P (Go.Conc.crowd gs w sl) 0=(.next (Go.Conc.crowd gs1 w' sl),t1)∧gs1[0]?=some g'∧Leavers P (t++t1) gs1 q∧Tr Sb (gs1.size-1) w'.heap.size (t++t1)∧gs1.size=gs.size∧∀ A,NoRelease A t→NoRelease A (t++t1):=by
 have hrunT:=Go.Conc.runT_crowd_go (P:=P) (sl:=sl) (i:=0) h0 hst
 have hsz:((gs.map (Go.Conc.woken P g0 g' w')).setIfInBounds 0 g').size=gs.size:=by simp
 have hlt : 0<gs.size:=(Array.getElem?_eq_some_iff.1 h0).1
 refine⟨_,_,hrunT,by simp[hlt],⟨fun j x hj hx=>?_,fun j hj=>?_⟩,?_,hsz,fun A hA=>hA.app fun op hop=>?_⟩
 ·have hne : 0≠j:=by omega
  rw[Array.getElem?_setIfInBounds_ne hne,Array.getElem?_map] at hx
  obtain⟨y,hy,rfl⟩:=Option.map_eq_some_iff.1 hx
  have hq:=hlv.old j y hj hy
  rw[Go.Conc.woken_quitsD hq,Go.Conc.Deaf_other t (by omega) _ (fun op hop=>by obtain⟨e,_,rfl⟩:=Go.Conc.mem_ofEvents hop;rfl)]
  exact hq
 ·rw[Go.Conc.Deaf_other t (g':=0) (by simp at hj;omega) _ (fun op hop=>by obtain⟨e,_,rfl⟩:=Go.Conc.mem_ofEvents hop;rfl)]
  exact hlv.above j (by simpa using hj)
 ·rw[hsz]
  exact htr.own hd.size hd.evs
 ·obtain⟨e,he,rfl⟩:=Go.Conc.mem_ofEvents hop
  exact fun x=>(hd.evs e he).norel A (Go.ConcR.loc_of_ofEvent x)
theorem awake_beside {gs:Array Goroutine} {t:Trace} {q:Nat→Nat} (hlv:Leavers P t gs q) {g0:Goroutine} (h0:gs[0]?=some g0) (hr:g0.status=.running):∀ g∈gs,awake g:=by
 intro g hg
 obtain⟨i,hi,rfl⟩:=Array.mem_iff_getElem.1 hg
 rcases Nat.eq_zero_or_pos i with rfl|hpos
 ·have:=Array.getElem?_eq_getElem hi
  rw[h0] at this
  exact Go.Conc.awake_of (.inl (by rw[← Option.some.inj this];exact hr))
 ·exact Go.Conc.awake_of ((hlv.old i _ hpos (Array.getElem?_eq_getElem hi)).status.elim .inl fun x=>.inr (.inr x))
theorem alone_runs {Stop:Goroutine→World→Prop} {W0:World} (_hstop:∀ g w,Stop g w→g.status=.running):∀ (n M:Nat) (gs:Array Goroutine) (g:Goroutine) (w:World) (sl:Option (Nat×Nat)) (t:Trace) (q:Nat→Nat),sumTo gs.size q≤M→gs[0]?=some g→Leavers P t gs q→Tr Sb (gs.size-1) w.heap.size t →
  (∀ b,b<W0.heap.size→w.heap[b]?=W0.heap[b]?)→Calm W0 w→W0.heap.size≤w.heap.size→Goes P true AtRel (DA Sb W0.heap.size) Stop n g w →
  ∃ k gs1 g1 w1 sl1 t1 q1,runNT P k (Go.Conc.crowd gs w sl) t=(.next (Go.Conc.crowd gs1 w1 sl1),t1)∧gs1[0]?=some g1∧Stop g1 w1∧Leavers P t1 gs1 q1∧Tr Sb (gs1.size-1) w1.heap.size t1∧gs1.size=gs.size ∧
   (∀ b,b<W0.heap.size→w1.heap[b]?=W0.heap[b]?)∧Calm W0 w1∧W0.heap.size≤w1.heap.size∧∀ A,NoRelease A t→NoRelease A t1:=by
 intro n
 induction n with
 | zero =>
  intro M gs g w sl t q _ h0 hlv htr hk hc hs hg
  exact⟨0,gs,g,w,sl,t,q,rfl,h0,hg w ⟨w.drawn,rfl⟩,hlv,htr,rfl,hk,hc,hs,fun _ h=>h⟩
 | succ n ih =>
  intro M
  induction M using Nat.strongRecOn with
  | _ M ihM =>
  intro gs g w sl t q hM h0 hlv htr hk hc hs hg
  rcases hg with hg|⟨hr,hg⟩
  ·exact⟨0,gs,g,w,sl,t,q,rfl,h0,hg w ⟨w.drawn,rfl⟩,hlv,htr,rfl,hk,hc,hs,fun _ h=>h⟩
  ·obtain⟨i,g1,d,sl',hi,hgr,hst⟩:=Go.Conc.crowd_pick (P:=P) (w:=w) (sl:=sl) (awake_beside hlv h0 hr) ⟨0,g,h0,hr⟩
   rcases Nat.eq_zero_or_pos i with rfl|hpos
   ·have h1:=hg (w.at d) ⟨d,rfl⟩
    cases e:stepG P true g (w.at d) with
    | go g' w' es =>
     rw[e] at h1
     obtain⟨hd,h2⟩:=h1
     obtain⟨gs1,t1,hrun,k1,k2,k3,k4,kA⟩:=own_step (w:=w.at d) hlv htr h0 e hd sl'
     obtain⟨k,gs2,g2,w2,sl2,t2,q2,r1,r2,r3,r4,r5,r6,r7,r8,r9,rA⟩:=ih (sumTo gs1.size q) gs1 g' w' sl' (t++t1) q (Nat.le_refl _) k1 k2 k3 (fun b hb=>(hd.blk b hb).trans (hk b hb)) ((hc.trans (Calm.at w d)).trans hd.calm) (Nat.le_trans hs hd.size) h2
     refine⟨1+k,gs2,g2,w2,sl2,t2,q2,?_,r2,r3,r4,r5,r6.trans k4,r7,r8,r9,fun A h=>rA A (kA A h)⟩
     rw[runNT_add,JS hst hrun]
     exact r1
    | _=>rw[e] at h1;exact h1.elim
   ·obtain⟨gs1,t1,q1,hrun,k1,k2,k3,k4,k5,kA⟩:=slip (w:=w.at d) hlv htr h0 hr hpos hi hgr sl'
    obtain⟨k,gs2,g2,w2,sl2,t2,q2,r1,r2,r3,r4,r5,r6,r7,r8,r9,rA⟩:=ihM (sumTo gs1.size q1) (by omega) gs1 g (w.at d) sl' (t++t1) q1 (Nat.le_refl _) k1 k2 k3 hk (hc.trans (Calm.at w d)) hs (.inr ⟨hr,fun w1 ⟨d1,e⟩=>hg w1 ⟨d1,by rw[e];rfl⟩⟩)
    refine⟨1+k,gs2,g2,w2,sl2,t2,q2,?_,r2,r3,r4,r5,r6.trans k4,r7,r8,r9,fun A h=>rA A (kA A h)⟩
    rw[runNT_add,JS hst hrun]
    exact r1
end
end
section
theorem Plain.cells {v:Value} (h:Plain v):∀ c∈v.cells,Plain c:=by
 intro c hc B
 have hv:=h B
 cases v with
 | agg cs =>
  obtain⟨i,hi,rfl⟩:=Array.mem_iff_getElem.1 hc
  cases hv with
  | agg _ k=>exact k i _ _ (Array.getElem?_eq_getElem hi) (Array.getElem?_eq_getElem hi)
 | _=>simp only[Value.cells,Array.mem_singleton] at hc;subst hc;exact hv
theorem Ys {cs:Array Value} (h:∀ c∈cs,Plain c):Plain (.agg cs):=fun B=>.agg rfl fun i x y hx hy=>by
 rw[hx] at hy
 cases hy
 exact h x (Array.mem_of_getElem? hx) B
theorem zaz:Plain (.pointer none):=fun _=>.pointer .none
theorem plain_slice:Plain (.slice none 0 0):=fun _=>.slice _ _ .none
theorem plain_map:Plain (.map none):=fun _=>.map .none
theorem plain_chan:Plain (.chan none):=fun _=>.chan .none
theorem plain_nilFunc:Plain .nilFunc:=fun _=>.nilFunc
theorem zch {α β : Type} (Inv : β→Prop) (f : α→β→Option (ForInStep β)) (hs:∀ a b r,Inv b→f a b=some r→match r with|.done c=>Inv c|.yield c=>Inv c):∀ (l:List α) (b : β),Inv b→∀ r,forIn l b f=some r→Inv r
 | [],b,hb,r,h=>by simp at h;subst h;exact hb
 | a::l,b,hb,r,h=>by
  rw[List.forIn_cons] at h
  cases e:f a b with
  | none=>rw[e] at h;simp at h
  | some s =>
   rw[e] at h
   have:=hs a b s hb e
   cases s with
   | done c=>simp at h;subst h;exact this
   | yield c=>exact zch Inv f hs l c this r (by simpa using h)
def Qj (i:TypeInfo):Prop:=∀ v,i.zero=some v→Plain v
theorem struct_zero {info:TypeId→Option TypeInfo} (hi:∀ t i,info t=some i→Qj i) {fs:Array Field} {i:TypeInfo} (h:Made.reckonStruct info fs=some i):Qj i:=by
 unfold Made.reckonStruct at h
 simp only[bind,pure] at h
 rw[Option.bind_eq_some_iff] at h
 obtain⟨r,hr,h⟩:=h
 rw[← Array.forIn_toList] at hr
 have fin:∀ (z:Option (Array Value)) (i:TypeInfo) (n:Nat),(∀ zs,z=some zs→∀ c∈zs,Plain c)→Qj i→∀ zs,(if n > Made.mostCells then none else z.bind fun x=>i.zero.bind fun y=>some (x++y.cells))=some zs→∀ c∈zs,Plain c:=by
  intro z i n hz hzi zs e c hc
  split at e
  ·cases e
  ·rw[Option.bind_eq_some_iff] at e
   obtain⟨x,hx,e⟩:=e
   rw[Option.bind_eq_some_iff] at e
   obtain⟨y,hy,e⟩:=e
   cases e
   rcases Array.mem_append.1 hc with h|h
   ·exact hz x hx c h
   ·exact Plain.cells (hzi y hy) c h
 have key:=zch (fun x:Array Field×Nat×Nat×Nat×Nat×Bool×Bool×Option (Array Value)×String=>∀ zs,x.2.2.2.2.2.2.2.1=some zs→∀ c∈zs,Plain c) _ ?_ _ _ ?_ _ hr
 ·have hz:∀ v,r.2.2.2.2.2.2.2.1.map Value.agg=some v→Plain v:=fun v hv=>by
   obtain⟨zs,hzs,rfl⟩:=Option.map_eq_some_iff.1 hv
   exact Ys (key zs hzs)
  split at h<;>(cases h;exact hz)
 ·intro f b s hb hf
  rw[Option.bind_eq_some_iff] at hf
  obtain⟨i,hif,hf⟩:=hf
  have hzi:=hi _ _ hif
  split at hf
  ·simp at hf
  split at hf
  ·simp at hf
  split at hf
  ·rw[Option.bind_some] at hf
   split at hf<;>(cases hf;exact fin _ _ _ hb hzi)
  ·rw[Option.bind_eq_some_iff] at hf
   obtain⟨tag,_,hf⟩:=hf
   split at hf<;>(cases hf;exact fin _ _ _ hb hzi)
 ·intro zs e c hc
  cases e
  simp at hc
theorem reckon_zero {info:TypeId→Option TypeInfo} (hi:∀ t i,info t=some i→Qj i) {d:TypeDesc} {i:TypeInfo} (h:Made.reckon info d=some i):Qj i:=by
 have hword:∀ (s:Option String) (f:String→String) (z:Value) (c:Bool) (n:Nat),Plain z→∀ j,(s.bind fun x=>some (Made.word d (f x) z c n))=some j→Qj j:=by
  intro s f z c n hz j e
  rw[Option.bind_eq_some_iff] at e
  obtain⟨x,_,e⟩:=e
  cases e
  intro v hv
  cases hv
  exact hz
 unfold Made.reckon at h
 simp only[bind,pure] at h
 cases d with
 | pointer e =>
  simp only at h
  rw[Option.bind_eq_some_iff] at h
  obtain⟨x,hx,h⟩:=h
  split at h
  ·cases h
  ·split at h
   ·cases h
   ·exact hword _ _ _ _ _ zaz _ h
  ·exact hword _ _ _ _ _ zaz _ h
 | slice e =>
  simp only at h
  rw[Option.bind_eq_some_iff] at h
  obtain⟨x,hx,h⟩:=h
  exact hword _ _ _ _ _ plain_slice _ h
 | map k e =>
  simp only at h
  rw[Option.bind_eq_some_iff] at h
  obtain⟨x,hx,h⟩:=h
  rw[Option.bind_eq_some_iff] at h
  obtain⟨y,hy,h⟩:=h
  rw[Option.bind_eq_some_iff] at h
  obtain⟨z,hz,h⟩:=h
  exact hword _ _ _ _ _ plain_map _ h
 | chan dir e =>
  simp only at h
  rw[Option.bind_eq_some_iff] at h
  obtain⟨x,hx,h⟩:=h
  exact hword _ _ _ _ _ plain_chan _ h
 | func ps rs v =>
  simp only at h
  exact hword _ _ _ _ _ plain_nilFunc _ h
 | array n e =>
  simp only at h
  rw[Option.bind_eq_some_iff] at h
  obtain⟨x,hx,h⟩:=h
  rw[Option.bind_eq_some_iff] at h
  obtain⟨y,hy,h⟩:=h
  cases h
  intro v hv
  simp only at hv
  split at hv
  ·cases hv
  ·split at hv
   ·cases hv
    exact Ys fun c hc=>by simp at hc
   ·obtain⟨z,hz,rfl⟩:=Option.map_eq_some_iff.1 hv
    refine Ys fun c hc=>?_
    rw[Array.mem_flatten] at hc
    obtain⟨a,ha,hc⟩:=hc
    rw[Array.mem_replicate] at ha
    rw[ha.2] at hc
    exact Plain.cells (hi _ _ hx z hz) c hc
 | struct fs=>exact struct_zero hi h
 | _=>cases h
theorem zcc {T:Tables} (h:∀ i∈T.types,Qj i):∀ (n:Nat) (t:TypeId) (i:TypeInfo),Made.infoAt T n t=some i→Qj i
 | 0,_,_,e=>by simp[Made.infoAt] at e
 | n+1,t,i,e=>by
  unfold Made.infoAt at e
  split at e
  ·exact h i (Array.mem_of_getElem? e)
  ·rw[Option.bind_eq_some_iff] at e
   obtain⟨d,_,e⟩:=e
   exact reckon_zero (zcc h n) e
theorem types_ok {T:Tables} (h:∀ i∈T.types,Qj i) (h0:∀ i,T.info? 0=some i→i.methods.find? (·.name == "~")=none):TypesOk T:=⟨fun t i v e hv=>by
 unfold Tables.info? at e
 split at e
 ·exact h i (Array.mem_of_getElem? e) v hv
 ·exact zcc h _ t i e v hv,h0⟩
def Jr:Nat→Value→Bool
 | 0,_=>false
 | n+1,v=>match v with
  | .bool _|.int _ _|.float _ _|.complex _ _ _|.string _|.nilFunc|.nilIface|.pointer none|.slice none _ _|.map none|.chan none=>true
  | .iface _ v=>Jr n v
  | .agg c|.tuple c=>c.all (Jr n)
  | _=>false
theorem JP:∀ (n:Nat) (v:Value),Jr n v=true→Plain v
 | 0,_,h=>by cases h
 | n+1,v,h=>by
  unfold Jr at h
  have tup:∀ c:Array Value,c.all (Jr n)=true→∀ B (i:Nat) x y,c[i]?=some x→c[i]?=some y→VRel B x y:=by
   intro c hc B i x y hx hy
   rw[hx] at hy
   cases hy
   rw[Array.all_eq_true'] at hc
   exact JP n x (hc x (Array.mem_of_getElem? hx)) B
  split at h
  ·exact fun _=>.bool _
  ·exact fun _=>.int _ _
  ·exact fun _=>.float _ _
  ·exact fun _=>.complex _ _ _
  ·exact fun _=>.string _
  ·exact fun _=>.nilFunc
  ·exact fun _=>.nilIface
  ·exact fun _=>.pointer .none
  ·exact fun _=>.slice _ _ .none
  ·exact fun _=>.map .none
  ·exact fun _=>.chan .none
  ·exact fun B=>.iface _ (JP n _ h B)
  ·exact fun B=>.agg rfl (tup _ h B)
  ·exact fun B=>.tuple rfl (tup _ h B)
  ·cases h
structure LicB where
 m:Bool
 d:Nat→Bool
 p:Bool
 l:Bool
def LicB.none:LicB:=⟨false,fun _=>false,false,true⟩
def LicB.lic (b:LicB):Lic:=bif b.l then Lic.loop else ⟨b.m,fun n=>b.d n=true,b.p=true⟩
structure LicB.For (b:LicB) (L:Lic):Prop where
 d:∀ t,b.d t=false→¬ L.d t
 m:b.m=true→L.m=true
 p:b.p=true→L.p
 l:b.l=true→L=Lic.loop
theorem LicB.lic_for {b:LicB} (h:b.l=true→b.m=false∧b.p=false):b.For b.lic:=by
 unfold LicB.lic
 cases hl:b.l with
 | true=>exact⟨fun _ _=>id,fun e=>by simp[(h hl).1] at e,fun e=>by simp[(h hl).2] at e,fun _=>rfl⟩
 | false=>exact⟨fun t e hd=>Bool.noConfusion (e.symm.trans hd),id,id,fun e=>Bool.noConfusion (hl.symm.trans e)⟩
section
variable (P:Program) (b:LicB)
def zK:Operand→Bool
 | .tmp t=>!b.d t
 | .const v=>Jr 8 v
 | .global _=>false
 | .func _=>true
def zdu:Builtin→Bool
 | .append|.cap|.clear|.close|.copy|.len|.max|.min=>true
 | _=>false
def callB (c:Call):Bool:=(match c.callee with|.value f=>zK b f|.invoke _ _=>false|.builtin x=>zdu x)&&c.args.all (zK b)
def Yu (s d:TypeId):Bool:=(match P.underlying s with|some .unsafePointer=>false|_=>true)&&match P.underlying d with|some .unsafePointer|some (.slice _)=>false|_=>true
def optB (x:Option Operand):Bool:=match x with|some y=>zK b y|none=>true
def eqB (op:BinOp) (t:TypeId):Bool:=match op with|.eql|.neq=>!P.eqGuardType P.depth t|_=>true
def opB:Op→Bool
 | .move x|.assign x|.nilCheck x|.box _ x|.load _ x|.unOp _ _ x|.makeInterface _ x|.makeChan _ x|.fieldAddr _ x _|.field _ x _|.range _ x|.next x _|.extract x _=>zK b x
 | .typeAssert x _ _ ok=>ok&&zK b x
 | .panic x=>b.p&&zK b x
 | .pick c x y=>zK b c&&zK b x&&zK b y
 | .alloc _=>true
 | .build _ ps|.buildSlice _ _ ps=>ps.all fun x=>zK b x.2
 | .store _ a v|.makeSlice _ a v|.indexAddr _ a v|.index _ a v=>zK b a&&zK b v
 | .binOp op t a v _=>zK b a&&zK b v&&eqB P op t
 | .lookup t a v _|.mapEntry t a v=>zK b a&&zK b v&&decide (t<P.types.size)
 | .convert s d x=>Yu P s d&&zK b x
 | .makeFunc fn first captured=>(match fn with|.func _=>true|_=>false)&&first.all (zK b)&&captured.all (zK b)
 | .makeMap _ r=>optB b r
 | .slice _ x l h m=>zK b x&&optB b l&&optB b h&&optB b m
 | .mapUpdate t m k v|.insert t m k v=>zK b m&&zK b k&&zK b v&&decide (t<P.types.size)
 | .entryStore _ m k v=>zK b m&&zK b k&&zK b v
 | .call c=>callB b c||(b.m&&match c.callee with|.builtin .recover=>true|_=>false)
 | .defer c=>b.m&&callB b c
 | .send _ _|.recv _ _ _|.go _|.ready _|.waits _|.entry _|.select _ _|.sliceToArrayPointer _ _=>false
def codeB:Code→Bool
 | .region _ ops _=>ops.all fun o=>opB P b o.op&&match o.dst with|some t=>!b.d t|none=>true
 | .seq x y=>codeB x&&codeB y
 | .cond c x y=>zK b c&&codeB x&&codeB y
 | .block _ c|.loop c|.scope c=>codeB c
 | .rangeFunc f _ x y=>b.l&&zK b f&&codeB x&&codeB y
 | _=>true
end
section
variable {P:Program} {b:LicB} {L:Lic} (H:b.For L)
include H
theorem zH {x:Operand} (h:zK b x=true):zu P L x:=by
 cases x with
 | tmp t=>exact H.d t (by simpa[zK] using h)
 | const v=>exact JP 8 v h
 | global _=>cases h
 | func _=>trivial
theorem Qv {xs:Array Operand} (h:xs.all (zK b)=true):∀ x∈xs,zu P L x:=fun x hx=>zH H ((Array.all_eq_true'.1 h) x hx)
omit H in
theorem builtin_of {x:Builtin} (h:zdu x=true):Jc x:=by
 cases x<;>first|trivial|cases h
theorem zcy {x:Option Operand} (h:optB b x=true):∀ y,x=some y→zu P L y:=by
 rintro y rfl
 exact zH H h
theorem zep {c:Call} (h:callB b c=true):zcH P L c:=by
 unfold callB at h
 rw[Bool.and_eq_true] at h
 refine⟨?_,Qv H h.2⟩
 have h1:=h.1
 unfold zdB
 cases hc:c.callee with
 | value f=>rw[hc] at h1;exact zH H h1
 | invoke _ _=>rw[hc] at h1;cases h1
 | builtin x=>rw[hc] at h1;exact builtin_of h1
omit H in
theorem noUnsafe_of {s d:TypeId} (h:Yu P s d=true):zaH P s d:=by
 unfold Yu at h
 rw[Bool.and_eq_true] at h
 refine⟨fun e=>?_,fun e=>?_,fun x e=>?_⟩
 ·rw[e] at h;cases h.1
 ·rw[e] at h;cases h.2
 ·rw[e] at h;cases h.2
omit H in
theorem eq_of {op:BinOp} {t:TypeId} (h:eqB P op t=true):EqOk P op t:=by
 rintro (rfl|rfl)<;>simpa[eqB] using h
theorem op_of {o:Op} (h:opB P b o=true):OpOk P L o:=by
 cases o<;>simp only[opB,Bool.and_eq_true,Bool.or_eq_true,decide_eq_true_eq,Bool.false_eq_true] at h<;>simp only[OpOk]
 all_goals first
  | exact zH H h
  | exact⟨zH H h.1,zH H h.2⟩
  | exact⟨zH H h.1.1,zH H h.1.2,h.2⟩
  | exact⟨zH H h.1.1,zH H h.1.2,eq_of h.2⟩
  | exact⟨zH H h.1.1,zH H h.1.2,zH H h.2⟩
  | exact⟨zH H h.1.1.1,zH H h.1.1.2,zH H h.1.2,h.2⟩
  | exact⟨h.1,zH H h.2⟩
  | exact⟨H.p h.1,zH H h.2⟩
  | exact⟨noUnsafe_of h.1,zH H h.2⟩
  | exact⟨H.m h.1,zep H h.2⟩
  | exact fun x hx=>zH H ((Array.all_eq_true'.1 h) x hx)
  | exact zcy H h
  | exact⟨zH H h.1.1.1,zcy H h.1.1.2,zcy H h.1.2,zcy H h.2⟩
  | skip
 ·rename_i fn first captured
  refine⟨?_,Qv H h.1.2,Qv H h.2⟩
  cases fn with
  | func f=>exact⟨f,rfl⟩
  | _=>simp at h
 ·rcases h with h|⟨h1,h2⟩
  ·exact .inl (zep H h)
  ·refine .inr ⟨H.m h1,?_⟩
   split at h2
   ·assumption
   ·cases h2
theorem jK:∀ {c:Code},codeB P b c=true→qs P L c
 | .region _ ops _,h=>fun i o ho=>by
  have:=(Array.all_eq_true'.1 h) o (Array.mem_of_getElem? ho)
  rw[Bool.and_eq_true] at this
  refine⟨op_of H this.1,fun t ht=>?_⟩
  have h2:=this.2
  rw[ht] at h2
  exact H.d t (by simpa using h2)
 | .seq x y,h=>by
  simp only[codeB,Bool.and_eq_true] at h
  exact⟨jK h.1,jK h.2⟩
 | .cond c x y,h=>by
  simp only[codeB,Bool.and_eq_true] at h
  exact⟨zH H h.1.1,jK h.1.2,jK h.2⟩
 | .block _ c,h=>by simp only[codeB] at h;exact jK (c:=c) h
 | .loop c,h=>by simp only[codeB] at h;exact jK (c:=c) h
 | .scope c,h=>by simp only[codeB] at h;exact jK (c:=c) h
 | .rangeFunc f _ x y,h=>by
  simp only[codeB,Bool.and_eq_true] at h
  exact⟨zH H h.1.1.2,jK h.1.2,jK h.2,H.l h.1.1.1⟩
 | .skip,_|.exit _,_|.label _,_|.goto _,_|.ret,_|.refuse _,_=>trivial
end
end
section
theorem find_none (fn:Func):Extern.find { fn with name:= "",origin:= "" }=none:=by kernel_rfl
theorem findNext_none (fn:Func):Extern.findNext { fn with name:= "",origin:= "" }=none:=by kernel_rfl
theorem doomed_row {P:Program} {f:Nat} {fn:Func} (h:P.funcs[f]?=some { fn with name:= "",origin:= "" }) (hb:fn.body.isNone=true) (a:Array Value):Doomed P (callFunc f a):=by
 unfold callFunc
 refine .program ?_
 show Doomed P (match P.funcs[f]? with|none=>stuck "call: no such function" | some fn=>_)
 rw[h]
 dsimp only
 rw[find_none,findNext_none]
 have e1:(("" : String) == "runtime.NumGoroutine")=false:=by decide
 have e2:(("" : String).endsWith ".init" && !("" : String).startsWith "(" && !("" : String).startsWith "gosem.")=false:=by kernel_rfl
 rw[e1,hb,e2]
 exact .mark (.halt trivial)
section
variable (R:Program) (special:Nat→Bool) (stub:Nat→Func→Code) (lb:Nat→LicB)
def modF (f:Nat) (fn:Func):Func:=bif fn.body.isNone then { fn with name:= "",origin:= "" } else bif special f then { fn with body:=some (stub f fn) } else fn
abbrev leftP:Program:={ R with funcs:=R.funcs.mapIdx (modF special stub) }
def bareB (f:Nat):Bool:=match R.funcs[f]? with|some fn=>fn.body.isNone|none=>false
def Ex (f:FuncId):Prop:=(special f||bareB R f)=true
def funcB (f:Nat) (fn:Func):Bool:=
 (fn.body.isNone||fn.name != "runtime.NumGoroutine")&&(special f||(match fn.body with|some c=>codeB R (lb f) c|none=>true))&&fn.results.all (fun x=>!(lb f).d (zaa x))&&(!(lb f).l||(!(lb f).m&&!(lb f).p))
def zdH:Bool:=(List.range R.funcs.size).all fun f=>match R.funcs[f]? with|some fn=>funcB R special lb f fn|none=>true
def zdC:Bool:=(R.types.all fun i=>match i.zero with|some v=>Jr 8 v|none=>true)&&(match R.info? 0 with|some i=>(i.methods.find? (·.name == "~")).isNone|none=>true)
end
section
variable {R:Program} {special:Nat→Bool} {stub:Nat→Func→Code} {lb:Nat→LicB}
theorem qi (f:Nat):(leftP R special stub).funcs[f]?=(R.funcs[f]?).map (modF special stub f):=by
 show (R.funcs.mapIdx (modF special stub))[f]?=_
 rw[Array.getElem?_mapIdx]
theorem modF_bare {f:Nat} {fn:Func} (h:fn.body.isNone=true):modF special stub f fn={ fn with name:= "",origin:= "" }:=by unfold modF;rw[h];rfl
theorem Qb {f:Nat} {fn:Func} (h:fn.body.isNone=false) (hs:special f=true):modF special stub f fn={ fn with body:=some (stub f fn) }:=by unfold modF;rw[h,hs];rfl
theorem zaM {f:Nat} {fn:Func} (h:fn.body.isNone=false) (hs:special f=false):modF special stub f fn=fn:=by unfold modF;rw[h,hs];rfl
theorem JV (f:Nat) (fn:Func):(modF special stub f fn).results=fn.results:=by
 unfold modF
 cases fn.body.isNone<;>cases special f<;>rfl
theorem modF_norace (f:Nat) (fn:Func):(modF special stub f fn).norace=fn.norace:=by
 unfold modF
 cases fn.body.isNone<;>cases special f<;>rfl
theorem Zk (f:Nat) (fn:Func):(modF special stub f fn).body.isNone=fn.body.isNone:=by
 unfold modF
 cases h:fn.body.isNone<;>cases special f<;>simp[h]
theorem eqB_left (op:BinOp) (t:TypeId):eqB (leftP R special stub) op t=eqB R op t:=by
 have h:(leftP R special stub).eqGuardType (leftP R special stub).depth t=R.eqGuardType R.depth t:=ZF ..
 cases op<;>simp only[eqB,h]
theorem opB_left (b:LicB) (o:Op):opB (leftP R special stub) b o=opB R b o:=by
 cases o with
 | binOp op t x y yt=>simp only[opB,eqB_left]
 | _=>rfl
theorem qD (b:LicB):∀ c:Code,codeB (leftP R special stub) b c=codeB R b c
 | .region _ ops _=>by simp only[codeB,opB_left]
 | .seq x y=>by simp only[codeB,qD b x,qD b y]
 | .cond c x y=>by simp only[codeB,qD b x,qD b y]
 | .block _ c=>by simp only[codeB,qD b c]
 | .loop c=>by simp only[codeB,qD b c]
 | .scope c=>by simp only[codeB,qD b c]
 | .rangeFunc f _ x y=>by simp only[codeB,qD b x,qD b y]
 | .skip|.exit _|.label _|.goto _|.ret|.refuse _=>rfl
theorem zeu (ht:zdC R=true) (hf:zdH R special lb=true) (hl:∀ f,R.funcs.size≤f→(lb f).d 0=false) :
  Two (leftP R special stub) R.funcs (Ex R special) fun f=>(lb f).lic:=by
 have hfn:∀ (f:Nat) fn,R.funcs[f]?=some fn→funcB R special lb f fn=true:=fun f fn h=>by
  have hlt:=(Array.getElem?_eq_some_iff.1 h).1
  have:=List.all_eq_true.1 hf f (List.mem_range.2 hlt)
  rw[h] at this
  exact this
 have hlic:∀ (f:Nat) fn,R.funcs[f]?=some fn→(lb f).For (lb f).lic:=fun f fn h=>by
  have h1:=hfn f fn h
  unfold funcB at h1
  rw[Bool.and_eq_true] at h1
  refine LicB.lic_for fun e=>?_
  have h2:=h1.2
  rw[e] at h2
  simpa using h2
 have hnoF:∀ (f:Nat) fn,R.funcs[f]?=some fn→¬ Ex R special f→fn.body.isNone=false∧special f=false:=fun f fn h hF=>by
  unfold Ex bareB at hF
  rw[h] at hF
  rw[Bool.not_eq_true,Bool.or_eq_false_iff] at hF
  exact⟨hF.2,hF.1⟩
 have ht':=ht
 unfold zdC at ht'
 rw[Bool.and_eq_true] at ht'
 refine⟨types_ok (fun i hi v hv=>?_) (fun i hi=>?_),⟨fun f fn h hb=>?_,fun f fn h hb a=>?_⟩,by simp,fun f hF=>?_,fun f=>?_,fun f fn h x hx=>?_,fun f h=>?_,fun f fn c hF h hc=>?_,fun f=>?_⟩
 ·have:=(Array.all_eq_true'.1 ht'.1) i hi
  rw[hv] at this
  exact JP 8 v this
 ·have h2:=ht'.2
  have hi':R.info? 0=some i:=hi
  rw[hi'] at h2
  simpa using h2
 ·rw[qi] at h
  obtain⟨g,hg,rfl⟩:=Option.map_eq_some_iff.1 h
  rw[Zk] at hb
  have h1:=hfn f g hg
  unfold funcB at h1
  simp only[hb,Bool.false_or,Bool.and_eq_true] at h1
  have hn:(g.name == "runtime.NumGoroutine")=false:=by simpa[bne] using h1.1.1.1
  refine⟨g,hg,hb,?_,hn⟩
  unfold modF
  rw[hb]
  cases special f<;>exact hn
 ·rw[qi] at h
  obtain⟨g,hg,rfl⟩:=Option.map_eq_some_iff.1 h
  rw[Zk] at hb
  exact doomed_row (fn:=g) (by rw[qi,hg,Option.map_some,modF_bare hb]) hb a
 ·rw[qi]
  cases h:R.funcs[f]? with
  | none=>rfl
  | some fn =>
   obtain⟨h1,h2⟩:=hnoF f fn h hF
   rw[Option.map_some,zaM h1 h2]
 ·rw[qi,Option.map_map]
  congr 1
  funext fn
  exact (JV f fn).symm
 ·rw[qi] at h
  obtain⟨g,hg,rfl⟩:=Option.map_eq_some_iff.1 h
  rw[JV] at hx
  have h1:=hfn f g hg
  unfold funcB at h1
  rw[Bool.and_eq_true,Bool.and_eq_true] at h1
  have:=(Array.all_eq_true'.1 h1.1.2) x hx
  exact (hlic f g hg).d _ (by simpa using this)
 ·have hsz:R.funcs.size≤f:=by
   rw[qi] at h
   have:=Option.map_eq_none_iff.1 h
   exact Array.getElem?_eq_none_iff.1 this
  intro hd
  have h0:=hl f hsz
  unfold LicB.lic at hd
  cases e:(lb f).l with
  | true=>rw[e] at hd;exact hd
  | false =>
   rw[e] at hd
   exact Bool.noConfusion (h0.symm.trans hd)
 ·rw[qi] at h
  obtain⟨g,hg,rfl⟩:=Option.map_eq_some_iff.1 h
  obtain⟨h1,h2⟩:=hnoF f g hg hF
  rw[zaM h1 h2] at hc
  have h3:=hfn f g hg
  unfold funcB at h3
  rw[Bool.and_eq_true,Bool.and_eq_true,Bool.and_eq_true,h2,hc] at h3
  exact jK (P:=leftP R special stub) (hlic f g hg) (c:=c) ((qD _ _).trans h3.1.1.2)
 ·rw[qi]
  cases R.funcs[f]? with
  | none=>rfl
  | some fn=>exact (modF_norace f fn).symm
end
end
section
theorem Jp:(v':Value)→∃ u,∀ C,VRel C u v'
 | .bool b=>⟨_,fun _=>.bool b⟩
 | .int k n=>⟨_,fun _=>.int k n⟩
 | .float k n=>⟨_,fun _=>.float k n⟩
 | .complex k a b=>⟨_,fun _=>.complex k a b⟩
 | .string s=>⟨_,fun _=>.string s⟩
 | .pointer none=>⟨_,fun _=>.pointer .none⟩
 | .pointer (some _)=>⟨_,fun _=>.poison ⟨by simp,by simp,by simp,by simp,by simp,by simp⟩⟩
 | .slice _ _ _=>⟨_,fun _=>.poison ⟨by simp,by simp,by simp,by simp,by simp,by simp⟩⟩
 | .map _=>⟨_,fun _=>.poison ⟨by simp,by simp,by simp,by simp,by simp,by simp⟩⟩
 | .chan _=>⟨_,fun _=>.poison ⟨by simp,by simp,by simp,by simp,by simp,by simp⟩⟩
 | .func f a b=>by
  cases f with
  | method n=>exact⟨_,fun _=>.odd n a b⟩
  | _=>exact⟨_,fun _=>.poison ⟨by simp,by simp,by simp,by simp,by simp,by simp⟩⟩
 | .nilFunc=>⟨_,fun _=>.nilFunc⟩
 | .iface _ _=>⟨_,fun _=>.poison ⟨by simp,by simp,by simp,by simp,by simp,by simp⟩⟩
 | .nilIface=>⟨_,fun _=>.nilIface⟩
 | .tuple _=>⟨_,fun _=>.poison ⟨by simp,by simp,by simp,by simp,by simp,by simp⟩⟩
 | .agg c'=>by
  have hx:∀ i:_root_.Fin c'.size,∃ u,∀ C,VRel C u c'[i]:=fun i=>Jp c'[i]
  refine⟨.agg (Array.ofFn fun i=>Classical.choose (hx i)),fun C=>.agg (by simp) fun i x y h1 h2=>?_⟩
  have hlt:i<c'.size:=(Array.getElem?_eq_some_iff.1 h2).1
  rw[Array.getElem?_eq_getElem (by simpa using hlt)] at h1
  rw[Array.getElem?_eq_getElem hlt] at h2
  cases h1
  cases h2
  simp only[Array.getElem_ofFn]
  exact Classical.choose_spec (hx ⟨i,hlt⟩) C
termination_by v'=>SizeOf.sizeOf v'
section
variable (N:Nat→Prop) (ok:Code→Prop) (okF has:FuncId→Prop) (glob:Nat) (ou:Prop)
def idN:Ren:=⟨fun a b=>a=b∧N a,ok,okF,has,glob,ou,fun h=>by rw[h.1],fun h k=>h.1.symm.trans k.1,fun h k=>h.1.trans k.1.symm⟩
open Classical in
noncomputable def keepN (v:Value):Value:=if VRel (idN N ok okF has glob ou) v v then v else Classical.choose (Jp v)
open Classical in
noncomputable def maskO (b:Nat) (o:Obj):Obj:=if N b then match o with|.cells c t m=>.cells (c.map (keepN N ok okF has glob ou)) t (0,max c.size m.2)|o=>o else o
noncomputable def maskW (w:World):World:={ w with heap:=w.heap.mapIdx (maskO N ok okF has glob ou) }
end
section
variable {N:Nat→Prop} {ok:Code→Prop} {okF has:FuncId→Prop} {glob:Nat} {ou:Prop} {w:World}
theorem keepN_known {v:Value} (h:VRel (idN N ok okF has glob ou) v v):keepN N ok okF has glob ou v=v:=by unfold keepN;rw[if_pos h]
theorem keepN_rel (v:Value):VRel (idN N ok okF has glob ou) (keepN N ok okF has glob ou v) v:=by
 unfold keepN
 by_cases hv:VRel (idN N ok okF has glob ou) v v
 ·rw[if_pos hv];exact hv
 ·rw[if_neg hv]
  exact Classical.choose_spec (Jp v) _
theorem maskW_size:(maskW N ok okF has glob ou w).heap.size=w.heap.size:=by simp[maskW]
theorem maskW_get (b:Nat):(maskW N ok okF has glob ou w).heap[b]?=(w.heap[b]?).map (maskO N ok okF has glob ou b):=by
 show (w.heap.mapIdx (maskO N ok okF has glob ou))[b]?=_
 rw[Array.getElem?_mapIdx]
theorem Yv {b:Nat} (hb:N b) {c:Array Value} {t:TypeId} {m:Nat×Nat} (h:w.heap[b]?=some (.cells c t m)):(maskW N ok okF has glob ou w).heap[b]?=some (.cells (c.map (keepN N ok okF has glob ou)) t (0,max c.size m.2)):=by
 rw[maskW_get,h,Option.map_some]
 unfold maskO
 rw[if_pos hb]
theorem Ju {a:Addr} {v:Value} (hb:N a.block) (h:w.cell? a=some v) (hv:VRel (idN N ok okF has glob ou) v v):(maskW N ok okF has glob ou w).cell? a=some v:=by
 unfold World.cell? at h ⊢
 split at h
 ·rename_i c t m hc
  rw[Yv hb hc]
  simp only
  split at h
  ·cases h
  ·rename_i hs
   rw[if_neg hs,Array.getElem?_map,h,Option.map_some,keepN_known hv]
 ·cases h
theorem Ya {b:Nat} (hb:N b) {c:Array Value} {t:TypeId} {m:Nat×Nat} (h:w.heap[b]?=some (.cells c t m)):ja (maskW N ok okF has glob ou w) b:=by
 refine⟨_,_,_,Yv hb h,fun i hi=>⟨Nat.zero_le _,?_⟩⟩
 rw[Array.size_map] at hi
 exact Nat.lt_of_lt_of_le hi (Nat.le_max_left _ _)
def Seen (w:World) (b:Nat):Prop:=∃ c t m,w.heap[b]?=some (.cells c t m)
theorem zbW (hN:∀ b,N b→Seen w b) (hg:glob≤w.heap.size):WRel (idN N ok okF has glob ou) (maskW N ok okF has glob ou w) w:=by
 refine⟨fun r r' h=>?_,rfl,by rw[maskW_size];exact hg,hg⟩
 obtain⟨rfl,hr⟩:=h
 obtain⟨c,t,m,h1⟩:=hN r hr
 refine⟨_,_,Yv hr h1,h1,.cells t ⟨fun _=>⟨Nat.zero_le _,Nat.le_max_right _ _⟩⟩ ⟨by simp,fun i x y hx hy=>?_⟩⟩
 rw[Array.getElem?_map,hy,Option.map_some] at hx
 cases hx
 exact keepN_rel y
theorem seen_of {B:Ren} {w w':World} (_:WRel B w w') {r b:Nat} (_:B r b) {c:Array Value} {t:TypeId} {m:Nat×Nat} (hc:w'.heap[b]?=some (.cells c t m)):Seen w' b:=⟨c,t,m,hc⟩
end
end
section
section
variable {P:Program} {fs:Array Func} {F:FuncId→Prop} {Lf:FuncId→Lic} {B:Ren}
theorem follow_last (H:Two P fs F Lf) (hF:Fit P Lf B) {f:FuncId} {Rl:Ending→World→Prop} {mn:Bool} {s:St} {fr' c:Frame} {rest:List Frame} {w':World} (h:OnR P Lf .normal B s.fr fr' [] []) (hw:WRel B s.w w') (hG:Good P (Done P f Rl) s) (hs:s.stop P) :
  ∃ v v' w w1' es es' C,stepG (swap P fs) mn { frame:=fr',callers:=c::rest,status:=.running,dying:=none } w'=.go { frame:=c.finish v',callers:=rest,status:=.running,dying:=none } w1' es' ∧
   Rl (.returned v) w∧VRel C v v'∧WRel C w w1'∧B.up C s.w.heap.size w'.heap.size∧EsR C es es'∧Own s.w w w' w1' C∧Seals s.w w es:=by
 obtain⟨hc0,hm0,hd0⟩:=hs
 have hk:s.fr.kind=.normal∧fr'.kind=.normal:=h.kinds.2
 obtain⟨hmr,hq⟩:=hG.stop ⟨hc0,hm0,hd0⟩ hk.1
 obtain⟨hfn,v,hR,hl⟩:=hq s.w.tape fun _ _=>rfl
 obtain⟨_,_,_,fn,hf,hres⟩:=hl
 have hfr':=h.rel
 have hmode:fr'.mode=.returning:=by
  have:=hfr'.mode
  rw[hmr] at this
  generalize fr'.mode=m at this
  cases this
  rfl
 have hdef:fr'.defers=[]:=by
  have:=hfr'.defers
  rw[hd0] at this
  generalize fr'.defers=m at this
  cases this
  rfl
 have hres2:=H.results s.fr.fn
 rw[hf] at hres2
 obtain⟨fn',hf',hre⟩:∃ fn',fs[s.fr.fn]?=some fn'∧fn'.results=fn.results:=by simpa using hres2
 have hf2:(swap P fs).funcs[fr'.fn]?=some fn':=by rw[hfr'.fn];exact hf'
 have hrr:∀ a,results fn' a=results fn a:=fun a=>by unfold results;rw[hre]
 obtain⟨t0,n,hnn,hrun⟩:=(QR (P:=P) (fs:=fs) hF.based fn (H.live _ _ hf) hfr'.tmps).run hw #[] #[]
 have hT:∀ x:Nat→Question→Nat,(∀ d,d<s.w.drawn→x d=s.w.tape d)→∃ v w1 es,(results fn s.fr.tmps).runT P { s.w with tape:=x } #[]=(.ok v w1,es)∧Rl (.returned v) w1:=by
  intro x hx
  obtain⟨_,v,hR,_,_,_,fn2,hf3,hres3⟩:=hq x hx
  rw[hf] at hf3
  cases hf3
  have:=Sem.runT_fst P (results fn s.fr.tmps) { s.w with tape:=x } #[]
  rw[hres3] at this
  exact⟨v,_,_,Prod.ext this rfl,hR⟩
 let x:Nat→Question→Nat:=fun d=>if d<s.w.drawn then s.w.tape d else t0 d
 have hx1:∀ d,d<s.w.drawn→x d=s.w.tape d:=fun d hd=>if_pos hd
 have hx2:Agrees x t0 s.w.drawn n:=fun d hd _=>if_neg (Nat.not_lt.2 hd)
 obtain⟨v,w1,es,hrx,hRv⟩:=hT x hx1
 rcases hrun with hbad|⟨C,v1,v',w1,w1',d,d',he⟩|⟨C,v1,v',w1,w1',d,d',he⟩
 ·obtain⟨hl,w2,es2,e,hb⟩:=hbad x hx2
  rw[hrx] at e
  cases e
 rotate_left
 ·have:=he.left x hx2
  rw[hrx] at this
  cases this
 ·have hleft:=he.left x hx2
  rw[hrx] at hleft
  have ev:v=v1:=by cases hleft;rfl
  have ew:∃ u,u={ heap:=w1.heap,tape:=x,drawn:=w1.drawn,os:=w1.os,output:=w1.output }∧Rl (.returned v) u:=by
   cases hleft
   exact⟨_,rfl,hRv⟩
  obtain⟨u,eu,hu⟩:=ew
  have hright:=he.right
  simp only[Array.empty_append] at hright
  have hev:EsR C (seen P s.fr.fn d) (seen (swap P fs) fr'.fn d'):=by rw[hfr'.fn];exact yG H _ he.evs
  subst ev
  refine⟨v,v',u,w1',_,_,C,?_,hu,he.rel,?_,he.up,hev,?_,?_⟩
  ·simp only[stepG,hmode,unwind,hdef,hf2,hrr,hright,doReturn,hk.2,GStep.after]
   try rfl
  ·subst eu
   exact he.mem.taped x w1'.tape w1.drawn w1'.drawn
  ·subst eu
   exact⟨he.own.size,he.own.os,he.own.same,he.own.sizeL,he.own.sameL⟩
  ·subst eu
   exact (he.keeps.seen (P:=P) (f:=s.fr.fn)).to_heap rfl
end
end
end Go.Par
